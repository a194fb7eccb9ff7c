/-
  The functions that the law TopReplies reaches, walked: each returns what its model says.
  Conditions: those that each theorem states.
-/
import Derived.Test.YtbjakddkfgjkaaaGreatDoorFf
import Derived.Test.YtbjakddkfgjkaaaGreatDoorChecked
set_option linter.unusedVariables false
set_option linter.unusedSimpArgs false
set_option maxRecDepth 100000
set_option maxHeartbeats 2000000
namespace Go.Proofs.YtbjakddkfgjkaaaGreatDoor.W
open Go.Proofs.YtbjakddkfgjkaaaGreatDoor.Fw Go.RowKit
attribute [local irreducible] JM nx
theorem Tryz_mixed : Tryz.prog.follows .mixedOrders = true := by kernel_rfl
theorem laid : laidOutB Tryz.prog = true := by kernel_rfl
abbrev tK : TK := ⟨40, 111, 65, 9, 108⟩
theorem mtOnce : MT Tryz.prog 45 60 4 kv3 vvB false := ⟨by kernel_rfl, ⟨_, Tryz.underlying60⟩, fun em w k => by kernel_rfl, eq3 fun a b c a' b' c' => by kernel_rfl, fun w => by kernel_rfl, bits3⟩
theorem mtReplies : MT Tryz.prog 63 67 56 kv2 vvR ⟨0, 0, emp⟩ := ⟨by kernel_rfl, ⟨_, Tryz.underlying67⟩, fun em w k => by kernel_rfl, eq2 fun a b a' b' => by kernel_rfl, fun w => by kernel_rfl, bits2⟩
theorem lock_Name1 (c : UInt8) (w : World) : Calls Tryz.prog 119 #[.int .u8 (c.toNat : Int)] w fun e w' => e = .returned (vb (nameBad c)) ∧ Kp [] w w' := by
 refine M0 ?_ Tryz.func119
 refine Md ((c.toNat : Int) < 97) (fun h1 => ?_) fun h1 => ?_
 · exact Mt [vb true] fun bs w hS => ⟨by simp [retOf, den, nameBad, h1], hS.kp⟩
 exact Mt [vb (decide ((122 : Int) < (c.toNat : Int)))] fun bs w hS => ⟨by simp [retOf, den, nameBad, h1], hS.kp⟩
theorem idx_bytes {B : Nat → Prop} (s : Sl UInt8) (w : World) (hs : s.rd B w) : Calls Tryz.prog 144 #[s.val, .func (.func 119) #[] #[]] w fun e w' => e = .returned (vi (mIdx nameBad s.xs)) ∧ Kp [] w w' := by
 have oks := Sl.rd.ok hs
 have ncs := Sl.ok.nc oks
 have hns : s.n = s.xs.length := rfl
 refine Mj ?_ Tryz.func144 (WS.start w)
 refine Ml (σ := Nat) (fun i => i ≤ s.n ∧ ∀ j, j < i → nameBad (s.at j) = false) (fun i => s.n - i) (fun _ => []) [8, 7, 0, 1] (fun i => [(8, vI (i : Int))]) (fun _ => []) ?_ 0 ⟨Nat.zero_le _, fun j hj => absurd hj (Nat.not_lt_zero _)⟩
 rintro i ⟨hi, hI⟩ _ on1
 refine Md ((i : Int) < (s.n : Int)) (fun h1 => ?_) fun h1 => ?_
 rotate_left
 · exact Me0 (-1) (by rw [mIdx_none fun j hj => hI j (by omega)])
 refine Mi ?_ (pA 14 15 (i : Int) i (rdk hs))
 refine Mp ?_ Tryz.call119 (fun bs w hS => lock_Name1 (s.at i) w)
 refine Mb (nameBad (s.at i)) (fun h2 => ?_) fun h2 => ?_
 · exact Me0 (i : Int) (by rw [mIdx_here (by omega) (by assumption) hI])
 refine Mi ?_ (pR ((i : Int) + 1))
 exact on1 (i + 1) ⟨by omega, fun j hj => by rcases Nat.lt_succ_iff_lt_or_eq.1 hj with h | h; exact hI j h; subst h; assumption⟩ (by omega)
theorem has_bytes {B : Nat → Prop} (s : Sl UInt8) (w : World) (hs : s.rd B w) : Calls Tryz.prog 118 #[s.val, .func (.func 119) #[] #[]] w fun e w' => e = .returned (vb (s.xs.any nameBad)) ∧ Kp [] w w' := by
 have oks := Sl.rd.ok hs
 have ncs := Sl.ok.nc oks
 have hns : s.n = s.xs.length := rfl
 refine Mj ?_ Tryz.func118 (WS.start w)
 refine Mp ?_ Tryz.call144 (fun bs w hS => idx_bytes _ w (Sl.rd.kp hs hS.kp))
 exact Meb (decide ((0 : Int) ≤ mIdx nameBad s.xs)) (by simp only [retOf, den, List.map_cons, List.map_nil, mIdx_nonneg])
theorem lock_Name (s : ByteArray) (w : World) (hs : s.size ≤ 9223372036854775807) : Calls Tryz.prog 82 #[vs s] w fun e w' => e = .returned (vb (mName s)) ∧ Kp [] w w' := by
 refine M0 ?_ Tryz.func82
 refine Mdn (s = emp) (fun h1 => ?_) fun h1 => ?_
 · exact Meb false (by simp [retOf, den, mName, *])
 refine Md ((s.size : Int) ≤ 6) (fun h2 => ?_) fun h2 => ?_
 rotate_left
 · exact Meb false (by simp [retOf, den, mName, *])
 refine Msy ?_ (e := 5) (by unfold maxLen; omega)
 rintro fp1 y1 hF1 hok1
 refine Mp ?_ Tryz.call118 (fun bs w hS => has_bytes _ w (hS.res _ i0))
 exact Meb (!(y1.xs.any nameBad)) (by simp [retOf, den, mName, *])
theorem codec_Number (n : Int) (w : World) : Calls Tryz.prog 80 #[vi n] w fun e w' => e = .returned (.tuple #[vs (mNumber n).1, vi (mNumber n).2]) ∧ Kp [] w w' := by
 refine M0 ?_ Tryz.func80
 refine Md (n < 0) (fun h1 => ?_) fun h1 => ?_
 · exact Mt [ve, vi 2] fun bs w hS => ⟨by simp [retOf, den, mNumber, h1], hS.kp⟩
 refine Md ((1099511627776 : Int) < n) (fun h2 => ?_) fun h2 => ?_
 · exact Mt [ve, vi 2] fun bs w hS => ⟨by simp [retOf, den, mNumber, h1, h2], hS.kp⟩
 refine m_row 5 1 ?_
 refine Ml (σ := List Int × Int × Nat × Option Addr × Nat) (fun ⟨done, m, f, A, c⟩ => NumIn n done m f) (fun ⟨done, m, f, A, c⟩ => f) (fun ⟨done, m, f, A, c⟩ => [rowR 5 1 A done.length c (done.map (Value.int .u8))]) [4, 0] (fun ⟨done, m, f, A, c⟩ => [(4, .v (.slice A done.length c)), (0, vI m)]) (fun _ => []) ?_ (⟨[], n, 5, none, 0⟩) (NumIn.start (by omega) (by omega))
 rintro ⟨done, m, f, A, c⟩ hI _ on1
 have hlo := hI.lo
 have hhi := hI.hi
 have hlen := hI.len
 refine Md ((128 : Int) ≤ m) (fun h3 => ?_) fun h3 => ?_
 · refine M1 ?_
   refine Mar 1 [.int .u8 ((bits .or .i64 (bits .and .i64 m 127) 128) % 256)] ?_ (k := 1)
   intro A1 c1
   refine Mi ?_ (pc (pP ((0 : Int) ≤ 7)) (pP (7 ≤ (64 : Int))))
   have hst := hI.step h3
   exact on1 ⟨done ++ [128 + m % 128], m / 128, f - 1, A1, c1⟩ hst.2 (by have := hst.1; show f - 1 < f; omega) (hp := (by simp only [List.length_append, List.length_cons, List.length_nil]; kernel_rfl)) (hR := (by rw [byte_or m hlo hhi]; simp))
 refine M1 ?_
 refine Mar 1 [.int .u8 (m % 256)] ?_ (k := 1)
 intro A2 c2
 refine Mst (eS := 5) (A := A2) (n := done.length + 1) (c := c2) (done ++ [m % 256]) ?_ (fun bs w hS => ?_) (hn := by first | rfl | simp)
 rotate_left
 · obtain ⟨g, hg, hc⟩ := row_cells (e := 5) (size := 1) (A := A2) (n := done.length + 1) (c := c2) (xs := done.map (Value.int .u8) ++ [.int .u8 (m % 256)]) hS (by simp) (by omega)
   subst hg
   exact ⟨⟨g, 0, none⟩, rfl, by simpa using hc⟩
 refine Mt [vs (bstr (done ++ [m % 256])), vi 0] fun bs w hS => ?_
 have e1 : m % 256 = m := by omega
 have e2 := hI.done (by omega)
 refine ⟨?_, hS.kp⟩
 simp only [retOf, den, List.map_cons, List.map_nil, mNumber, e1, e2]
 rw [if_neg (by omega)]
theorem codec_Text (s : ByteArray) (w : World) (hs : s.size ≤ 9223372036854775807) : Calls Tryz.prog 81 #[vs s] w fun e w' => e = .returned (.tuple #[vs (mText s).1, vi (mText s).2]) ∧ Kp [] w w' := by
 refine M0 ?_ Tryz.func81
 refine Md ((5000 : Int) < (s.size : Int)) (fun h1 => ?_) fun h1 => ?_
 · refine Mt [ve, vi 1] fun bs w hS => ?_
   refine ⟨?_, hS.kp⟩
   simp only [retOf, den, List.map_cons, List.map_nil, mText]
   first | rw [if_pos (by omega)] | rw [if_neg (by omega)]
 refine Mp ?_ Tryz.call80 (fun bs w hS => codec_Number (s.size : Int) w)
 refine Mi ?_ (pP ((mNumber (s.size : Int)).1.size + s.size ≤ 9223372036854775807) (by have := mNumber_size (s.size : Int); omega))
 refine Mt [vs ((mNumber (s.size : Int)).1 ++ s), vi 0] fun bs w hS => ?_
 refine ⟨?_, hS.kp⟩
 simp only [retOf, den, List.map_cons, List.map_nil, mText]
 first | rw [if_pos (by omega)] | rw [if_neg (by omega)]
theorem codec_ReadNumber (s : ByteArray) (w : World) (hs : s.size ≤ 9223372036854775807) : Calls Tryz.prog 48 #[vs s] w fun e w' => e = .returned (.tuple #[vi (mRead s).1, vs (mRead s).2.1, vi (mRead s).2.2]) ∧ Kp [] w w' := by
 refine M0 ?_ Tryz.func48
 refine Ml (σ := Nat × Int) (fun ⟨i, n⟩ => RdIn s i n) (fun ⟨i, n⟩ => 6 - i) (fun _ => []) [6, 5, 0] (fun ⟨i, n⟩ => [(6, vI (i : Int)), (5, vI n)]) (fun _ => []) ?_ (⟨0, 0⟩) (RdIn.start s)
 rintro ⟨i, n⟩ hI _ on1
 have hle := hI.le
 have hsz := hI.sz
 have hlo := hI.lo
 have hhi := hI.hi
 have hu := (s.data.getD i 0).toNat_lt
 have hbt := and127_bd (s.data.getD i 0)
 refine Md ((i : Int) < 6) (fun h1 => ?_) (fun h1 => ?_)
 rotate_left
 · refine Mt [.int .i64 0, .string emp, .int .i64 4] fun bs w hS => ?_
   refine ⟨?_, hS.kp⟩
   rw [hI.out (by omega)]
   simp only [retOf, den, List.map_cons, List.map_nil]
 refine Md ((i : Int) = (s.size : Int)) (fun h2 => ?_) fun h2 => ?_
 · refine Mt [vi 0, ve, vi 5] fun bs w hS => ?_
   refine ⟨?_, hS.kp⟩
   rw [hI.short (by omega) (by omega)]
   simp only [retOf, den, List.map_cons, List.map_nil]
 refine Mi ?_ (pc (pG [(18, .sidx i)] (oc (rfl : (i : Int) = (i : Int)) (oc ((by omega) : i < s.size) on))) (pc (pP (0 ≤ (bits .and .u8 ((s.data.getD i 0).toNat : Int) 127))) (pc (pP ((bits .and .u8 ((s.data.getD i 0).toNat : Int) 127) ≤ 255)) (pc (pR ((7 : Int) * (i : Int))) (pc (pP ((0 : Int) ≤ (7 : Int) * (i : Int))) (pc (pP ((7 : Int) * (i : Int) ≤ (64 : Int))) (pG [(27, .sidx i)] (oc (rfl : (i : Int) = (i : Int)) (oc ((by omega) : i < s.size) on)))))))))
 refine Md ((128 : Int) ≤ ((s.data.getD i 0).toNat : Int)) (fun h3 => ?_) fun h3 => ?_
 · refine Mi ?_ (pR ((i : Int) + 1))
   exact on1 ⟨i + 1, bits .or .i64 n (IntKind.i64.wrap ((bits .and .u8 ((s.data.getD i 0).toNat : Int) 127) * 2 ^ ((7 : Int) * (i : Int) : Int).toNat))⟩ (by show RdIn s (i + 1) _; rw [or_shift s i n hI.lo hI.hi (by omega)]; exact hI.step (by omega) (by omega) (by omega)) (by show 6 - (i + 1) < 6 - i; omega)
 refine Mi ?_ (pG [(31, .sidx i)] (oc (rfl : (i : Int) = (i : Int)) (oc ((by omega) : i < s.size) on)))
 refine Md (((s.data.getD i 0).toNat : Int) = 0) (fun h4 => ?_) fun h4 => ?_
 rotate_left
 · refine Md ((1099511627776 : Int) < bits .or .i64 n (IntKind.i64.wrap ((bits .and .u8 ((s.data.getD i 0).toNat : Int) 127) * 2 ^ ((7 : Int) * (i : Int) : Int).toNat))) (fun h7 => ?_) fun h7 => ?_
   · refine Mt [.int .i64 0, .string emp, .int .i64 4] fun bs w hS => ?_
     refine ⟨?_, hS.kp⟩
     have hor := or_shift s i n hI.lo hI.hi (by omega)
     try rw [hor] at h7
     try rw [hor]
     rw [hI.last (by omega) (by omega) (by omega), if_pos (by omega)]
     simp only [retOf, den, List.map_cons, List.map_nil]
   refine Mda 8 [] [] [] Tryz_mixed ?_
   refine Mih ?_ (pc (pR ((i : Int) + 1)) (pG [(45, .sl (i + 1) s.size)] (oc ((by omega) : (i : Int) + 1 = (((i + 1) : Nat) : Int)) (oc (rfl : s.size = s.size) (oc ((by omega) : (i + 1) ≤ s.size) on)))))
   refine Mt [vi (bits .or .i64 n (IntKind.i64.wrap ((bits .and .u8 ((s.data.getD i 0).toNat : Int) 127) * 2 ^ ((7 : Int) * (i : Int) : Int).toNat))), vs (s.extract (i + 1) s.size), vi 0] fun bs w hS => ?_
   refine ⟨?_, hS.kp⟩
   have hor := or_shift s i n hI.lo hI.hi (by omega)
   try rw [hor] at h7
   try rw [hor]
   rw [hI.last (by omega) (by omega) (by omega), if_neg (by omega)]
   simp only [retOf, den, List.map_cons, List.map_nil]
 refine Md ((0 : Int) < (i : Int)) (fun h5 => ?_) fun h5 => ?_
 · refine Mt [.int .i64 0, .string emp, .int .i64 4] fun bs w hS => ?_
   refine ⟨?_, hS.kp⟩
   have hor := or_shift s i n hI.lo hI.hi (by omega)
   try rw [hor] at h5
   try rw [hor]
   rw [hI.last (by omega) (by omega) (by omega), if_pos (by omega)]
   simp only [retOf, den, List.map_cons, List.map_nil]
 refine Md ((1099511627776 : Int) < bits .or .i64 n (IntKind.i64.wrap ((bits .and .u8 ((s.data.getD i 0).toNat : Int) 127) * 2 ^ ((7 : Int) * (i : Int) : Int).toNat))) (fun h6 => ?_) fun h6 => ?_
 · refine Mt [.int .i64 0, .string emp, .int .i64 4] fun bs w hS => ?_
   refine ⟨?_, hS.kp⟩
   have hor := or_shift s i n hI.lo hI.hi (by omega)
   try rw [hor] at h6
   try rw [hor]
   rw [hI.last (by omega) (by omega) (by omega), if_pos (by omega)]
   simp only [retOf, den, List.map_cons, List.map_nil]
 refine Mda 8 [] [] [] Tryz_mixed ?_
 refine Mih ?_ (pc (pR ((i : Int) + 1)) (pG [(45, .sl (i + 1) s.size)] (oc ((by omega) : (i : Int) + 1 = (((i + 1) : Nat) : Int)) (oc (rfl : s.size = s.size) (oc ((by omega) : (i + 1) ≤ s.size) on)))))
 refine Mt [vi (bits .or .i64 n (IntKind.i64.wrap ((bits .and .u8 ((s.data.getD i 0).toNat : Int) 127) * 2 ^ ((7 : Int) * (i : Int) : Int).toNat))), vs (s.extract (i + 1) s.size), vi 0] fun bs w hS => ?_
 refine ⟨?_, hS.kp⟩
 have hor := or_shift s i n hI.lo hI.hi (by omega)
 try rw [hor] at h6
 try rw [hor]
 rw [hI.last (by omega) (by omega) (by omega), if_neg (by omega)]
 simp only [retOf, den, List.map_cons, List.map_nil]
theorem codec_ReadText (s : ByteArray) (w : World) (hs : s.size ≤ 9223372036854775807) : Calls Tryz.prog 49 #[vs s] w fun e w' => e = .returned (.tuple #[vs (mTell s).1, vs (mTell s).2.1, vi (mTell s).2.2]) ∧ Kp [] w w' := by
 have hb := mRead_bd s
 refine M0 ?_ Tryz.func49
 refine Mp ?_ Tryz.call48 (fun bs w hS => codec_ReadNumber _ w (by first | assumption | omega | (simp only [emp_size]; omega)))
 refine Mdn ((mRead s).2.2 = 0) (fun h1 => ?_) fun h1 => ?_
 rotate_left
 · refine Mt [ve, ve, vi (mRead s).2.2] fun bs w hS => ?_
   refine ⟨?_, hS.kp⟩
   simp only [retOf, den, List.map_cons, List.map_nil]
   grind [mTell]
 refine Md ((5000 : Int) < (mRead s).1) (fun h2 => ?_) fun h2 => ?_
 · refine Mt [ve, ve, vi 1] fun bs w hS => ?_
   refine ⟨?_, hS.kp⟩
   simp only [retOf, den, List.map_cons, List.map_nil]
   grind [mTell]
 refine Md (((mRead s).2.1.size : Int) < (mRead s).1) (fun h3 => ?_) fun h3 => ?_
 · refine Mt [ve, ve, vi 5] fun bs w hS => ?_
   refine ⟨?_, hS.kp⟩
   simp only [retOf, den, List.map_cons, List.map_nil]
   grind [mTell]
 refine Mda 9 [] [] [] Tryz_mixed ?_
 refine Mih ?_ (pc (pG [(25, .sl 0 (mRead s).1.toNat)] (oc (rfl : 0 = 0) (oc ((by omega) : (mRead s).1 = (((mRead s).1.toNat : Nat) : Int)) (oc ((by omega) : (mRead s).1.toNat ≤ (mRead s).2.1.size) on)))) (pG [(28, .sl (mRead s).1.toNat (mRead s).2.1.size)] (oc ((by omega) : (mRead s).1 = (((mRead s).1.toNat : Nat) : Int)) (oc (rfl : (mRead s).2.1.size = (mRead s).2.1.size) (oc ((by omega) : (mRead s).1.toNat ≤ (mRead s).2.1.size) on)))))
 refine Mt [vs ((mRead s).2.1.extract 0 (mRead s).1.toNat), vs ((mRead s).2.1.extract (mRead s).1.toNat (mRead s).2.1.size), vi 0] fun bs w hS => ?_
 refine ⟨?_, hS.kp⟩
 simp only [retOf, den, List.map_cons, List.map_nil]
 grind [mTell]
theorem command_CheckOp {B : Nat → Prop} (x : DOp) (w : World) (hx : Rds.sub B w x) : Calls Tryz.prog 50 #[x.val] w fun e w' => e = .returned (vi (mOp x)) ∧ Kp [] w w' := by
 have okx := Rds.okof hx
 refine M0 ?_ Tryz.func50
 refine Md (x.kind < 1) (fun h1 => ?_) fun h1 => ?_
 · exact Me0 3 (by grind [mOp])
 refine Md ((6 : Int) < x.kind) (fun h2 => ?_) fun h2 => ?_
 · exact Me0 3 (by grind [mOp])
 refine Mp ?_ Tryz.call82 (fun bs w hS => lock_Name _ w okx.1)
 refine Mbn (mName x.a) (fun h3 => ?_) fun h3 => ?_
 rotate_left
 · exact Me0 4 (by grind [mOp])
 refine Mdn (x.kind = 5) (fun h4 => ?_) fun h4 => ?_
 · refine Md ((12 : Int) < (x.b.size : Int)) (fun h5 => ?_) fun h5 => ?_
   · exact Me0 1 (by grind [mOp])
   refine My true false ?_ (dt h4)
   refine Md (x.n < 1) (fun h7 => ?_) fun h7 => ?_
   · exact Me0 2 (by grind [mOp])
   refine Md ((1073741824 : Int) < x.n) (fun h8 => ?_) fun h8 => ?_
   · exact Me0 2 (by grind [mOp])
   refine My true true ?_ (dt h4)
   exact Me0 0 (by grind [mOp])
 refine Mdn (x.b = emp) (fun h10 => ?_) fun h10 => ?_
 rotate_left
 · exact Me0 4 (by grind [mOp])
 have hzh10 : x.b.size = 0 := by rw [h10]; rfl
 refine Md ((12 : Int) < (x.b.size : Int)) (fun h11 => ?_) fun h11 => ?_
 · exact Me0 1 (by grind [mOp])
 refine My false false ?_ (df h4)
 refine My false true ?_ (df h4)
 refine Mdn (x.n = 0) (fun h14 => ?_) fun h14 => ?_
 · exact Me0 0 (by grind [mOp])
 exact Me0 2 (by grind [mOp])
theorem command_Check {B : Nat → Prop} (x : DCommand) (w : World) (hx : Rds.sub B w x) : Calls Tryz.prog 21 #[x.val] w fun e w' => e = .returned (vi (mCmd x)) ∧ Kp [] w w' := by
 have okx := Rds.okof hx
 refine M0 ?_ Tryz.func21
 refine Md (x.kind < 1) (fun h1 => ?_) fun h1 => ?_
 · exact Me0 3 (by grind [mCmd])
 refine Md ((3 : Int) < x.kind) (fun h2 => ?_) fun h2 => ?_
 · exact Me0 3 (by grind [mCmd])
 refine Md (x.client < 1) (fun h3 => ?_) fun h3 => ?_
 · exact Me0 2 (by grind [mCmd])
 refine Md ((9 : Int) < x.client) (fun h4 => ?_) fun h4 => ?_
 · exact Me0 2 (by grind [mCmd])
 refine Mdn (x.kind = 2) (fun h5 => ?_) fun h5 => ?_
 rotate_left
 · refine Mdn (x.session = 0) (fun h12 => ?_) fun h12 => ?_
   rotate_left
   · exact Me0 4 (by grind [mCmd])
   refine Mdn (x.seq = 0) (fun h13 => ?_) fun h13 => ?_
   rotate_left
   · exact Me0 4 (by grind [mCmd])
   refine Mdn (x.acked = 0) (fun h14 => ?_) fun h14 => ?_
   rotate_left
   · exact Me0 4 (by grind [mCmd])
   refine Mi ?_ (pG [(39, .val (vb (!((decide (x.op.kind = 0)) && ((decide (x.op.a = emp)) && ((decide (x.op.b = emp)) && ((decide (x.op.n = 0)) && true)))))))] (oc ((neq_agg (by kernel_rfl) (by kernel_rfl)) : ∀ w, (do eqGuard .neq 47 (.tmp 37) (.tmp 38) x.op.val (.agg #[vi 0, ve, ve, vi 0]); binOp .neq 47 x.op.val (.agg #[vi 0, ve, ve, vi 0]) : Sem Value).run Tryz.prog w = .ok (vb (!((decide (x.op.kind = 0)) && ((decide (x.op.a = emp)) && ((decide (x.op.b = emp)) && ((decide (x.op.n = 0)) && true)))))) w) on))
   refine Mbn ((decide (x.op.kind = 0)) && ((decide (x.op.a = emp)) && ((decide (x.op.b = emp)) && ((decide (x.op.n = 0)) && true)))) (fun h15 => ?_) fun h15 => ?_
   · simp only [Bool.and_eq_true, decide_eq_true_eq, and_true] at h15
     exact Me0 0 (by grind [mCmd])
   rw [Bool.eq_false_iff] at h15
   simp only [ne_eq, Bool.and_eq_true, decide_eq_true_eq, and_true] at h15
   exact Me0 4 (by grind [mCmd])
 refine Md (x.session < 1) (fun h6 => ?_) fun h6 => ?_
 · exact Me0 2 (by grind [mCmd])
 refine Md ((1073741824 : Int) < x.session) (fun h7 => ?_) fun h7 => ?_
 · exact Me0 2 (by grind [mCmd])
 refine Md (x.seq < 1) (fun h8 => ?_) fun h8 => ?_
 · exact Me0 2 (by grind [mCmd])
 refine Md ((1048576 : Int) < x.seq) (fun h9 => ?_) fun h9 => ?_
 · exact Me0 2 (by grind [mCmd])
 refine Md (x.acked < 0) (fun h10 => ?_) fun h10 => ?_
 · exact Me0 2 (by grind [mCmd])
 refine Md (x.seq ≤ x.acked) (fun h11 => ?_) fun h11 => ?_
 · exact Me0 2 (by grind [mCmd])
 refine Mp ?_ Tryz.call50 (fun bs w hS => command_CheckOp (B := anyB) x.op w ⟨okx.1, okx.2⟩)
 exact Me0 (mOp x.op) (by grind [mCmd])
theorem command_body (c : DCommand) (b : Nat) (t : ByteArray) (w : World) (hb : (blkR b 49 [vi c.kind, vi c.client, vi c.session, vi c.seq, vi c.acked, vi c.op.kind, vs c.op.a, vs c.op.b, vi c.op.n]).p w) (ht : t.size ≤ 9223372036854775807) (hc : Rds.ok c) : Calls Tryz.prog 20 #[.pointer (some ⟨b, 0, none⟩), vs t] w fun e w' => ∃ y : DCommand, e = .returned (.tuple #[vs (mBody c t).2.1, vi (mBody c t).2.2]) ∧ (((mBody c t).2.2 = 0 → y = (mBody c t).1) ∧ Rds.ok y) ∧ Kp [b] w w' ∧ (blkR b 49 [vi y.kind, vi y.client, vi y.session, vi y.seq, vi y.acked, vi y.op.kind, vs y.op.a, vs y.op.b, vi y.op.n]).p w' := by
 refine Mj ?_ Tryz.func20 (WS.start1 w _ hb (by simp [blkR]) (blkR_lt hb))
 refine Mdr 20 ?_ Tryz_mixed
 refine M1 ?_
 refine Mz ?_
 refine Mun 6 fun _ on1 => ?_
 refine Mq 32 true ?_ rfl
 refine Mi ?_ (pG [(33, .idx default 0)] (oc (rfl : (0 : Int) = ((0 : Nat) : Int)) (oc ((by omega) : 0 < 5) on)))
 refine Mp ?_ (vs := fun bs => [vs t]) Tryz.call48 (fun bs w hS => codec_ReadNumber _ w (by first | assumption | omega | (simp only [emp_size]; omega)))
 have hzr1 := mRead_bd t
 generalize hr1 : mRead t = r1 at hzr1 ⊢
 refine Msb 2 [vi c.kind, vi c.client, vi r1.1, vi c.seq, vi c.acked, vi c.op.kind, vs c.op.a, vs c.op.b, vi c.op.n] ?_
 refine Mdn (r1.2.2 = 0) (fun h1 => ?_) fun h1 => ?_
 rotate_left
 · refine Mt [ve, vi r1.2.2] fun bs w hS => ?_
   have hm : mBody c t = (c, emp, r1.2.2) := by grind [mBody]
   exact ⟨(⟨c.kind, c.client, r1.1, c.seq, c.acked, ⟨c.op.kind, c.op.a, c.op.b, c.op.n⟩⟩ : DCommand), by rw [hm]; rfl, ⟨fun h0 => absurd h0 (by rw [hm]; exact h1), ⟨hc.1, hc.2⟩⟩, hS.kp, hS.res _ i0⟩
 refine Mi ?_ (pR (1))
 refine on1 5 (J := ?_)
 refine Mq 32 true ?_ rfl
 refine Mi ?_ (pG [(33, .idx default 1)] (oc (rfl : (1 : Int) = ((1 : Nat) : Int)) (oc ((by omega) : 1 < 5) on)))
 refine Mp ?_ (vs := fun bs => [vs r1.2.1]) Tryz.call48 (fun bs w hS => codec_ReadNumber _ w (by first | assumption | omega | (simp only [emp_size]; omega)))
 have hzr2 := mRead_bd r1.2.1
 generalize hr2 : mRead r1.2.1 = r2 at hzr2 ⊢
 refine Msb 3 [vi c.kind, vi c.client, vi r1.1, vi r2.1, vi c.acked, vi c.op.kind, vs c.op.a, vs c.op.b, vi c.op.n] ?_
 refine Mdn (r2.2.2 = 0) (fun h2 => ?_) fun h2 => ?_
 rotate_left
 · refine Mt [ve, vi r2.2.2] fun bs w hS => ?_
   have hm : mBody c t = (c, emp, r2.2.2) := by grind [mBody]
   exact ⟨(⟨c.kind, c.client, r1.1, r2.1, c.acked, ⟨c.op.kind, c.op.a, c.op.b, c.op.n⟩⟩ : DCommand), by rw [hm]; rfl, ⟨fun h0 => absurd h0 (by rw [hm]; exact h2), ⟨hc.1, hc.2⟩⟩, hS.kp, hS.res _ i0⟩
 refine Mi ?_ (pR (2))
 refine on1 4 (J := ?_)
 refine Mq 32 true ?_ rfl
 refine Mi ?_ (pG [(33, .idx default 2)] (oc (rfl : (2 : Int) = ((2 : Nat) : Int)) (oc ((by omega) : 2 < 5) on)))
 refine Mp ?_ (vs := fun bs => [vs r2.2.1]) Tryz.call48 (fun bs w hS => codec_ReadNumber _ w (by first | assumption | omega | (simp only [emp_size]; omega)))
 have hzr3 := mRead_bd r2.2.1
 generalize hr3 : mRead r2.2.1 = r3 at hzr3 ⊢
 refine Msb 4 [vi c.kind, vi c.client, vi r1.1, vi r2.1, vi r3.1, vi c.op.kind, vs c.op.a, vs c.op.b, vi c.op.n] ?_
 refine Mdn (r3.2.2 = 0) (fun h3 => ?_) fun h3 => ?_
 rotate_left
 · refine Mt [ve, vi r3.2.2] fun bs w hS => ?_
   have hm : mBody c t = (c, emp, r3.2.2) := by grind [mBody]
   exact ⟨(⟨c.kind, c.client, r1.1, r2.1, r3.1, ⟨c.op.kind, c.op.a, c.op.b, c.op.n⟩⟩ : DCommand), by rw [hm]; rfl, ⟨fun h0 => absurd h0 (by rw [hm]; exact h3), ⟨hc.1, hc.2⟩⟩, hS.kp, hS.res _ i0⟩
 refine Mi ?_ (pR (3))
 refine on1 3 (J := ?_)
 refine Mq 32 true ?_ rfl
 refine Mi ?_ (pG [(33, .idx default 3)] (oc (rfl : (3 : Int) = ((3 : Nat) : Int)) (oc ((by omega) : 3 < 5) on)))
 refine Mp ?_ (vs := fun bs => [vs r3.2.1]) Tryz.call48 (fun bs w hS => codec_ReadNumber _ w (by first | assumption | omega | (simp only [emp_size]; omega)))
 have hzr4 := mRead_bd r3.2.1
 generalize hr4 : mRead r3.2.1 = r4 at hzr4 ⊢
 refine Msb 5 [vi c.kind, vi c.client, vi r1.1, vi r2.1, vi r3.1, vi r4.1, vs c.op.a, vs c.op.b, vi c.op.n] ?_
 refine Mdn (r4.2.2 = 0) (fun h4 => ?_) fun h4 => ?_
 rotate_left
 · refine Mt [ve, vi r4.2.2] fun bs w hS => ?_
   have hm : mBody c t = (c, emp, r4.2.2) := by grind [mBody]
   exact ⟨(⟨c.kind, c.client, r1.1, r2.1, r3.1, ⟨r4.1, c.op.a, c.op.b, c.op.n⟩⟩ : DCommand), by rw [hm]; rfl, ⟨fun h0 => absurd h0 (by rw [hm]; exact h4), ⟨hc.1, hc.2⟩⟩, hS.kp, hS.res _ i0⟩
 refine Mi ?_ (pR (4))
 refine on1 2 (J := ?_)
 refine Mq 32 true ?_ rfl
 refine Mi ?_ (pG [(33, .idx default 4)] (oc (rfl : (4 : Int) = ((4 : Nat) : Int)) (oc ((by omega) : 4 < 5) on)))
 refine Mp ?_ (vs := fun bs => [vs r4.2.1]) Tryz.call48 (fun bs w hS => codec_ReadNumber _ w (by first | assumption | omega | (simp only [emp_size]; omega)))
 have hzr5 := mRead_bd r4.2.1
 generalize hr5 : mRead r4.2.1 = r5 at hzr5 ⊢
 refine Msb 8 [vi c.kind, vi c.client, vi r1.1, vi r2.1, vi r3.1, vi r4.1, vs c.op.a, vs c.op.b, vi r5.1] ?_
 refine Mdn (r5.2.2 = 0) (fun h5 => ?_) fun h5 => ?_
 rotate_left
 · refine Mt [ve, vi r5.2.2] fun bs w hS => ?_
   have hm : mBody c t = (c, emp, r5.2.2) := by grind [mBody]
   exact ⟨(⟨c.kind, c.client, r1.1, r2.1, r3.1, ⟨r4.1, c.op.a, c.op.b, r5.1⟩⟩ : DCommand), by rw [hm]; rfl, ⟨fun h0 => absurd h0 (by rw [hm]; exact h5), ⟨hc.1, hc.2⟩⟩, hS.kp, hS.res _ i0⟩
 refine Mi ?_ (pR (5))
 refine on1 1 (J := ?_)
 refine Mq 32 false ?_ rfl
 refine Mdr 11 ?_ Tryz_mixed
 refine M1 ?_
 refine Mz ?_
 refine Mun 3 fun _ on2 => ?_
 refine Mq 58 true ?_ rfl
 refine Mi ?_ (pG [(59, .idx default 0)] (oc (rfl : (0 : Int) = ((0 : Nat) : Int)) (oc ((by omega) : 0 < 2) on)))
 refine Mp ?_ (vs := fun bs => [vs r5.2.1]) Tryz.call49 (fun bs w hS => codec_ReadText _ w (by first | assumption | omega | (simp only [emp_size]; omega)))
 have hzr6 := mTell_bd r5.2.1
 generalize hr6 : mTell r5.2.1 = r6 at hzr6 ⊢
 refine Msb 6 [vi c.kind, vi c.client, vi r1.1, vi r2.1, vi r3.1, vi r4.1, vs r6.1, vs c.op.b, vi r5.1] ?_
 refine Mdn (r6.2.2 = 0) (fun h6 => ?_) fun h6 => ?_
 rotate_left
 · refine Mt [ve, vi r6.2.2] fun bs w hS => ?_
   have hm : mBody c t = (c, emp, r6.2.2) := by grind [mBody]
   exact ⟨(⟨c.kind, c.client, r1.1, r2.1, r3.1, ⟨r4.1, r6.1, c.op.b, r5.1⟩⟩ : DCommand), by rw [hm]; rfl, ⟨fun h0 => absurd h0 (by rw [hm]; exact h6), ⟨(show r6.1.size ≤ 9223372036854775807 by omega), hc.2⟩⟩, hS.kp, hS.res _ i0⟩
 refine Mi ?_ (pR (1))
 refine on2 2 (J := ?_)
 refine Mq 58 true ?_ rfl
 refine Mi ?_ (pG [(59, .idx default 1)] (oc (rfl : (1 : Int) = ((1 : Nat) : Int)) (oc ((by omega) : 1 < 2) on)))
 refine Mp ?_ (vs := fun bs => [vs r6.2.1]) Tryz.call49 (fun bs w hS => codec_ReadText _ w (by first | assumption | omega | (simp only [emp_size]; omega)))
 have hzr7 := mTell_bd r6.2.1
 generalize hr7 : mTell r6.2.1 = r7 at hzr7 ⊢
 refine Msb 7 [vi c.kind, vi c.client, vi r1.1, vi r2.1, vi r3.1, vi r4.1, vs r6.1, vs r7.1, vi r5.1] ?_
 refine Mdn (r7.2.2 = 0) (fun h7 => ?_) fun h7 => ?_
 rotate_left
 · refine Mt [ve, vi r7.2.2] fun bs w hS => ?_
   have hm : mBody c t = (c, emp, r7.2.2) := by grind [mBody]
   exact ⟨(⟨c.kind, c.client, r1.1, r2.1, r3.1, ⟨r4.1, r6.1, r7.1, r5.1⟩⟩ : DCommand), by rw [hm]; rfl, ⟨fun h0 => absurd h0 (by rw [hm]; exact h7), ⟨(show r6.1.size ≤ 9223372036854775807 by omega), (show r7.1.size ≤ 9223372036854775807 by omega)⟩⟩, hS.kp, hS.res _ i0⟩
 refine Mi ?_ (pR (2))
 refine on2 1 (J := ?_)
 refine Mq 58 false ?_ rfl
 refine Mt [vs r7.2.1, vi 0] fun bs w hS => ?_
 have hm : mBody c t = ((⟨c.kind, c.client, r1.1, r2.1, r3.1, ⟨r4.1, r6.1, r7.1, r5.1⟩⟩ : DCommand), r7.2.1, 0) := by grind [mBody]
 exact ⟨(⟨c.kind, c.client, r1.1, r2.1, r3.1, ⟨r4.1, r6.1, r7.1, r5.1⟩⟩ : DCommand), by rw [hm]; rfl, ⟨fun _ => by rw [hm], ⟨(show r6.1.size ≤ 9223372036854775807 by omega), (show r7.1.size ≤ 9223372036854775807 by omega)⟩⟩, hS.kp, hS.res _ i0⟩
theorem command_Decode (s : ByteArray) (w : World) (hs : s.size ≤ 9223372036854775807) : Calls Tryz.prog 10 #[vs s] w fun e w' => e = .returned (.tuple #[(mDecode s).1.val, vi (mDecode s).2]) ∧ Kp [] w w' := by
 have hu0 := (s.data.getD 0 0).toNat_lt
 have hu1 := (s.data.getD 1 0).toNat_lt
 have hex : (s.extract 2 s.size).size ≤ s.size := by simp
 refine M0 ?_ Tryz.func10
 refine Md ((5000 : Int) < (s.size : Int)) (fun h1 => ?_) fun h1 => ?_
 · refine Mt [vC, vi 1] fun bs w hS => ?_
   refine ⟨?_, hS.kp⟩
   have hm : mDecode s = ((⟨0, 0, 0, 0, 0, ⟨0, emp, emp, 0⟩⟩ : DCommand), 1) := by
     have hk : (cmd0 s).kind = ((s.data.getD 0 0).toNat : Int) := rfl
     unfold mDecode
     repeat (first | rw [if_pos (by omega)] | rw [if_neg (by omega)])
     rfl
   rw [hm]
   rfl
 refine Md ((s.size : Int) < 2) (fun h2 => ?_) fun h2 => ?_
 · refine Mt [vC, vi 5] fun bs w hS => ?_
   refine ⟨?_, hS.kp⟩
   have hm : mDecode s = ((⟨0, 0, 0, 0, 0, ⟨0, emp, emp, 0⟩⟩ : DCommand), 5) := by
     have hk : (cmd0 s).kind = ((s.data.getD 0 0).toNat : Int) := rfl
     unfold mDecode
     repeat (first | rw [if_pos (by omega)] | rw [if_neg (by omega)])
     rfl
   rw [hm]
   rfl
 refine Mda 8 [] [] [] Tryz_mixed ?_
 refine Mih ?_ (pc (pG [(16, .sidx 0)] (oc (rfl : (0 : Int) = ((0 : Nat) : Int)) (oc ((by omega) : 0 < s.size) on))) (pc (pP (0 ≤ ((s.data.getD 0 0).toNat : Int))) (pc (pP (((s.data.getD 0 0).toNat : Int) ≤ 255)) (pc (pG [(19, .sidx 1)] (oc (rfl : (1 : Int) = ((1 : Nat) : Int)) (oc ((by omega) : 1 < s.size) on))) (pc (pP (0 ≤ ((s.data.getD 1 0).toNat : Int))) (pP (((s.data.getD 1 0).toNat : Int) ≤ 255)))))))
 refine Mi ?_ (pG [(23, .sl 2 s.size)] (oc (rfl : (2 : Int) = ((2 : Nat) : Int)) (oc (rfl : s.size = s.size) (oc ((by omega) : 2 ≤ s.size) on))))
 refine Md (((s.data.getD 0 0).toNat : Int) = 2) (fun h3 => ?_) fun h3 => ?_
 rotate_left
 · refine Mdn ((s.extract 2 s.size) = emp) (fun h7 => ?_) fun h7 => ?_
   rotate_left
   · refine Mt [vC, vi 4] fun bs w hS => ?_
     refine ⟨?_, hS.kp⟩
     have hm : mDecode s = ((⟨0, 0, 0, 0, 0, ⟨0, emp, emp, 0⟩⟩ : DCommand), 4) := by
       have hk : (cmd0 s).kind = ((s.data.getD 0 0).toNat : Int) := rfl
       unfold mDecode
       repeat (first | rw [if_pos (by omega)] | rw [if_neg (by omega)])
       all_goals (simp only [mFin, cmd0, zOp, h7, ne_eq, not_true_eq_false, not_false_eq_true, if_true, if_false, reduceIte]; try rfl)
     rw [hm]
     rfl
   have hzh7 : (s.extract 2 s.size).size = 0 := by rw [h7]; rfl
   refine Mp ?_ Tryz.call21 (fun bs w hS => command_Check (B := anyB) (⟨((s.data.getD 0 0).toNat : Int), ((s.data.getD 1 0).toNat : Int), 0, 0, 0, ⟨0, emp, emp, 0⟩⟩ : DCommand) w ⟨(show emp.size ≤ 9223372036854775807 from (by first | assumption | omega | (simp only [emp_size]; omega))), (show emp.size ≤ 9223372036854775807 from (by first | assumption | omega | (simp only [emp_size]; omega)))⟩)
   refine Mdn (mCmd (⟨((s.data.getD 0 0).toNat : Int), ((s.data.getD 1 0).toNat : Int), 0, 0, 0, ⟨0, emp, emp, 0⟩⟩ : DCommand) = 0) (fun h8 => ?_) fun h8 => ?_
   · refine Mt [.agg #[vi ((s.data.getD 0 0).toNat : Int), vi ((s.data.getD 1 0).toNat : Int), vi 0, vi 0, vi 0, vi 0, ve, ve, vi 0], vi 0] fun bs w hS => ?_
     refine ⟨?_, hS.kp⟩
     have hm : mDecode s = ((⟨((s.data.getD 0 0).toNat : Int), ((s.data.getD 1 0).toNat : Int), 0, 0, 0, ⟨0, emp, emp, 0⟩⟩ : DCommand), 0) := by
       have hk : (cmd0 s).kind = ((s.data.getD 0 0).toNat : Int) := rfl
       unfold mDecode
       repeat (first | rw [if_pos (by omega)] | rw [if_neg (by omega)])
       all_goals (simp only [mFin, cmd0, zOp, h7, h8, ne_eq, not_true_eq_false, not_false_eq_true, if_true, if_false, reduceIte]; try rfl)
     rw [hm]
     rfl
   refine Mt [vC, vi (mCmd (⟨((s.data.getD 0 0).toNat : Int), ((s.data.getD 1 0).toNat : Int), 0, 0, 0, ⟨0, emp, emp, 0⟩⟩ : DCommand))] fun bs w hS => ?_
   refine ⟨?_, hS.kp⟩
   have hm : mDecode s = ((⟨0, 0, 0, 0, 0, ⟨0, emp, emp, 0⟩⟩ : DCommand), mCmd (⟨((s.data.getD 0 0).toNat : Int), ((s.data.getD 1 0).toNat : Int), 0, 0, 0, ⟨0, emp, emp, 0⟩⟩ : DCommand)) := by
     have hk : (cmd0 s).kind = ((s.data.getD 0 0).toNat : Int) := rfl
     unfold mDecode
     repeat (first | rw [if_pos (by omega)] | rw [if_neg (by omega)])
     all_goals (simp only [mFin, cmd0, zOp, h7, h8, ne_eq, not_true_eq_false, not_false_eq_true, if_true, if_false, reduceIte]; try rfl)
   rw [hm]
   rfl
 refine Mo 1 ?_ Tryz.call20 (fun bs w hS hb => command_body (⟨((s.data.getD 0 0).toNat : Int), ((s.data.getD 1 0).toNat : Int), 0, 0, 0, ⟨0, emp, emp, 0⟩⟩ : DCommand) (bs.getD 1 0) (s.extract 2 s.size) w hb (by first | assumption | omega | (simp only [emp_size]; omega)) ⟨(by simp [emp_size]), (by simp [emp_size])⟩)
 rintro y1 ⟨hF1, hG1⟩
 generalize hbd : mBody (⟨((s.data.getD 0 0).toNat : Int), ((s.data.getD 1 0).toNat : Int), 0, 0, 0, ⟨0, emp, emp, 0⟩⟩ : DCommand) (s.extract 2 s.size) = bd at hF1 ⊢
 refine Mdn (bd.2.2 = 0) (fun h4 => ?_) fun h4 => ?_
 rotate_left
 · refine Mt [vC, vi bd.2.2] fun bs w hS => ?_
   refine ⟨?_, hS.kp⟩
   have hm : mDecode s = ((⟨0, 0, 0, 0, 0, ⟨0, emp, emp, 0⟩⟩ : DCommand), bd.2.2) := by
     have hk : (cmd0 s).kind = ((s.data.getD 0 0).toNat : Int) := rfl
     unfold mDecode
     repeat (first | rw [if_pos (by omega)] | rw [if_neg (by omega)])
     rw [show mBody (cmd0 s) (s.extract 2 s.size) = bd from hbd]
     all_goals (simp only [mFin, cmd0, zOp, h4, ne_eq, not_true_eq_false, not_false_eq_true, if_true, if_false, reduceIte]; try rfl)
   rw [hm]
   rfl
 refine Mdn (bd.2.1 = emp) (fun h5 => ?_) fun h5 => ?_
 rotate_left
 · refine Mt [vC, vi 4] fun bs w hS => ?_
   refine ⟨?_, hS.kp⟩
   have hm : mDecode s = ((⟨0, 0, 0, 0, 0, ⟨0, emp, emp, 0⟩⟩ : DCommand), 4) := by
     have hk : (cmd0 s).kind = ((s.data.getD 0 0).toNat : Int) := rfl
     unfold mDecode
     repeat (first | rw [if_pos (by omega)] | rw [if_neg (by omega)])
     rw [show mBody (cmd0 s) (s.extract 2 s.size) = bd from hbd]
     have hbz : bd.2.2 = 0 := by assumption
     all_goals (simp only [mFin, cmd0, zOp, ← hF1 hbz, h4, h5, ne_eq, not_true_eq_false, not_false_eq_true, if_true, if_false, reduceIte]; try rfl)
   rw [hm]
   rfl
 have hzh5 : bd.2.1.size = 0 := by rw [h5]; rfl
 refine Mp ?_ Tryz.call21 (fun bs w hS => command_Check (B := anyB) y1 w hG1)
 refine Mdn (mCmd y1 = 0) (fun h6 => ?_) fun h6 => ?_
 rotate_left
 · refine Mt [vC, vi (mCmd y1)] fun bs w hS => ?_
   refine ⟨?_, hS.kp⟩
   have hm : mDecode s = ((⟨0, 0, 0, 0, 0, ⟨0, emp, emp, 0⟩⟩ : DCommand), mCmd y1) := by
     have hk : (cmd0 s).kind = ((s.data.getD 0 0).toNat : Int) := rfl
     unfold mDecode
     repeat (first | rw [if_pos (by omega)] | rw [if_neg (by omega)])
     rw [show mBody (cmd0 s) (s.extract 2 s.size) = bd from hbd]
     have hbz : bd.2.2 = 0 := by assumption
     all_goals (simp only [mFin, cmd0, zOp, ← hF1 hbz, h4, h5, h6, ne_eq, not_true_eq_false, not_false_eq_true, if_true, if_false, reduceIte]; try rfl)
   rw [hm]
   rfl
 refine Mt [y1.val, vi 0] fun bs w hS => ?_
 refine ⟨?_, hS.kp⟩
 have hm : mDecode s = ((⟨y1.kind, y1.client, y1.session, y1.seq, y1.acked, ⟨y1.op.kind, y1.op.a, y1.op.b, y1.op.n⟩⟩ : DCommand), 0) := by
   have hk : (cmd0 s).kind = ((s.data.getD 0 0).toNat : Int) := rfl
   unfold mDecode
   repeat (first | rw [if_pos (by omega)] | rw [if_neg (by omega)])
   rw [show mBody (cmd0 s) (s.extract 2 s.size) = bd from hbd]
   have hbz : bd.2.2 = 0 := by assumption
   all_goals (simp only [mFin, cmd0, zOp, ← hF1 hbz, h4, h5, h6, ne_eq, not_true_eq_false, not_false_eq_true, if_true, if_false, reduceIte]; try rfl)
 rw [hm]
 rfl
theorem lock_client (n : Int) (w : World) : Calls Tryz.prog 83 #[vi n] w fun e w' => e = .returned (vb (inB n 1 9)) ∧ Kp [] w w' := by
 refine M0 ?_ Tryz.func83
 refine Md ((1 : Int) ≤ n) (fun h1 => ?_) fun h1 => ?_
 rotate_left
 · exact Mt [vb false] fun bs w hS => ⟨by simp [retOf, den, inB, h1], hS.kp⟩
 exact Mt [vb (decide (n ≤ 9))] fun bs w hS => ⟨by simp [retOf, den, inB, h1], hS.kp⟩
theorem idx_ints {B : Nat → Prop} (s : Sl Int) (k : Nat) (n : Int) (w : World) (hs : s.rd B w) (hk : k ≤ s.n) : Calls Tryz.prog 86 #[.slice s.A k s.c, vi n] w fun e w' => e = .returned (vi (mIdx (fun z => decide (z = n)) (s.xs.take k))) ∧ Kp [] w w' := by
 have oks := Sl.rd.ok hs
 have ncs := Sl.ok.nc oks
 have hns : s.n = s.xs.length := rfl
 refine M0 ?_ Tryz.func86
 refine Ml (σ := Nat) (fun i => i ≤ k ∧ ∀ j, j < i → decide (s.at j = n) = false) (fun i => k - i) (fun _ => []) [8, 7, 0, 1] (fun i => [(8, vI (i : Int))]) (fun _ => []) ?_ 0 ⟨Nat.zero_le _, fun j hj => absurd hj (Nat.not_lt_zero _)⟩
 rintro i ⟨hi, hI⟩ _ on1
 refine Md ((i : Int) < (k : Int)) (fun h1 => ?_) fun h1 => ?_
 rotate_left
 · exact Me0 (-1) (by rw [mIdxT_none hk fun j hj => hI j (by omega)])
 refine Mi ?_ (pc (pIk 14 (i : Int) i k (rdk hs)) (pE 15 i (rdk hs)))
 refine Md (n = (s.at i)) (fun h2 => ?_) fun h2 => ?_
 · exact Me0 (i : Int) (by rw [mIdxT_here (i := i) hk (by omega) (decide_eq_true (by omega)) hI])
 refine Mi ?_ (pR ((i : Int) + 1))
 exact on1 (i + 1) ⟨by omega, fun j hj => by rcases Nat.lt_succ_iff_lt_or_eq.1 hj with h | h; exact hI j h; subst h; exact decide_eq_false (fun e => by omega)⟩ (by omega)
theorem has_ints {B : Nat → Prop} (s : Sl Int) (k : Nat) (n : Int) (w : World) (hs : s.rd B w) (hk : k ≤ s.n) : Calls Tryz.prog 96 #[.slice s.A k s.c, vi n] w fun e w' => e = .returned (vb ((s.xs.take k).any fun z => decide (z = n))) ∧ Kp [] w w' := by
 have oks := Sl.rd.ok hs
 have ncs := Sl.ok.nc oks
 have hns : s.n = s.xs.length := rfl
 refine M0 ?_ Tryz.func96
 refine Mp ?_ Tryz.call86 (fun bs w hS => idx_ints s k n w (Sl.rd.kp hs hS.kp) (by omega))
 exact Meb (decide ((0 : Int) ≤ mIdx (fun z => decide (z = n)) (s.xs.take k))) (by simp only [retOf, den, List.map_cons, List.map_nil, mIdx_nonneg])
theorem lock_line {B : Nat → Prop} (x : CLock) (w : World) (hx : Rds.sub B w x) : Calls Tryz.prog 84 #[x.val] w fun e w' => e = .returned (vb (lineOk x.abs)) ∧ Kp [] w w' := by
 have okx := Rds.okof hx
 have ncx := Sl.ok.nc okx.2
 have hnx : x.line.n = x.line.xs.length := rfl
 have hll : x.abs.line.length = x.line.n := rfl
 have hho : x.abs.holder = x.holder := rfl
 have hp : ∀ q, posOk x.abs q = (inB (x.line.at q) 1 9 && (!decide (x.line.at q = x.holder) && !((x.line.xs.take q).any fun z => decide (z = x.line.at q)))) := fun _ => rfl
 refine M0 ?_ Tryz.func84
 refine Ml (σ := Nat) (fun i => i ≤ x.line.n ∧ allTo (posOk x.abs) i = true) (fun i => x.line.n - i) (fun _ => []) [8, 7, 6, 1] (fun i => [(8, vI (i : Int))]) (fun _ => []) ?_ 0 ⟨Nat.zero_le _, rfl⟩
 rintro i ⟨hi, hI⟩ _ on1
 refine Md ((i : Int) < (x.line.n : Int)) (fun h1 => ?_) fun h1 => ?_
 rotate_left
 · refine Md ((x.line.n : Int) ≤ 3) (fun h5 => ?_) fun h5 => ?_
   rotate_left
   · have hall : allTo (posOk x.abs) x.line.n = true := by rw [show x.line.n = i by omega]; exact hI
     have hm : lineOk x.abs = (false) := by
       rw [Bool.eq_iff_iff]
       simp only [lineOk, hll, hho, hall, Bool.true_and, Bool.and_eq_true, Bool.or_eq_true, Bool.not_eq_true', decide_eq_true_eq, decide_eq_false_iff_not, Bool.false_eq_true, iff_true, iff_false]
       omega
     exact Meb false hm
   refine Mdn (x.holder = 0) (fun h6 => ?_) fun h6 => ?_
   rotate_left
   · have hall : allTo (posOk x.abs) x.line.n = true := by rw [show x.line.n = i by omega]; exact hI
     have hm : lineOk x.abs = (true) := by
       rw [Bool.eq_iff_iff]
       simp only [lineOk, hll, hho, hall, Bool.true_and, Bool.and_eq_true, Bool.or_eq_true, Bool.not_eq_true', decide_eq_true_eq, decide_eq_false_iff_not, Bool.false_eq_true, iff_true, iff_false]
       omega
     exact Meb true hm
   have hall : allTo (posOk x.abs) x.line.n = true := by rw [show x.line.n = i by omega]; exact hI
   have hm : lineOk x.abs = (decide ((x.line.n : Int) = 0)) := by
     rw [Bool.eq_iff_iff]
     simp only [lineOk, hll, hho, hall, Bool.true_and, Bool.and_eq_true, Bool.or_eq_true, Bool.not_eq_true', decide_eq_true_eq, decide_eq_false_iff_not, Bool.false_eq_true, iff_true, iff_false]
     omega
   exact Meb (decide ((x.line.n : Int) = 0)) hm
 refine Mi ?_ (pA 11 12 (i : Int) i (s := x.line) (fun w hk hr => (Rds.kp hx hk).2))
 refine Mp ?_ Tryz.call83 (fun bs w hS => lock_client (x.line.at i) w)
 refine Mbn (inB (x.line.at i) 1 9) (fun h2 => ?_) fun h2 => ?_
 rotate_left
 · have hb : posOk x.abs i = false := by rw [hp]; simp [h1, h2]
   have hm : lineOk x.abs = false := by unfold lineOk; rw [allTo_bad hb (show i < x.abs.line.length by rw [hll]; omega)]; rfl
   exact Meb false hm
 refine Md ((x.line.at i) = x.holder) (fun h3 => ?_) fun h3 => ?_
 · have hb : posOk x.abs i = false := by rw [hp]; simp [h1, h2, h3]
   have hm : lineOk x.abs = false := by unfold lineOk; rw [allTo_bad hb (show i < x.abs.line.length by rw [hll]; omega)]; rfl
   exact Meb false hm
 refine Mi ?_ (pG [(26, .sl 0 i)] (oc (rfl : 0 = 0) (oc (rfl : (i : Int) = (i : Int)) (oc ((by omega) : i ≤ x.line.c) on))))
 refine Mp ?_ Tryz.call96 (fun bs w hS => has_ints x.line i (x.line.at i) w (Rds.kp hx hS.kp).2 (by omega))
 refine Mb ((x.line.xs.take i).any fun z => decide (z = (x.line.at i))) (fun h4 => ?_) fun h4 => ?_
 rotate_left
 · refine Mi ?_ (pR ((i : Int) + 1))
   exact on1 (i + 1) ⟨by omega, by show (allTo _ i && posOk x.abs i) = true; rw [hI, hp]; simp [*]⟩ (by omega)
 have hb : posOk x.abs i = false := by rw [hp]; simp [h1, h2, h3, h4]
 have hm : lineOk x.abs = false := by unfold lineOk; rw [allTo_bad hb (show i < x.abs.line.length by rw [hll]; omega)]; rfl
 exact Meb false hm
theorem lock_Check {B : Nat → Prop} (s : Sl CLock) (w : World) (hs : s.rd B w) : Calls Tryz.prog 56 #[s.val] w fun e w' => e = .returned (vi (mLocks (s.xs.map CLock.abs))) ∧ Kp [] w w' := by
 have oks := Sl.rd.ok hs
 have ncs := Sl.ok.nc oks
 have hns : s.n = s.xs.length := rfl
 have hat : ∀ q, (s.xs.map CLock.abs).getD q default = (s.at q).abs := fun q => abs_at q
 have hq1 : ∀ q, (s.at q).abs.name = (s.at q).name := fun _ => rfl
 have hq2 : ∀ q, (s.at q).abs.holder = (s.at q).holder := fun _ => rfl
 have hq3 : ∀ q, (s.at q).abs.fence = (s.at q).fence := fun _ => rfl
 have hml : (s.xs.map CLock.abs).length = s.n := by simp
 refine M0 ?_ Tryz.func56
 refine Md ((5 : Int) < (s.n : Int)) (fun h1 => ?_) fun h1 => ?_
 · have hm : mLocks (s.xs.map CLock.abs) = 1 := by
     grind [mLocks]
   exact Me0 1 hm
 refine Ml (σ := Nat) (fun i => i ≤ s.n ∧ mLocks (s.xs.map CLock.abs) = firstF (lockF (s.xs.map CLock.abs)) (s.n - i) i) (fun i => s.n - i) (fun _ => []) [10, 9, 8, 0] (fun i => [(10, vI (i : Int))]) (fun _ => []) ?_ 0 ⟨Nat.zero_le _, by unfold mLocks; rw [hml, if_neg (by omega)]⟩
 rintro i ⟨hi, hI⟩ _ on1
 refine Md ((i : Int) < (s.n : Int)) (fun h2 => ?_) fun h2 => ?_
 rotate_left
 · exact Me0 0 (by rw [hI, firstF_end (by omega)])
 refine Mi ?_ (pA 13 14 (i : Int) i (rdk hs))
 refine Mp ?_ Tryz.call82 (fun bs w hS => lock_Name _ w (Sl.ok.at (s := s) (i := i) oks (by omega)).1)
 refine Mbn (mName (s.at i).name) (fun h3 => ?_) fun h3 => ?_
 rotate_left
 · refine Me0 4 ?_
   have hf : lockF (s.xs.map CLock.abs) i = 4 := by
     grind [lockF]
   rw [hI, firstF_here (by omega) hf (by omega)]
 refine Mdn ((s.at i).holder = 0) (fun h4 => ?_) fun h4 => ?_
 · refine Mp ?_ Tryz.call84 (fun bs w hS => lock_line (s.at i) w (Sl.rd.sub (s := s) (i := i) (Sl.rd.kp hs hS.kp) (by omega)))
   refine Mbn (lineOk (s.at i).abs) (fun h5 => ?_) fun h5 => ?_
   rotate_left
   · refine Me0 4 ?_
     have hf : lockF (s.xs.map CLock.abs) i = 4 := by
       grind [lockF]
     rw [hI, firstF_here (by omega) hf (by omega)]
   refine Md ((s.at i).fence < 1) (fun h6 => ?_) fun h6 => ?_
   · refine Me0 2 ?_
     have hf : lockF (s.xs.map CLock.abs) i = 2 := by
       grind [lockF]
     rw [hI, firstF_here (by omega) hf (by omega)]
   refine Md ((1073741824 : Int) < (s.at i).fence) (fun h7 => ?_) fun h7 => ?_
   · refine Me0 2 ?_
     have hf : lockF (s.xs.map CLock.abs) i = 2 := by
       grind [lockF]
     rw [hI, firstF_here (by omega) hf (by omega)]
   refine Mda 13 [] [] [] Tryz_mixed ?_
   refine Md ((0 : Int) < (i : Int)) (fun h8 => ?_) fun h8 => ?_
   rotate_left
   · refine Mi ?_ (pR ((i : Int) + 1))
     have hf0 : lockF (s.xs.map CLock.abs) i = 0 := by
       grind [lockF]
     exact on1 (i + 1) ⟨by omega, by rw [hI]; exact firstF_step (by omega) hf0⟩ (by omega)
   refine Mih ?_ (pc (pR ((i : Int) - 1)) (pc (pI 49 ((i : Int) - 1) (i - 1) (rdk hs)) (pF 51 (i - 1) 0 1 (rdk hs))))
   refine Mbn (Op.bytesLess ((s.at (i - 1)).name).toList ((s.at i).name).toList) (fun h9 => ?_) fun h9 => ?_
   · refine Mi ?_ (pR ((i : Int) + 1))
     have hf0 : lockF (s.xs.map CLock.abs) i = 0 := by
       grind [lockF]
     exact on1 (i + 1) ⟨by omega, by rw [hI]; exact firstF_step (by omega) hf0⟩ (by omega)
   refine Me0 14 ?_
   have hf : lockF (s.xs.map CLock.abs) i = 14 := by
     grind [lockF]
   rw [hI, firstF_here (by omega) hf (by omega)]
 refine Mp ?_ Tryz.call83 (fun bs w hS => lock_client (s.at i).holder w)
 refine Mbn (inB (s.at i).holder 1 9) (fun h10 => ?_) fun h10 => ?_
 rotate_left
 · simp only [iT, iF] at h10
   refine Me0 4 ?_
   have hf : lockF (s.xs.map CLock.abs) i = 4 := by
     grind [lockF]
   rw [hI, firstF_here (by omega) hf (by omega)]
 simp only [iT, iF] at h10
 refine Mp ?_ Tryz.call84 (fun bs w hS => lock_line (s.at i) w (Sl.rd.sub (s := s) (i := i) (Sl.rd.kp hs hS.kp) (by omega)))
 refine Mbn (lineOk (s.at i).abs) (fun h11 => ?_) fun h11 => ?_
 rotate_left
 · refine Me0 4 ?_
   have hf : lockF (s.xs.map CLock.abs) i = 4 := by
     grind [lockF]
   rw [hI, firstF_here (by omega) hf (by omega)]
 refine Md ((s.at i).fence < 1) (fun h12 => ?_) fun h12 => ?_
 · refine Me0 2 ?_
   have hf : lockF (s.xs.map CLock.abs) i = 2 := by
     grind [lockF]
   rw [hI, firstF_here (by omega) hf (by omega)]
 refine Md ((1073741824 : Int) < (s.at i).fence) (fun h13 => ?_) fun h13 => ?_
 · refine Me0 2 ?_
   have hf : lockF (s.xs.map CLock.abs) i = 2 := by
     grind [lockF]
   rw [hI, firstF_here (by omega) hf (by omega)]
 refine Mda 13 [] [] [] Tryz_mixed ?_
 refine Md ((0 : Int) < (i : Int)) (fun h14 => ?_) fun h14 => ?_
 rotate_left
 · refine Mi ?_ (pR ((i : Int) + 1))
   have hf0 : lockF (s.xs.map CLock.abs) i = 0 := by
     grind [lockF]
   exact on1 (i + 1) ⟨by omega, by rw [hI]; exact firstF_step (by omega) hf0⟩ (by omega)
 refine Mih ?_ (pc (pR ((i : Int) - 1)) (pc (pI 49 ((i : Int) - 1) (i - 1) (rdk hs)) (pF 51 (i - 1) 0 1 (rdk hs))))
 refine Mbn (Op.bytesLess ((s.at (i - 1)).name).toList ((s.at i).name).toList) (fun h15 => ?_) fun h15 => ?_
 · refine Mi ?_ (pR ((i : Int) + 1))
   have hf0 : lockF (s.xs.map CLock.abs) i = 0 := by
     grind [lockF]
   exact on1 (i + 1) ⟨by omega, by rw [hI]; exact firstF_step (by omega) hf0⟩ (by omega)
 refine Me0 14 ?_
 have hf : lockF (s.xs.map CLock.abs) i = 14 := by
   grind [lockF]
 rw [hI, firstF_here (by omega) hf (by omega)]
theorem session_replies {B : Nat → Prop} (x : CSession) (w : World) (hx : Rds.sub B w x) (hb : 0 ≤ x.acked ∧ x.acked ≤ 1048576) : Calls Tryz.prog 51 #[x.val] w fun e w' => e = .returned (vb (mReplies x.abs)) ∧ Kp [] w w' := by
 have okx := Rds.okof hx
 have ncx := Sl.ok.nc okx
 have hns : x.replies.n = x.replies.xs.length := rfl
 have hat : ∀ q, x.abs.replies.getD q default = x.replies.at q := fun _ => rfl
 have hac : x.abs.acked = x.acked := rfl
 have hln : x.abs.replies.length = x.replies.n := rfl
 refine M0 ?_ Tryz.func51
 refine Ml (σ := Nat) (fun i => i ≤ x.replies.n ∧ allTo (keptOk x.abs) i = true) (fun i => x.replies.n - i) (fun _ => []) [9, 8, 7, 1] (fun i => [(9, vI (i : Int))]) (fun _ => []) ?_ 0 ⟨Nat.zero_le _, rfl⟩
 rintro i ⟨hi, hI⟩ _ on1
 refine Md ((i : Int) < (x.replies.n : Int)) (fun h1 => ?_) fun h1 => ?_
 rotate_left
 · have hm : mReplies x.abs = true := by show allTo _ x.abs.replies.length = true; rw [hln, show x.replies.n = i by omega]; exact hI
   exact Meb true hm
 refine Mi ?_ (pA 12 13 (i : Int) i (s := x.replies) (fun w hk hr => (Rds.kp hx hk)))
 refine Mda 29 [] [] [] Tryz_mixed ?_
 refine Md ((x.replies.at i).seq ≤ x.acked) (fun h2 => ?_) fun h2 => ?_
 · have hm : mReplies x.abs = false := allTo_bad (j := i) (decide_eq_false (fun hk => by simp only [hat, hac] at hk; omega)) (show i < x.abs.replies.length by rw [hln]; omega)
   exact Meb false hm
 refine Mih ?_ (pR (x.acked + 4))
 refine Md (x.acked + 4 < (x.replies.at i).seq) (fun h3 => ?_) fun h3 => ?_
 · have hm : mReplies x.abs = false := allTo_bad (j := i) (decide_eq_false (fun hk => by simp only [hat, hac] at hk; omega)) (show i < x.abs.replies.length by rw [hln]; omega)
   exact Meb false hm
 refine Md ((0 : Int) < (i : Int)) (fun h4 => ?_) fun h4 => ?_
 rotate_left
 · refine Md ((x.replies.at i).reply.code < 0) (fun h11 => ?_) fun h11 => ?_
   · have hm : mReplies x.abs = false := allTo_bad (j := i) (decide_eq_false (fun hk => by simp only [hat, hac] at hk; omega)) (show i < x.abs.replies.length by rw [hln]; omega)
     exact Meb false hm
   refine Md ((15 : Int) < (x.replies.at i).reply.code) (fun h12 => ?_) fun h12 => ?_
   · have hm : mReplies x.abs = false := allTo_bad (j := i) (decide_eq_false (fun hk => by simp only [hat, hac] at hk; omega)) (show i < x.abs.replies.length by rw [hln]; omega)
     exact Meb false hm
   refine Md ((x.replies.at i).reply.n < 0) (fun h13 => ?_) fun h13 => ?_
   · have hm : mReplies x.abs = false := allTo_bad (j := i) (decide_eq_false (fun hk => by simp only [hat, hac] at hk; omega)) (show i < x.abs.replies.length by rw [hln]; omega)
     exact Meb false hm
   refine Md ((1073741824 : Int) < (x.replies.at i).reply.n) (fun h14 => ?_) fun h14 => ?_
   · have hm : mReplies x.abs = false := allTo_bad (j := i) (decide_eq_false (fun hk => by simp only [hat, hac] at hk; omega)) (show i < x.abs.replies.length by rw [hln]; omega)
     exact Meb false hm
   refine Md ((12 : Int) < ((x.replies.at i).reply.text.size : Int)) (fun h15 => ?_) fun h15 => ?_
   rotate_left
   · refine Mi ?_ (pR ((i : Int) + 1))
     exact on1 (i + 1) ⟨by omega, allTo_step hI (decide_eq_true (by simp only [hat, hac]; exact ⟨by omega, by omega, by omega, by omega, by omega, by omega, by omega, by omega⟩))⟩ (by omega)
   have hm : mReplies x.abs = false := allTo_bad (j := i) (decide_eq_false (fun hk => by simp only [hat, hac] at hk; omega)) (show i < x.abs.replies.length by rw [hln]; omega)
   exact Meb false hm
 refine Mih ?_ (pc (pR ((i : Int) - 1)) (pc (pI 35 ((i : Int) - 1) (i - 1) (s := x.replies) (fun w hk hr => (Rds.kp hx hk))) (pF 37 (i - 1) 0 1 (s := x.replies) (fun w hk hr => (Rds.kp hx hk)))))
 refine Md ((x.replies.at i).seq ≤ (x.replies.at (i - 1)).seq) (fun h5 => ?_) fun h5 => ?_
 · have hm : mReplies x.abs = false := allTo_bad (j := i) (decide_eq_false (fun hk => by simp only [hat, hac] at hk; omega)) (show i < x.abs.replies.length by rw [hln]; omega)
   exact Meb false hm
 refine Md ((x.replies.at i).reply.code < 0) (fun h6 => ?_) fun h6 => ?_
 · have hm : mReplies x.abs = false := allTo_bad (j := i) (decide_eq_false (fun hk => by simp only [hat, hac] at hk; omega)) (show i < x.abs.replies.length by rw [hln]; omega)
   exact Meb false hm
 refine Md ((15 : Int) < (x.replies.at i).reply.code) (fun h7 => ?_) fun h7 => ?_
 · have hm : mReplies x.abs = false := allTo_bad (j := i) (decide_eq_false (fun hk => by simp only [hat, hac] at hk; omega)) (show i < x.abs.replies.length by rw [hln]; omega)
   exact Meb false hm
 refine Md ((x.replies.at i).reply.n < 0) (fun h8 => ?_) fun h8 => ?_
 · have hm : mReplies x.abs = false := allTo_bad (j := i) (decide_eq_false (fun hk => by simp only [hat, hac] at hk; omega)) (show i < x.abs.replies.length by rw [hln]; omega)
   exact Meb false hm
 refine Md ((1073741824 : Int) < (x.replies.at i).reply.n) (fun h9 => ?_) fun h9 => ?_
 · have hm : mReplies x.abs = false := allTo_bad (j := i) (decide_eq_false (fun hk => by simp only [hat, hac] at hk; omega)) (show i < x.abs.replies.length by rw [hln]; omega)
   exact Meb false hm
 refine Md ((12 : Int) < ((x.replies.at i).reply.text.size : Int)) (fun h10 => ?_) fun h10 => ?_
 rotate_left
 · refine Mi ?_ (pR ((i : Int) + 1))
   exact on1 (i + 1) ⟨by omega, allTo_step hI (decide_eq_true (by simp only [hat, hac]; exact ⟨by omega, by omega, by omega, by omega, by omega, by omega, by omega, by omega⟩))⟩ (by omega)
 have hm : mReplies x.abs = false := allTo_bad (j := i) (decide_eq_false (fun hk => by simp only [hat, hac] at hk; omega)) (show i < x.abs.replies.length by rw [hln]; omega)
 exact Meb false hm
theorem session_Check {B : Nat → Prop} (s : Sl CSession) (n : Int) (w : World) (hs : s.rd B w) : Calls Tryz.prog 22 #[s.val, vi n] w fun e w' => e = .returned (vi (mSess (s.xs.map CSession.abs) n)) ∧ Kp [] w w' := by
 have oks := Sl.rd.ok hs
 have ncs := Sl.ok.nc oks
 have hns : s.n = s.xs.length := rfl
 have hat : ∀ q, (s.xs.map CSession.abs).getD q default = (s.at q).abs := fun q => sabs_at q
 have hq0 : ∀ q, (s.at q).abs.client = (s.at q).client := fun _ => rfl
 have hq1 : ∀ q, (s.at q).abs.id = (s.at q).id := fun _ => rfl
 have hq2 : ∀ q, (s.at q).abs.acked = (s.at q).acked := fun _ => rfl
 have hq3 : ∀ q, (s.at q).abs.last = (s.at q).last := fun _ => rfl
 have hml : (s.xs.map CSession.abs).length = s.n := by simp
 refine M0 ?_ Tryz.func22
 refine Md (n < 0) (fun h1 => ?_) fun h1 => ?_
 · have hm : mSess (s.xs.map CSession.abs) n = 2 := by
     unfold mSess; rw [hml]
     first | rw [if_pos (by omega)] | rw [if_neg (by omega), if_pos (by omega)]
   exact Me0 2 hm
 refine Md ((1073741824 : Int) < n) (fun h2 => ?_) fun h2 => ?_
 · have hm : mSess (s.xs.map CSession.abs) n = 2 := by
     unfold mSess; rw [hml]
     first | rw [if_pos (by omega)] | rw [if_neg (by omega), if_pos (by omega)]
   exact Me0 2 hm
 refine Md ((4 : Int) < (s.n : Int)) (fun h3 => ?_) fun h3 => ?_
 · have hm : mSess (s.xs.map CSession.abs) n = 1 := by
     unfold mSess; rw [hml]
     first | rw [if_pos (by omega)] | rw [if_neg (by omega), if_pos (by omega)]
   exact Me0 1 hm
 refine Ml (σ := Nat) (fun i => i ≤ s.n ∧ mSess (s.xs.map CSession.abs) n = firstF (sessF (s.xs.map CSession.abs) n) (s.n - i) i) (fun i => s.n - i) (fun _ => []) [18, 17, 16, 0, 1] (fun i => [(18, vI (i : Int))]) (fun _ => []) ?_ 0 ⟨Nat.zero_le _, by unfold mSess; rw [hml, if_neg (by omega), if_neg (by omega)]⟩
 rintro i ⟨hi, hI⟩ _ on1
 refine Md ((i : Int) < (s.n : Int)) (fun h4 => ?_) fun h4 => ?_
 rotate_left
 · exact Me0 0 (by rw [hI, firstF_end (by omega)])
 refine Mi ?_ (pA 21 22 (i : Int) i (rdk hs))
 refine Md ((s.at i).client < 1) (fun h5 => ?_) fun h5 => ?_
 · refine Me0 2 ?_
   have hf : sessF (s.xs.map CSession.abs) n i = 2 := by
     grind [sessF]
   rw [hI, firstF_here (by omega) hf (by omega)]
 refine Md ((9 : Int) < (s.at i).client) (fun h6 => ?_) fun h6 => ?_
 · refine Me0 2 ?_
   have hf : sessF (s.xs.map CSession.abs) n i = 2 := by
     grind [sessF]
   rw [hI, firstF_here (by omega) hf (by omega)]
 refine Md ((s.at i).acked < 0) (fun h7 => ?_) fun h7 => ?_
 · refine Me0 2 ?_
   have hf : sessF (s.xs.map CSession.abs) n i = 2 := by
     grind [sessF]
   rw [hI, firstF_here (by omega) hf (by omega)]
 refine Md ((1048576 : Int) < (s.at i).acked) (fun h8 => ?_) fun h8 => ?_
 · refine Me0 2 ?_
   have hf : sessF (s.xs.map CSession.abs) n i = 2 := by
     grind [sessF]
   rw [hI, firstF_here (by omega) hf (by omega)]
 refine Md ((s.at i).id < 1) (fun h9 => ?_) fun h9 => ?_
 · refine Me0 2 ?_
   have hf : sessF (s.xs.map CSession.abs) n i = 2 := by
     grind [sessF]
   rw [hI, firstF_here (by omega) hf (by omega)]
 refine Md ((s.at i).last < (s.at i).id) (fun h10 => ?_) fun h10 => ?_
 · refine Me0 2 ?_
   have hf : sessF (s.xs.map CSession.abs) n i = 2 := by
     grind [sessF]
   rw [hI, firstF_here (by omega) hf (by omega)]
 refine Md (n < (s.at i).last) (fun h11 => ?_) fun h11 => ?_
 · refine Me0 2 ?_
   have hf : sessF (s.xs.map CSession.abs) n i = 2 := by
     grind [sessF]
   rw [hI, firstF_here (by omega) hf (by omega)]
 refine Mp ?_ Tryz.call51 (fun bs w hS => session_replies (s.at i) w (Sl.rd.sub (s := s) (i := i) (Sl.rd.kp hs hS.kp) (by omega)) (by first | exact ⟨by omega, by omega⟩ | (simp only [] at *; exact ⟨by omega, by omega⟩)))
 refine Mbn (mReplies (s.at i).abs) (fun h12 => ?_) fun h12 => ?_
 rotate_left
 · refine Me0 4 ?_
   have hf : sessF (s.xs.map CSession.abs) n i = 4 := by
     grind [sessF]
   rw [hI, firstF_here (by omega) hf (by omega)]
 refine Mda 13 [] [] [] Tryz_mixed ?_
 refine Md ((0 : Int) < (i : Int)) (fun h13 => ?_) fun h13 => ?_
 rotate_left
 · refine Mi ?_ (pR ((i : Int) + 1))
   have hf0 : sessF (s.xs.map CSession.abs) n i = 0 := by
     grind [sessF]
   exact on1 (i + 1) ⟨by omega, by rw [hI]; exact firstF_step (by omega) hf0⟩ (by omega)
 refine Mih ?_ (pc (pR ((i : Int) - 1)) (pc (pI 68 ((i : Int) - 1) (i - 1) (rdk hs)) (pF 70 (i - 1) 0 1 (rdk hs))))
 refine Md ((s.at i).client ≤ (s.at (i - 1)).client) (fun h14 => ?_) fun h14 => ?_
 rotate_left
 · refine Mi ?_ (pR ((i : Int) + 1))
   have hf0 : sessF (s.xs.map CSession.abs) n i = 0 := by
     grind [sessF]
   exact on1 (i + 1) ⟨by omega, by rw [hI]; exact firstF_step (by omega) hf0⟩ (by omega)
 refine Me0 14 ?_
 have hf : sessF (s.xs.map CSession.abs) n i = 14 := by
   grind [sessF]
 rw [hI, firstF_here (by omega) hf (by omega)]
theorem pair_Check {B : Nat → Prop} (s : Sl DPair) (w : World) (hs : s.rd B w) : Calls Tryz.prog 57 #[s.val] w fun e w' => e = .returned (vi (mPairs s.xs)) ∧ Kp [] w w' := by
 have oks := Sl.rd.ok hs
 have ncs := Sl.ok.nc oks
 have hns : s.n = s.xs.length := rfl
 refine M0 ?_ Tryz.func57
 refine Md ((5 : Int) < (s.n : Int)) (fun h1 => ?_) fun h1 => ?_
 · have hm : mPairs s.xs = 1 := by
     unfold mPairs; rw [if_pos (by omega)]
   exact Me0 1 hm
 refine Ml (σ := Nat) (fun i => i ≤ s.n ∧ mPairs s.xs = firstF (pairF s.xs) (s.n - i) i) (fun i => s.n - i) (fun _ => []) [10, 9, 8, 0] (fun i => [(10, vI (i : Int))]) (fun _ => []) ?_ 0 ⟨Nat.zero_le _, by unfold mPairs; rw [if_neg (by omega)]⟩
 rintro i ⟨hi, hI⟩ _ on1
 have hlt := hi
 refine Md ((i : Int) < (s.n : Int)) (fun h2 => ?_) fun h2 => ?_
 rotate_left
 · exact Me0 0 (by rw [hI, firstF_end (by omega)])
 refine Mi ?_ (pA 13 14 (i : Int) i (rdk hs))
 refine Mp ?_ Tryz.call82 (fun bs w hS => lock_Name _ w (Sl.ok.at (s := s) (i := i) oks (by omega)).1)
 refine Mbn (mName (s.at i).name) (fun h3 => ?_) fun h3 => ?_
 rotate_left
 · refine Me0 4 ?_
   have hf : pairF s.xs i = 4 := by
     have hat : ∀ q, s.xs.getD q default = s.at q := fun _ => rfl
     grind [pairF]
   rw [hI, firstF_here (by omega) hf (by omega)]
 refine Md ((12 : Int) < ((s.at i).value.size : Int)) (fun h4 => ?_) fun h4 => ?_
 · refine Me0 1 ?_
   have hf : pairF s.xs i = 1 := by
     have hat : ∀ q, s.xs.getD q default = s.at q := fun _ => rfl
     grind [pairF]
   rw [hI, firstF_here (by omega) hf (by omega)]
 refine Md ((s.at i).version < 1) (fun h5 => ?_) fun h5 => ?_
 · refine Me0 2 ?_
   have hf : pairF s.xs i = 2 := by
     have hat : ∀ q, s.xs.getD q default = s.at q := fun _ => rfl
     grind [pairF]
   rw [hI, firstF_here (by omega) hf (by omega)]
 refine Md ((1073741824 : Int) < (s.at i).version) (fun h6 => ?_) fun h6 => ?_
 · refine Me0 2 ?_
   have hf : pairF s.xs i = 2 := by
     have hat : ∀ q, s.xs.getD q default = s.at q := fun _ => rfl
     grind [pairF]
   rw [hI, firstF_here (by omega) hf (by omega)]
 refine Mda 13 [] [] [] Tryz_mixed ?_
 refine Md ((0 : Int) < (i : Int)) (fun h7 => ?_) fun h7 => ?_
 rotate_left
 · refine Mi ?_ (pR ((i : Int) + 1))
   have hf0 : pairF s.xs i = 0 := by
     have hat : ∀ q, s.xs.getD q default = s.at q := fun _ => rfl
     grind [pairF]
   exact on1 (i + 1) ⟨by omega, by rw [hI]; exact firstF_step (by omega) hf0⟩ (by omega)
 refine Mih ?_ (pc (pR ((i : Int) - 1)) (pc (pI 37 ((i : Int) - 1) (i - 1) (rdk hs)) (pF 39 (i - 1) 0 1 (rdk hs))))
 refine Mbn (Op.bytesLess ((s.at (i - 1)).name).toList ((s.at i).name).toList) (fun h8 => ?_) fun h8 => ?_
 · refine Mi ?_ (pR ((i : Int) + 1))
   have hf0 : pairF s.xs i = 0 := by
     have hat : ∀ q, s.xs.getD q default = s.at q := fun _ => rfl
     grind [pairF]
   exact on1 (i + 1) ⟨by omega, by rw [hI]; exact firstF_step (by omega) hf0⟩ (by omega)
 refine Me0 14 ?_
 have hf : pairF s.xs i = 14 := by
   have hat : ∀ q, s.xs.getD q default = s.at q := fun _ => rfl
   grind [pairF]
 rw [hI, firstF_here (by omega) hf (by omega)]
theorem machine_Check {B : Nat → Prop} (x : CState) (w : World) (hx : Rds.sub B w x) : Calls Tryz.prog 31 #[x.val] w fun e w' => e = .returned (vi (mState x.abs)) ∧ Kp [] w w' := by
 have okx := Rds.okof hx
 refine M0 ?_ Tryz.func31
 refine Mp ?_ Tryz.call22 (fun bs w hS => session_Check x.sessions x.index w (Rds.kp hx hS.kp).2.2)
 refine Mdn (mSess (x.sessions.xs.map CSession.abs) x.index = 0) (fun h1 => ?_) fun h1 => ?_
 rotate_left
 · have hm : mState x.abs = mSess (x.sessions.xs.map CSession.abs) x.index := by
     have q1 : x.abs.sessions = x.sessions.xs.map CSession.abs := rfl
     have q2 : x.abs.locks = x.locks.xs.map CLock.abs := rfl
     have q3 : x.abs.pairs = x.pairs.xs := rfl
     have q4 : x.abs.index = x.index := rfl
     grind [mState]
   exact Me0 (mSess (x.sessions.xs.map CSession.abs) x.index) hm
 refine Mp ?_ Tryz.call56 (fun bs w hS => lock_Check x.locks w (Rds.kp hx hS.kp).1)
 refine Mdn (mLocks (x.locks.xs.map CLock.abs) = 0) (fun h2 => ?_) fun h2 => ?_
 rotate_left
 · have hm : mState x.abs = mLocks (x.locks.xs.map CLock.abs) := by
     have q1 : x.abs.sessions = x.sessions.xs.map CSession.abs := rfl
     have q2 : x.abs.locks = x.locks.xs.map CLock.abs := rfl
     have q3 : x.abs.pairs = x.pairs.xs := rfl
     have q4 : x.abs.index = x.index := rfl
     grind [mState]
   exact Me0 (mLocks (x.locks.xs.map CLock.abs)) hm
 refine Mp ?_ Tryz.call57 (fun bs w hS => pair_Check x.pairs w (Rds.kp hx hS.kp).2.1)
 have hm : mState x.abs = mPairs x.pairs.xs := by
   have q1 : x.abs.sessions = x.sessions.xs.map CSession.abs := rfl
   have q2 : x.abs.locks = x.locks.xs.map CLock.abs := rfl
   have q3 : x.abs.pairs = x.pairs.xs := rfl
   have q4 : x.abs.index = x.index := rfl
   grind [mState]
 exact Me0 (mPairs x.pairs.xs) hm
theorem log_Check {B : Nat → Prop} (x : CLog) (w : World) (hx : Rds.sub B w x) : Calls Tryz.prog 152 #[x.val] w fun e w' => e = .returned (vi (mLog x.abs)) ∧ Kp [] w w' := by
 have okx := Rds.okof hx
 have ncx := Sl.ok.nc okx
 have hnx : x.entries.n = x.entries.xs.length := rfl
 have q1 : x.abs.base = x.base := rfl
 have q2 : x.abs.entries = x.entries.xs := rfl
 have hat : ∀ q, x.entries.xs.getD q default = x.entries.at q := fun _ => rfl
 refine M0 ?_ Tryz.func152
 refine Md (x.base < 0) (fun h1 => ?_) fun h1 => ?_
 · have hm : mLog x.abs = 2 := by
     unfold mLog; rw [q1, q2]
     first | rw [if_pos (by omega)] | rw [if_neg (by omega), if_pos (by omega)]
   exact Me0 2 hm
 refine Md ((1073741424 : Int) < x.base) (fun h2 => ?_) fun h2 => ?_
 · have hm : mLog x.abs = 2 := by
     unfold mLog; rw [q1, q2]
     first | rw [if_pos (by omega)] | rw [if_neg (by omega), if_pos (by omega)]
   exact Me0 2 hm
 refine Md ((400 : Int) < (x.entries.n : Int)) (fun h3 => ?_) fun h3 => ?_
 · have hm : mLog x.abs = 1 := by
     unfold mLog; rw [q1, q2]
     first | rw [if_pos (by omega)] | rw [if_neg (by omega), if_pos (by omega)]
   exact Me0 1 hm
 refine Ml (σ := Nat) (fun i => i ≤ x.entries.n ∧ mLog x.abs = firstF (logF x.entries.xs) (x.entries.n - i) i) (fun i => x.entries.n - i) (fun _ => []) [22, 21, 20] (fun i => [(22, vI (i : Int))]) (fun _ => []) ?_ 0 ⟨Nat.zero_le _, by unfold mLog; rw [q1, q2, if_neg (by omega), if_neg (by omega)]⟩
 rintro i ⟨hi, hI⟩ _ on1
 refine Md ((i : Int) < (x.entries.n : Int)) (fun h4 => ?_) fun h4 => ?_
 rotate_left
 · exact Me0 0 (by rw [hI, firstF_end (by omega)])
 refine Mi ?_ (pA 24 25 (i : Int) i (s := x.entries) (fun w hk hr => (Rds.kp hx hk)))
 refine Mp ?_ Tryz.call10 (fun bs w hS => command_Decode (x.entries.at i) w (Sl.ok.at (s := x.entries) (i := i) okx (by omega)))
 refine Mdn ((mDecode (x.entries.at i)).2 = 0) (fun h5 => ?_) fun h5 => ?_
 · refine Mi ?_ (pR ((i : Int) + 1))
   have hf0 : logF x.entries.xs i = 0 := by grind [logF]
   exact on1 (i + 1) ⟨by omega, by rw [hI]; exact firstF_step (by omega) hf0⟩ (by omega)
 refine Me0 ((mDecode (x.entries.at i)).2) ?_
 have hf : logF x.entries.xs i = (mDecode (x.entries.at i)).2 := by unfold logF; rw [hat]
 rw [hI, firstF_here (by omega) hf (by assumption)]
theorem log_Last {B : Nat → Prop} (x : CLog) (w : World) (hx : Rds.sub B w x) (hb : 0 ≤ x.base ∧ x.base ≤ 1073741424 ∧ x.entries.n ≤ 1048576) : Calls Tryz.prog 14 #[x.val] w fun e w' => e = .returned (vi (x.base + (x.entries.n : Int))) ∧ Kp [] w w' := by
 have okx := Rds.okof hx
 have ncx := Sl.ok.nc okx
 have hnx : x.entries.n = x.entries.xs.length := rfl
 have q1 : x.abs.base = x.base := rfl
 have q2 : x.abs.entries = x.entries.xs := rfl
 have hat : ∀ q, x.entries.xs.getD q default = x.entries.at q := fun _ => rfl
 refine M0 ?_ Tryz.func14
 refine Mi ?_ (pR (x.base + (x.entries.n : Int)))
 exact Mt [vi (x.base + (x.entries.n : Int))] fun bs w hS => ⟨rfl, hS.kp⟩
theorem bytealg_CompareString (a b : ByteArray) (w : World) : Calls Tryz.prog 121 #[vs a, vs b] w fun e w' => e = .returned (vi (cmpS a b)) ∧ Kp [] w w' := by
 refine M0 ?_ Tryz.func121
 refine Mx ?_ (vs := fun bs => [vs a, vs b]) (v := vi (cmpS a b)) (fun bs w hS => by rw [run_callFunc_extern Tryz.func146 (by kernel_rfl) (by kernel_rfl) (by kernel_rfl) (e := Extern.BytealgCompare.compare) (by kernel_rfl)]; show ((Extern.BytealgCompare.compare #[vs a, vs b]).run _ w).andThen _ = _; rw [Lib.run_compareString]; rfl)
 exact Mt [vi (cmpS a b)] fun bs w hS => ⟨rfl, hS.kp⟩
theorem strings_Compare (a b : ByteArray) (w : World) : Calls Tryz.prog 93 #[vs a, vs b] w fun e w' => e = .returned (vi (cmpS a b)) ∧ Kp [] w w' := by
 refine M0 ?_ Tryz.func93
 refine Mp ?_ Tryz.call121 (fun bs w hS => bytealg_CompareString a b w)
 exact Mt [vi (cmpS a b)] fun bs w hS => ⟨rfl, hS.kp⟩
theorem lock_Who_1 (x : CLock) (t : ByteArray) (w : World) : Calls Tryz.prog 92 #[x.val, vs t] w fun e w' => e = .returned (vi (cmpS x.name t)) ∧ Kp [] w w' := by
 refine M0 ?_ Tryz.func92
 refine Mp ?_ Tryz.call93 (fun bs w hS => strings_Compare x.name t w)
 exact Mt [vi (cmpS x.name t)] fun bs w hS => ⟨rfl, hS.kp⟩
theorem bs_lock_Who_1 {B : Nat → Prop} (s : Sl CLock) (t : ByteArray) (w : World) (hs : s.rd B w) (hn : s.n ≤ 1048576) : Calls Tryz.prog 91 #[s.val, vs t, .func (.func 92) #[] #[]] w fun e w' => e = .returned (.tuple #[vi (mBS (fun x : CLock => cmpS x.name t) s.xs : Nat), vb (mBSf (fun x : CLock => cmpS x.name t) s.xs)]) ∧ Kp [] w w' := by
 have oks := Sl.rd.ok hs
 have ncs := Sl.ok.nc oks
 have hns : s.n = s.xs.length := rfl
 refine Mj ?_ Tryz.func91 (WS.start w)
 refine Ml (σ := Nat × Nat × Nat) (fun ⟨i, j, f⟩ => i ≤ j ∧ j ≤ s.n ∧ j - i ≤ f ∧ mBS (fun x : CLock => cmpS x.name t) s.xs = bsGo (fun j => decide (cmpS (s.at j).name t < 0)) f i j) (fun ⟨i, j, f⟩ => f) (fun _ => []) [10, 9, 8, 0, 1, 2] (fun ⟨i, j, f⟩ => [(10, vI (j : Int)), (9, vI (i : Int))]) (fun _ => []) ?_ (⟨0, s.n, s.n⟩) ⟨Nat.zero_le _, Nat.le_refl _, Nat.le_refl _, rfl⟩
 rintro ⟨i, j, f⟩ ⟨h1, h2, h3, hI⟩ _ on1
 have hdiv : ((i : Int) + (j : Int)) / 2 = (((i + j) / 2 : Nat) : Int) := by omega
 refine Md ((i : Int) < (j : Int)) (fun h1 => ?_) fun h1 => ?_
 rotate_left
 · refine Md ((i : Int) < (s.n : Int)) (fun h3 => ?_) fun h3 => ?_
   rotate_left
   · refine Mt [vi (i : Int), vb false] fun bs w hS => ?_
     have hij : i = j := by omega
     subst hij
     have hr : mBS (fun x : CLock => cmpS x.name t) s.xs = i := by rw [hI]; exact bsGo_end _ _ _ _ (Nat.le_refl _)
     refine ⟨?_, hS.kp⟩
     have hr2 : mBSf (fun x : CLock => cmpS x.name t) s.xs = false := by
       unfold mBSf; rw [hr]
       rw [decide_eq_false (show ¬ i < s.xs.length by omega)]; rfl
     rw [hr, hr2]
     rfl
   refine Mi ?_ (pA 43 44 (i : Int) i (rdk hs))
   refine Mp ?_ Tryz.call92 (fun bs w hS => lock_Who_1 (s.at i) t w)
   refine Mt [vi (i : Int), vb (decide (cmpS (s.at i).name t = 0))] fun bs w hS => ?_
   have hij : i = j := by omega
   subst hij
   have hr : mBS (fun x : CLock => cmpS x.name t) s.xs = i := by rw [hI]; exact bsGo_end _ _ _ _ (Nat.le_refl _)
   refine ⟨?_, hS.kp⟩
   have hr2 : mBSf (fun x : CLock => cmpS x.name t) s.xs = (decide (cmpS (s.at i).name t = 0)) := by
     unfold mBSf; rw [hr]
     rw [decide_eq_true (show i < s.xs.length by omega)]; rfl
   rw [hr, hr2]
   rfl
 refine Mi ?_ (pc (pR ((i : Int) + (j : Int))) (pc (pG [(21, .val (.int .u64 ((i : Int) + (j : Int))))] (oc ((conv_i64_u64 Tryz.underlying3 Tryz.underlying175 (by omega) (by omega)) : ∀ w, (convert 3 175 (vi ((i : Int) + (j : Int))) : Sem Value).run Tryz.prog w = .ok (.int .u64 ((i : Int) + (j : Int))) w) on)) (pc (pG [(22, .val (.int .u64 (((i : Int) + (j : Int)) / 2)))] (oc (shr_u64 : ∀ w, (do eqGuard .shr 175 (.tmp 21) (.const (.int .u64 1)) (.int .u64 ((i : Int) + (j : Int))) (.int .u64 1); binOp .shr 175 (.int .u64 ((i : Int) + (j : Int))) (.int .u64 1) : Sem Value).run Tryz.prog w = .ok (.int .u64 (((i : Int) + (j : Int)) / 2)) w) on)) (pc (pG [(23, .val (vi (((i : Int) + (j : Int)) / 2)))] (oc ((conv_u64_i64 Tryz.underlying175 Tryz.underlying3 (by omega) (by omega)) : ∀ w, (convert 175 3 (.int .u64 (((i : Int) + (j : Int)) / 2)) : Sem Value).run Tryz.prog w = .ok (vi (((i : Int) + (j : Int)) / 2)) w) on)) (pA 27 28 (((i : Int) + (j : Int)) / 2) (((i : Int) + (j : Int)) / 2).toNat (rdk hs))))))
 refine Mp ?_ Tryz.call92 (fun bs w hS => lock_Who_1 (s.at (((i : Int) + (j : Int)) / 2).toNat) t w)
 refine Md (cmpS (s.at (((i : Int) + (j : Int)) / 2).toNat).name t < 0) (fun h2 => ?_) fun h2 => ?_
 rotate_left
 · have hf1 : f = (f - 1) + 1 := by omega
   rw [hf1] at hI
   have hI2 := hI.trans (bsGo_down (by omega) (decide_eq_false (by assumption)))
   exact on1 ⟨i, (i + j) / 2, f - 1⟩ ⟨by omega, by omega, by omega, hI2⟩ (by show f - 1 < f; omega)
 refine Mi ?_ (pR ((((i : Int) + (j : Int)) / 2) + 1))
 have hf1 : f = (f - 1) + 1 := by omega
 rw [hf1] at hI
 have hI2 := hI.trans (bsGo_up (by omega) (decide_eq_true (by assumption)))
 exact on1 ⟨(i + j) / 2 + 1, j, f - 1⟩ ⟨by omega, by omega, by omega, hI2⟩ (by show f - 1 < f; omega)
theorem lock_Who {B : Nat → Prop} (s : Sl CLock) (t : ByteArray) (w : World) (hs : s.rd B w) : Calls Tryz.prog 65 #[s.val, vs t] w fun e w' => e = .returned (.tuple #[vi (mWho (s.xs.map CLock.abs) t).1, vi (mWho (s.xs.map CLock.abs) t).2.1, vi (mWho (s.xs.map CLock.abs) t).2.2]) ∧ Kp [] w w' := by
 have oks := Sl.rd.ok hs
 have ncs := Sl.ok.nc oks
 have hns : s.n = s.xs.length := rfl
 have hat : ∀ q, (s.xs.map CLock.abs).getD q default = (s.at q).abs := fun q => abs_at q
 have hq1 : ∀ q, (s.at q).abs.name = (s.at q).name := fun _ => rfl
 have hq2 : ∀ q, (s.at q).abs.holder = (s.at q).holder := fun _ => rfl
 have hq3 : ∀ q, (s.at q).abs.fence = (s.at q).fence := fun _ => rfl
 have hml : (s.xs.map CLock.abs).length = s.n := by simp
 refine M0 ?_ Tryz.func65
 refine Mp ?_ Tryz.call56 (fun bs w hS => lock_Check s w (Sl.rd.kp hs hS.kp))
 refine Mdn (mLocks (s.xs.map CLock.abs) = 0) (fun h1 => ?_) fun h1 => ?_
 rotate_left
 · refine Mt [vi 0, vi 0, vi (mLocks (s.xs.map CLock.abs))] fun bs w hS => ?_
   refine ⟨?_, hS.kp⟩
   have hm : mWho (s.xs.map CLock.abs) t = (0, 0, mLocks (s.xs.map CLock.abs)) := by
     unfold mWho; rw [if_neg h1]
   rw [hm]
   rfl
 have hln := (mLocks_bd h1).1
 refine Mp ?_ Tryz.call91 (fun bs w hS => bs_lock_Who_1 s t w (Sl.rd.kp hs hS.kp) (by omega))
 refine Mbn (mBSf (fun x : CLock => cmpS x.name t) s.xs) (fun h2 => ?_) fun h2 => ?_
 rotate_left
 · refine Mt [vi 0, vi 0, vi 0] fun bs w hS => ?_
   refine ⟨?_, hS.kp⟩
   have hm : mWho (s.xs.map CLock.abs) t = (0, 0, 0) := by
     have hb := bsf_lock (L := s.xs) (by assumption) t
     have hb1 := hb.1
     rw [h2] at hb1
     have hb3 := of_decide_eq_false hb1.symm
     unfold mWho; rw [if_pos (by assumption)]
     apply if_neg
     rintro ⟨h1z, h2z⟩
     omega
   rw [hm]
   rfl
 have hlt := mBSf_lt h2
 refine Mi ?_ (pc (pI 26 ((mBS (fun x : CLock => cmpS x.name t) s.xs : Nat) : Int) (((mBS (fun x : CLock => cmpS x.name t) s.xs : Nat) : Int)).toNat (rdk hs)) (pF 28 (((mBS (fun x : CLock => cmpS x.name t) s.xs : Nat) : Int)).toNat 1 1 (rdk hs)))
 refine Md ((s.at (((mBS (fun x : CLock => cmpS x.name t) s.xs : Nat) : Int)).toNat).holder = 0) (fun h3 => ?_) fun h3 => ?_
 · refine Mt [vi 0, vi 0, vi 0] fun bs w hS => ?_
   refine ⟨?_, hS.kp⟩
   have hm : mWho (s.xs.map CLock.abs) t = (0, 0, 0) := by
     have hb := bsf_lock (L := s.xs) (by assumption) t
     have hb2 := hb.2 h2
     have hb1 := hb.1
     rw [h2] at hb1
     have hb3 := of_decide_eq_true hb1.symm
     unfold mWho; rw [if_pos (by assumption)]
     apply if_neg
     rintro ⟨h1z, h2z⟩
     rw [← hb2, Int.toNat_natCast, hat, hq2] at h2z
     exact h2z h3
   rw [hm]
   rfl
 refine Mda 13 [] [] [] Tryz_mixed ?_
 refine Mih ?_ (pc (pI 33 ((mBS (fun x : CLock => cmpS x.name t) s.xs : Nat) : Int) (((mBS (fun x : CLock => cmpS x.name t) s.xs : Nat) : Int)).toNat (rdk hs)) (pc (pF 35 (((mBS (fun x : CLock => cmpS x.name t) s.xs : Nat) : Int)).toNat 1 1 (rdk hs)) (pc (pI 38 ((mBS (fun x : CLock => cmpS x.name t) s.xs : Nat) : Int) (((mBS (fun x : CLock => cmpS x.name t) s.xs : Nat) : Int)).toNat (rdk hs)) (pF 40 (((mBS (fun x : CLock => cmpS x.name t) s.xs : Nat) : Int)).toNat 2 1 (rdk hs)))))
 refine Mt [vi (s.at (((mBS (fun x : CLock => cmpS x.name t) s.xs : Nat) : Int)).toNat).holder, vi (s.at (((mBS (fun x : CLock => cmpS x.name t) s.xs : Nat) : Int)).toNat).fence, vi 0] fun bs w hS => ?_
 refine ⟨?_, hS.kp⟩
 have hm : mWho (s.xs.map CLock.abs) t = ((s.at (((mBS (fun x : CLock => cmpS x.name t) s.xs : Nat) : Int)).toNat).holder, (s.at (((mBS (fun x : CLock => cmpS x.name t) s.xs : Nat) : Int)).toNat).fence, 0) := by
   have hb := bsf_lock (L := s.xs) (by assumption) t
   have hb2 := hb.2 h2
   have hb1 := hb.1
   rw [h2] at hb1
   have hb3 := of_decide_eq_true hb1.symm
   unfold mWho; rw [if_pos (by assumption)]
   rw [← hb2, Int.toNat_natCast, hat, hq2, hq3, if_pos ⟨by omega, by assumption⟩]
 rw [hm]
 rfl
theorem customer_Check {B : Nat → Prop} (x : CCustomer) (w : World) (hx : Rds.sub B w x) : Calls Tryz.prog 131 #[x.val] w fun e w' => e = .returned (vi (mCust x.abs)) ∧ Kp [] w w' := by
 have okx := Rds.okof hx
 have ncx := Sl.ok.nc okx
 have hns : x.waits.n = x.waits.xs.length := rfl
 have hat : ∀ q, x.abs.waits.getD q default = x.waits.at q := fun _ => rfl
 have ha1 : x.abs.id = x.id := rfl
 have ha2 : x.abs.session = x.session := rfl
 have ha3 : x.abs.next = x.next := rfl
 have ha4 : x.abs.waits.length = x.waits.n := rfl
 refine M0 ?_ Tryz.func131
 refine Md (x.id < 1) (fun h1 => ?_) fun h1 => ?_
 · have hm : mCust x.abs = 2 := by
     grind [mCust]
   exact Me0 2 hm
 refine Md ((9 : Int) < x.id) (fun h2 => ?_) fun h2 => ?_
 · have hm : mCust x.abs = 2 := by
     grind [mCust]
   exact Me0 2 hm
 refine Md (x.session < 0) (fun h3 => ?_) fun h3 => ?_
 · have hm : mCust x.abs = 2 := by
     grind [mCust]
   exact Me0 2 hm
 refine Md ((1073741824 : Int) < x.session) (fun h4 => ?_) fun h4 => ?_
 · have hm : mCust x.abs = 2 := by
     grind [mCust]
   exact Me0 2 hm
 refine Md (x.next < 1) (fun h5 => ?_) fun h5 => ?_
 · have hm : mCust x.abs = 2 := by
     grind [mCust]
   exact Me0 2 hm
 refine Md ((1048577 : Int) < x.next) (fun h6 => ?_) fun h6 => ?_
 · have hm : mCust x.abs = 2 := by
     grind [mCust]
   exact Me0 2 hm
 refine Md ((4 : Int) < (x.waits.n : Int)) (fun h7 => ?_) fun h7 => ?_
 · have hm : mCust x.abs = 9 := by
     grind [mCust]
   exact Me0 9 hm
 refine Md (x.session = 0) (fun h8 => ?_) fun h8 => ?_
 rotate_left
 · refine Ml (σ := Nat) (fun i => i ≤ x.waits.n ∧ mCust x.abs = firstF (custF x.abs) (x.waits.n - i) i ∧ (0 < i → 1 ≤ (x.waits.at 0).seq ∧ (x.waits.at 0).seq < x.next)) (fun i => x.waits.n - i) (fun _ => []) [52, 51, 50, 1] (fun i => [(52, vI (i : Int))]) (fun _ => []) ?_ 0 ⟨Nat.zero_le _, by unfold mCust; simp only [ha1, ha2, ha3, ha4]; rw [if_neg (by omega), if_neg (by omega)], fun h => absurd h (by omega)⟩
   rintro i ⟨hi, hI, h0⟩ _ on2
   have hz : i = 0 ∨ (0 < i ∧ 1 ≤ (x.waits.at 0).seq ∧ (x.waits.at 0).seq < x.next) := by rcases Nat.eq_zero_or_pos i with h | h; exact .inl h; exact .inr ⟨h, h0 h⟩
   have hz2 : i = 0 → (x.waits.at i).seq = (x.waits.at 0).seq := fun h => by rw [h]
   refine Md ((i : Int) < (x.waits.n : Int)) (fun h19 => ?_) fun h19 => ?_
   rotate_left
   · exact Me0 0 (by rw [hI, firstF_end (by omega)])
   refine Mi ?_ (pA 55 56 (i : Int) i (s := x.waits) (fun w hk hr => (Rds.kp hx hk)))
   refine Mda 38 [] [] [] Tryz_mixed ?_
   refine Md ((x.waits.at i).seq < 1) (fun h20 => ?_) fun h20 => ?_
   · refine Me0 9 ?_
     have hf : custF x.abs i = 9 := by
       grind [custF]
     rw [hI, firstF_here (by omega) hf (by first | assumption | omega)]
   refine Md (x.next ≤ (x.waits.at i).seq) (fun h21 => ?_) fun h21 => ?_
   · refine Me0 9 ?_
     have hf : custF x.abs i = 9 := by
       grind [custF]
     rw [hI, firstF_here (by omega) hf (by first | assumption | omega)]
   refine Md ((0 : Int) < (i : Int)) (fun h22 => ?_) fun h22 => ?_
   rotate_left
   · refine Mih ?_ (pc (pI 88 0 0 (s := x.waits) (fun w hk hr => (Rds.kp hx hk))) (pc (pF 90 0 0 1 (s := x.waits) (fun w hk hr => (Rds.kp hx hk))) (pc (pR ((x.waits.at 0).seq + 4)) (pR (((x.waits.at 0).seq + 4) - 1)))))
     refine Md (((x.waits.at 0).seq + 4) - 1 < (x.waits.at i).seq) (fun h26 => ?_) fun h26 => ?_
     · refine Me0 9 ?_
       have hf : custF x.abs i = 9 := by
         grind [custF]
       rw [hI, firstF_here (by omega) hf (by first | assumption | omega)]
     refine Mp ?_ Tryz.call50 (fun bs w hS => command_CheckOp (B := anyB) (x.waits.at i).op w ⟨(Sl.ok.at (s := x.waits) (i := i) okx (by omega)).1, (Sl.ok.at (s := x.waits) (i := i) okx (by omega)).2⟩)
     refine Mdn (mOp (x.waits.at i).op = 0) (fun h27 => ?_) fun h27 => ?_
     · refine Mi ?_ (pR ((i : Int) + 1))
       have hf0 : custF x.abs i = 0 := by
         grind [custF]
       exact on2 (i + 1) ⟨by omega, by rw [hI]; exact firstF_step (by omega) hf0, fun _ => by omega⟩ (by omega)
     refine Me0 (mOp (x.waits.at i).op) ?_
     have hf : custF x.abs i = mOp (x.waits.at i).op := by
       grind [custF]
     rw [hI, firstF_here (by omega) hf (by first | assumption | omega)]
   refine Mih ?_ (pc (pR ((i : Int) - 1)) (pc (pI 75 ((i : Int) - 1) (i - 1) (s := x.waits) (fun w hk hr => (Rds.kp hx hk))) (pF 77 (i - 1) 0 1 (s := x.waits) (fun w hk hr => (Rds.kp hx hk)))))
   refine Md ((x.waits.at i).seq ≤ (x.waits.at (i - 1)).seq) (fun h23 => ?_) fun h23 => ?_
   · refine Me0 9 ?_
     have hf : custF x.abs i = 9 := by
       grind [custF]
     rw [hI, firstF_here (by omega) hf (by first | assumption | omega)]
   refine Mih ?_ (pc (pI 88 0 0 (s := x.waits) (fun w hk hr => (Rds.kp hx hk))) (pc (pF 90 0 0 1 (s := x.waits) (fun w hk hr => (Rds.kp hx hk))) (pc (pR ((x.waits.at 0).seq + 4)) (pR (((x.waits.at 0).seq + 4) - 1)))))
   refine Md (((x.waits.at 0).seq + 4) - 1 < (x.waits.at i).seq) (fun h24 => ?_) fun h24 => ?_
   · refine Me0 9 ?_
     have hf : custF x.abs i = 9 := by
       grind [custF]
     rw [hI, firstF_here (by omega) hf (by first | assumption | omega)]
   refine Mp ?_ Tryz.call50 (fun bs w hS => command_CheckOp (B := anyB) (x.waits.at i).op w ⟨(Sl.ok.at (s := x.waits) (i := i) okx (by omega)).1, (Sl.ok.at (s := x.waits) (i := i) okx (by omega)).2⟩)
   refine Mdn (mOp (x.waits.at i).op = 0) (fun h25 => ?_) fun h25 => ?_
   · refine Mi ?_ (pR ((i : Int) + 1))
     have hf0 : custF x.abs i = 0 := by
       grind [custF]
     exact on2 (i + 1) ⟨by omega, by rw [hI]; exact firstF_step (by omega) hf0, fun _ => by omega⟩ (by omega)
   refine Me0 (mOp (x.waits.at i).op) ?_
   have hf : custF x.abs i = mOp (x.waits.at i).op := by
     grind [custF]
   rw [hI, firstF_here (by omega) hf (by first | assumption | omega)]
 refine Md ((0 : Int) < (x.waits.n : Int)) (fun h9 => ?_) fun h9 => ?_
 · have hm : mCust x.abs = 9 := by
     grind [mCust]
   exact Me0 9 hm
 refine Ml (σ := Nat) (fun i => i ≤ x.waits.n ∧ mCust x.abs = firstF (custF x.abs) (x.waits.n - i) i ∧ (0 < i → 1 ≤ (x.waits.at 0).seq ∧ (x.waits.at 0).seq < x.next)) (fun i => x.waits.n - i) (fun _ => []) [52, 51, 50, 1] (fun i => [(52, vI (i : Int))]) (fun _ => []) ?_ 0 ⟨Nat.zero_le _, by unfold mCust; simp only [ha1, ha2, ha3, ha4]; rw [if_neg (by omega), if_neg (by omega)], fun h => absurd h (by omega)⟩
 rintro i ⟨hi, hI, h0⟩ _ on1
 have hz : i = 0 ∨ (0 < i ∧ 1 ≤ (x.waits.at 0).seq ∧ (x.waits.at 0).seq < x.next) := by rcases Nat.eq_zero_or_pos i with h | h; exact .inl h; exact .inr ⟨h, h0 h⟩
 have hz2 : i = 0 → (x.waits.at i).seq = (x.waits.at 0).seq := fun h => by rw [h]
 refine Md ((i : Int) < (x.waits.n : Int)) (fun h10 => ?_) fun h10 => ?_
 rotate_left
 · exact Me0 0 (by rw [hI, firstF_end (by omega)])
 refine Mi ?_ (pA 55 56 (i : Int) i (s := x.waits) (fun w hk hr => (Rds.kp hx hk)))
 refine Mda 38 [] [] [] Tryz_mixed ?_
 refine Md ((x.waits.at i).seq < 1) (fun h11 => ?_) fun h11 => ?_
 · refine Me0 9 ?_
   have hf : custF x.abs i = 9 := by
     grind [custF]
   rw [hI, firstF_here (by omega) hf (by first | assumption | omega)]
 refine Md (x.next ≤ (x.waits.at i).seq) (fun h12 => ?_) fun h12 => ?_
 · refine Me0 9 ?_
   have hf : custF x.abs i = 9 := by
     grind [custF]
   rw [hI, firstF_here (by omega) hf (by first | assumption | omega)]
 refine Md ((0 : Int) < (i : Int)) (fun h13 => ?_) fun h13 => ?_
 rotate_left
 · refine Mih ?_ (pc (pI 88 0 0 (s := x.waits) (fun w hk hr => (Rds.kp hx hk))) (pc (pF 90 0 0 1 (s := x.waits) (fun w hk hr => (Rds.kp hx hk))) (pc (pR ((x.waits.at 0).seq + 4)) (pR (((x.waits.at 0).seq + 4) - 1)))))
   refine Md (((x.waits.at 0).seq + 4) - 1 < (x.waits.at i).seq) (fun h17 => ?_) fun h17 => ?_
   · refine Me0 9 ?_
     have hf : custF x.abs i = 9 := by
       grind [custF]
     rw [hI, firstF_here (by omega) hf (by first | assumption | omega)]
   refine Mp ?_ Tryz.call50 (fun bs w hS => command_CheckOp (B := anyB) (x.waits.at i).op w ⟨(Sl.ok.at (s := x.waits) (i := i) okx (by omega)).1, (Sl.ok.at (s := x.waits) (i := i) okx (by omega)).2⟩)
   refine Mdn (mOp (x.waits.at i).op = 0) (fun h18 => ?_) fun h18 => ?_
   · refine Mi ?_ (pR ((i : Int) + 1))
     have hf0 : custF x.abs i = 0 := by
       grind [custF]
     exact on1 (i + 1) ⟨by omega, by rw [hI]; exact firstF_step (by omega) hf0, fun _ => by omega⟩ (by omega)
   refine Me0 (mOp (x.waits.at i).op) ?_
   have hf : custF x.abs i = mOp (x.waits.at i).op := by
     grind [custF]
   rw [hI, firstF_here (by omega) hf (by first | assumption | omega)]
 refine Mih ?_ (pc (pR ((i : Int) - 1)) (pc (pI 75 ((i : Int) - 1) (i - 1) (s := x.waits) (fun w hk hr => (Rds.kp hx hk))) (pF 77 (i - 1) 0 1 (s := x.waits) (fun w hk hr => (Rds.kp hx hk)))))
 refine Md ((x.waits.at i).seq ≤ (x.waits.at (i - 1)).seq) (fun h14 => ?_) fun h14 => ?_
 · refine Me0 9 ?_
   have hf : custF x.abs i = 9 := by
     grind [custF]
   rw [hI, firstF_here (by omega) hf (by first | assumption | omega)]
 refine Mih ?_ (pc (pI 88 0 0 (s := x.waits) (fun w hk hr => (Rds.kp hx hk))) (pc (pF 90 0 0 1 (s := x.waits) (fun w hk hr => (Rds.kp hx hk))) (pc (pR ((x.waits.at 0).seq + 4)) (pR (((x.waits.at 0).seq + 4) - 1)))))
 refine Md (((x.waits.at 0).seq + 4) - 1 < (x.waits.at i).seq) (fun h15 => ?_) fun h15 => ?_
 · refine Me0 9 ?_
   have hf : custF x.abs i = 9 := by
     grind [custF]
   rw [hI, firstF_here (by omega) hf (by first | assumption | omega)]
 refine Mp ?_ Tryz.call50 (fun bs w hS => command_CheckOp (B := anyB) (x.waits.at i).op w ⟨(Sl.ok.at (s := x.waits) (i := i) okx (by omega)).1, (Sl.ok.at (s := x.waits) (i := i) okx (by omega)).2⟩)
 refine Mdn (mOp (x.waits.at i).op = 0) (fun h16 => ?_) fun h16 => ?_
 · refine Mi ?_ (pR ((i : Int) + 1))
   have hf0 : custF x.abs i = 0 := by
     grind [custF]
   exact on1 (i + 1) ⟨by omega, by rw [hI]; exact firstF_step (by omega) hf0, fun _ => by omega⟩ (by omega)
 refine Me0 (mOp (x.waits.at i).op) ?_
 have hf : custF x.abs i = mOp (x.waits.at i).op := by
   grind [custF]
 rw [hI, firstF_here (by omega) hf (by first | assumption | omega)]
theorem command_Encode {B : Nat → Prop} (x : DCommand) (w : World) (hx : Rds.sub B w x) : Calls Tryz.prog 132 #[x.val] w fun e w' => e = .returned (.tuple #[vs (mEnc x).1, vi (mEnc x).2]) ∧ Kp [] w w' := by
 have okx := Rds.okof hx
 have hta := mText_size x.op.a
 have htb := mText_size x.op.b
 refine M0 ?_ Tryz.func132
 refine Mp ?_ Tryz.call21 (fun bs w hS => command_Check (B := anyB) x w (Rds.kp hx hS.kp))
 refine Mdn (mCmd x = 0) (fun h1 => ?_) (fun h1 => ?_)
 rotate_left
 · refine Mt [.string emp, .int .i64 (mCmd x)] fun bs w hS => ?_
   refine ⟨?_, hS.kp⟩
   simp only [retOf, den, List.map_cons, List.map_nil]
   have hm : mEnc x = (emp, mCmd x) := by grind [mEnc]
   rw [hm]
 refine M1 ?_
 refine Mstl (eS := 5) [x.kind % 256, x.client % 256] ?_
 refine Mdn (x.kind = 2) (fun h2 => ?_) fun h2 => ?_
 rotate_left
 · refine Mt [vs (bstr ([x.kind % 256, x.client % 256])), vi 0] fun bs w hS => ?_
   refine ⟨?_, hS.kp⟩
   simp only [retOf, den, List.map_cons, List.map_nil]
   have hm : mEnc x = (bstr ([x.kind % 256, x.client % 256]), 0) := by grind [mEnc]
   rw [hm]
 have hsub1 : ∀ z, z ∈ ([x.session, x.seq, x.acked, x.op.kind, x.op.n] : List Int) → ∀ w, Rds.sub anyB w z := (fun _ _ _ => trivial)
 refine Mli (α := Int) (e := 3) [x.session, x.seq, x.acked, x.op.kind, x.op.n] ?_ hsub1
 intro y1 hx1 hok1
 refine Ml (σ := Nat) (fun i => i ≤ y1.n) (fun i => y1.n - i) (fun i => [rowA 3 y1.A y1.c (y1.xs : List Int)]) [45, 44, 43, 5, 1] (fun i => [(45, vI (i : Int)), (5, vS (encN (bstr ([x.kind % 256, x.client % 256])) (y1.xs.take i)))]) (fun _ => []) ?_ 0 (Nat.zero_le _) (hp := (by simp only [List.take_zero]; kernel_rfl))
 rintro i hi _ on1
 have hn1 : y1.n = 5 := by rw [Sl.n, hx1]; rfl
 have hz := encN_size (bstr ([x.kind % 256, x.client % 256])) (y1.xs.take i)
 have hz2 := mNumber_size (y1.at i)
 have hz3 : (y1.xs.take i).length ≤ 5 := by rw [List.length_take]; unfold Sl.n at hn1; omega
 have hz4 : (bstr ([x.kind % 256, x.client % 256])).size = 2 := rfl
 refine Md ((i : Int) < (y1.n : Int)) (fun h3 => ?_) fun h3 => ?_
 · refine Mi ?_ (pA 47 48 (i : Int) i (s := y1) (fun w hk hr => (Rr (B := anyB) (hr _ i0) (fun _ _ => trivial) (fun z hz => hsub1 z (hx1 ▸ hz) _))))
   refine Mp ?_ Tryz.call80 (fun bs w hS => codec_Number (y1.at i) w)
   refine Mi ?_ (pc (pP ((encN (bstr ([x.kind % 256, x.client % 256])) (y1.xs.take i)).size + (mNumber (y1.at i)).1.size ≤ 9223372036854775807) (by (try simp only [app_size]); omega)) (pR ((i : Int) + 1)))
   exact on1 (i + 1) (by omega) (by omega) (hp := (by simp only [← take_snoc (s := y1) (i := i) (show i < y1.n by omega), encN_snoc]; kernel_rfl))
 have hsub2 : ∀ z, z ∈ ([x.op.a, x.op.b] : List ByteArray) → ∀ w, Rds.sub anyB w z := (fun z hz w => by simp only [List.mem_cons, List.not_mem_nil, or_false] at hz; rcases hz with rfl | rfl; exact okx.1; exact okx.2)
 refine Mli (α := ByteArray) (e := 9) [x.op.a, x.op.b] ?_ hsub2
 intro y2 hx2 hok2
 refine Ml (σ := Nat) (fun j => j ≤ y2.n) (fun j => y2.n - j) (fun j => [rowA 9 y2.A y2.c (y2.xs : List ByteArray), rowA 3 y1.A y1.c (y1.xs : List Int)]) [66, 65, 64, 5] (fun j => [(66, vI (j : Int)), (5, vS (encT (encN (bstr ([x.kind % 256, x.client % 256])) y1.xs) (y2.xs.take j)))]) (fun _ => []) ?_ 0 (Nat.zero_le _) (hp := (by rw [take_all (by omega)]; simp only [List.take_zero]; kernel_rfl))
 rintro j hj _ on2
 have hn2 : y2.n = 2 := by rw [Sl.n, hx2]; rfl
 have hw := encT_size (encN (bstr ([x.kind % 256, x.client % 256])) y1.xs) (y2.xs.take j)
 have hw1 := encN_size (bstr ([x.kind % 256, x.client % 256])) y1.xs
 have hw2 := mText_size (y2.at j)
 have hw3 : (y2.xs.take j).length ≤ 2 := by rw [List.length_take]; unfold Sl.n at hn2; omega
 have hw5 : y1.xs.length = 5 := hn1
 refine Md ((j : Int) < (y2.n : Int)) (fun h4 => ?_) fun h4 => ?_
 rotate_left
 · refine Mt [vs (encT (encN (bstr ([x.kind % 256, x.client % 256])) y1.xs) (y2.xs.take j)), vi 0] fun bs w hS => ?_
   refine ⟨?_, hS.kp⟩
   simp only [retOf, den, List.map_cons, List.map_nil]
   have hq : encT (encN (bstr ([x.kind % 256, x.client % 256])) y1.xs) (y2.xs.take j) = encT (encN (bstr ([x.kind % 256, x.client % 256])) [x.session, x.seq, x.acked, x.op.kind, x.op.n]) [x.op.a, x.op.b] := by rw [take_all (by omega), hx1, hx2]
   have hm : mEnc x = (encT (encN (bstr ([x.kind % 256, x.client % 256])) [x.session, x.seq, x.acked, x.op.kind, x.op.n]) [x.op.a, x.op.b], 0) := by grind [mEnc]
   rw [hm, hq]
 refine Mi ?_ (pA 68 69 (j : Int) j (s := y2) (fun w hk hr => (Rr (B := anyB) (hr _ i0) (fun _ _ => trivial) (fun z hz => hsub2 z (hx2 ▸ hz) _))))
 refine Mp ?_ Tryz.call81 (fun bs w hS => codec_Text _ w (Sl.ok.at (s := y2) (i := j) hok2 (by omega)))
 refine Mi ?_ (pc (pP ((encT (encN (bstr ([x.kind % 256, x.client % 256])) y1.xs) (y2.xs.take j)).size + (mText (y2.at j)).1.size ≤ 9223372036854775807) (by (try simp only [app_size]); omega)) (pR ((j : Int) + 1)))
 exact on2 (j + 1) (by omega) (by omega) (hp := (by simp only [← take_snoc (s := y2) (i := j) (show j < y2.n by omega), encT_snoc]; kernel_rfl))
theorem customer_acked {B : Nat → Prop} (x : CCustomer) (w : World) (hx : Rds.sub B w x) (hb : 1 ≤ x.next ∧ x.next ≤ 1048577) (hb2 : 0 < x.waits.n → 1 ≤ (x.waits.at 0).seq ∧ (x.waits.at 0).seq ≤ 1048576) : Calls Tryz.prog 133 #[x.val] w fun e w' => e = .returned (vi (mAck x.abs)) ∧ Kp [] w w' := by
 have hat : ∀ q, x.abs.waits.getD q default = x.waits.at q := fun _ => rfl
 have ha1 : x.abs.id = x.id := rfl
 have ha2 : x.abs.session = x.session := rfl
 have ha3 : x.abs.next = x.next := rfl
 have ha4 : x.abs.waits.length = x.waits.n := rfl
 have okx := Rds.okof hx
 have ncx := Sl.ok.nc okx
 have hnx : x.waits.n = x.waits.xs.length := rfl
 refine M0 ?_ Tryz.func133
 refine Md ((0 : Int) < (x.waits.n : Int)) (fun h1 => ?_) fun h1 => ?_
 rotate_left
 · refine Mi ?_ (pR (x.next - 1))
   have hm : mAck x.abs = x.next - 1 := by
     grind [mAck]
   exact Me0 (x.next - 1) hm
 have hz := hb2 (by omega)
 refine Mi ?_ (pc (pI 9 0 0 (s := x.waits) (fun w hk hr => (Rds.kp hx hk))) (pc (pF 11 0 0 1 (s := x.waits) (fun w hk hr => (Rds.kp hx hk))) (pR ((x.waits.at 0).seq - 1))))
 have hm : mAck x.abs = (x.waits.at 0).seq - 1 := by
   grind [mAck]
 exact Me0 ((x.waits.at 0).seq - 1) hm
theorem customer_Hello {B : Nat → Prop} (x : CCustomer) (w : World) (hx : Rds.sub B w x) : Calls Tryz.prog 102 #[x.val] w fun e w' => e = .returned (.tuple #[vs (mHello x.abs).1, vi (mHello x.abs).2]) ∧ Kp [] w w' := by
 have hat : ∀ q, x.abs.waits.getD q default = x.waits.at q := fun _ => rfl
 have ha1 : x.abs.id = x.id := rfl
 have ha2 : x.abs.session = x.session := rfl
 have ha3 : x.abs.next = x.next := rfl
 have ha4 : x.abs.waits.length = x.waits.n := rfl
 have okx := Rds.okof hx
 have ncx := Sl.ok.nc okx
 have hnx : x.waits.n = x.waits.xs.length := rfl
 refine M0 ?_ Tryz.func102
 refine Mp ?_ Tryz.call131 (fun bs w hS => customer_Check x w (Rds.kp hx hS.kp))
 refine Mdn (mCust x.abs = 0) (fun h1 => ?_) fun h1 => ?_
 rotate_left
 · refine Mt [ve, vi (mCust x.abs)] fun bs w hS => ?_
   refine ⟨?_, hS.kp⟩
   have hm : mHello x.abs = (emp, mCust x.abs) := by
     unfold mHello; rw [if_neg h1]
   rw [hm]
   rfl
 have hack := mAck_bd h1
 obtain ⟨hb1, hb2, hb3, hb4, hb5, hb6, hb7, hb8, hb9⟩ := mCust_bd h1
 rw [ha1] at hb1 hb2
 rw [ha2] at hb3 hb4
 rw [ha3] at hb5 hb6
 rw [ha4] at hb7 hb9
 have hseq : ∀ j, j < x.waits.n → 1 ≤ (x.waits.at j).seq ∧ (x.waits.at j).seq ≤ 1048576 := fun j hj => by have hz := custF_bd (hb9 j hj); rw [hat, ha3] at hz; omega
 refine Mp ?_ Tryz.call132 (fun bs w hS => command_Encode (B := anyB) (⟨1, x.id, 0, 0, 0, ⟨0, emp, emp, 0⟩⟩ : DCommand) w ⟨(show emp.size ≤ 9223372036854775807 from (by first | assumption | omega | (simp only [emp_size]; omega))), (show emp.size ≤ 9223372036854775807 from (by first | assumption | omega | (simp only [emp_size]; omega)))⟩)
 refine Mt [vs (mEnc (⟨1, x.id, 0, 0, 0, ⟨0, emp, emp, 0⟩⟩ : DCommand)).1, vi (mEnc (⟨1, x.id, 0, 0, 0, ⟨0, emp, emp, 0⟩⟩ : DCommand)).2] fun bs w hS => ?_
 refine ⟨?_, hS.kp⟩
 have hm : mHello x.abs = ((mEnc (⟨1, x.id, 0, 0, 0, ⟨0, emp, emp, 0⟩⟩ : DCommand)).1, (mEnc (⟨1, x.id, 0, 0, 0, ⟨0, emp, emp, 0⟩⟩ : DCommand)).2) := by
   unfold mHello; rw [if_pos (by assumption)]; rfl
 rw [hm]
 rfl
theorem customer_Request {B : Nat → Prop} (x : CCustomer) (n : Int) (w : World) (hx : Rds.sub B w x) : Calls Tryz.prog 103 #[x.val, vi n] w fun e w' => e = .returned (.tuple #[vs (mReq x.abs n).1, vi (mReq x.abs n).2]) ∧ Kp [] w w' := by
 have hat : ∀ q, x.abs.waits.getD q default = x.waits.at q := fun _ => rfl
 have ha1 : x.abs.id = x.id := rfl
 have ha2 : x.abs.session = x.session := rfl
 have ha3 : x.abs.next = x.next := rfl
 have ha4 : x.abs.waits.length = x.waits.n := rfl
 have okx := Rds.okof hx
 have ncx := Sl.ok.nc okx
 have hnx : x.waits.n = x.waits.xs.length := rfl
 refine M0 ?_ Tryz.func103
 refine Mp ?_ Tryz.call131 (fun bs w hS => customer_Check x w (Rds.kp hx hS.kp))
 refine Mdn (mCust x.abs = 0) (fun h1 => ?_) fun h1 => ?_
 rotate_left
 · refine Mt [ve, vi (mCust x.abs)] fun bs w hS => ?_
   refine ⟨?_, hS.kp⟩
   have hm : mReq x.abs n = (emp, mCust x.abs) := by
     unfold mReq; rw [if_neg h1]
   rw [hm]
   rfl
 have hack := mAck_bd h1
 obtain ⟨hb1, hb2, hb3, hb4, hb5, hb6, hb7, hb8, hb9⟩ := mCust_bd h1
 rw [ha1] at hb1 hb2
 rw [ha2] at hb3 hb4
 rw [ha3] at hb5 hb6
 rw [ha4] at hb7 hb9
 have hseq : ∀ j, j < x.waits.n → 1 ≤ (x.waits.at j).seq ∧ (x.waits.at j).seq ≤ 1048576 := fun j hj => by have hz := custF_bd (hb9 j hj); rw [hat, ha3] at hz; omega
 refine Md (n < 0) (fun h2 => ?_) fun h2 => ?_
 · refine Mt [ve, vi 6] fun bs w hS => ?_
   refine ⟨?_, hS.kp⟩
   have hm : mReq x.abs n = (emp, 6) := by
     grind [mReq]
   rw [hm]
   rfl
 refine Md ((x.waits.n : Int) ≤ n) (fun h3 => ?_) fun h3 => ?_
 · refine Mt [ve, vi 6] fun bs w hS => ?_
   refine ⟨?_, hS.kp⟩
   have hm : mReq x.abs n = (emp, 6) := by
     grind [mReq]
   rw [hm]
   rfl
 refine Mi ?_ (pA 25 26 n (n).toNat (s := x.waits) (fun w hk hr => (Rds.kp hx hk)))
 refine Mda 16 [] [] [] Tryz_mixed ?_
 refine Mp ?_ Tryz.call133 (fun bs w hS => customer_acked x w (Rds.kp hx hS.kp) ⟨by omega, by omega⟩ (fun hz => hseq 0 hz))
 refine Mp ?_ Tryz.call132 (fun bs w hS => command_Encode (B := anyB) (⟨2, x.id, x.session, (x.waits.at (n).toNat).seq, mAck x.abs, ⟨(x.waits.at (n).toNat).op.kind, (x.waits.at (n).toNat).op.a, (x.waits.at (n).toNat).op.b, (x.waits.at (n).toNat).op.n⟩⟩ : DCommand) w ⟨(show (x.waits.at (n).toNat).op.a.size ≤ 9223372036854775807 from (Sl.ok.at (s := x.waits) (i := (n).toNat) okx (by omega)).1), (show (x.waits.at (n).toNat).op.b.size ≤ 9223372036854775807 from (Sl.ok.at (s := x.waits) (i := (n).toNat) okx (by omega)).2)⟩)
 refine Mt [vs (mEnc (⟨2, x.id, x.session, (x.waits.at (n).toNat).seq, mAck x.abs, ⟨(x.waits.at (n).toNat).op.kind, (x.waits.at (n).toNat).op.a, (x.waits.at (n).toNat).op.b, (x.waits.at (n).toNat).op.n⟩⟩ : DCommand)).1, vi (mEnc (⟨2, x.id, x.session, (x.waits.at (n).toNat).seq, mAck x.abs, ⟨(x.waits.at (n).toNat).op.kind, (x.waits.at (n).toNat).op.a, (x.waits.at (n).toNat).op.b, (x.waits.at (n).toNat).op.n⟩⟩ : DCommand)).2] fun bs w hS => ?_
 refine ⟨?_, hS.kp⟩
 have hm : mReq x.abs n = ((mEnc (⟨2, x.id, x.session, (x.waits.at (n).toNat).seq, mAck x.abs, ⟨(x.waits.at (n).toNat).op.kind, (x.waits.at (n).toNat).op.a, (x.waits.at (n).toNat).op.b, (x.waits.at (n).toNat).op.n⟩⟩ : DCommand)).1, (mEnc (⟨2, x.id, x.session, (x.waits.at (n).toNat).seq, mAck x.abs, ⟨(x.waits.at (n).toNat).op.kind, (x.waits.at (n).toNat).op.a, (x.waits.at (n).toNat).op.b, (x.waits.at (n).toNat).op.n⟩⟩ : DCommand)).2) := by
   unfold mReq; rw [if_pos (by assumption), ha4, if_pos (by omega), hat, ha1, ha2]
 rw [hm]
 rfl
theorem clone_Wait {B : Nat → Prop} (s : Sl DWait) (w : World) (hs : s.rd B w) (hb : s.n ≤ 1048576) : Calls Tryz.prog 77 #[s.val] w fun e w' => ∃ y : Sl DWait, e = .returned y.val ∧ y.xs = s.xs ∧ Kp [] w w' ∧ Fresh w w' (rowA 171 y.A y.c y.xs) := by
 have oks := Sl.rd.ok hs
 have ncs := Sl.ok.nc oks
 have hns : s.n = s.xs.length := rfl
 refine M0 ?_ Tryz.func77
 refine Mi ?_ (pG [(4, .val (.bool s.A.isNone))] (oc ((eq_nil Tryz.underlying109) : ∀ w, (do eqGuard .eql 109 (.tmp 3) (.const vn) s.val vn; binOp .eql 109 s.val vn : Sem Value).run Tryz.prog w = .ok (.bool s.A.isNone) w) on))
 refine Mb s.A.isNone (fun h1 => ?_) fun h1 => ?_
 · refine Mt [vn] fun bs w hS => ?_
   have hnil : s.xs = [] := Sl.ok.empty oks (by cases h : s.A <;> simp_all)
   exact ⟨Sl.nil, rfl, hnil.symm, hS.kp, rowA_nil 171 w⟩
 refine Mlz ?_ (α := DWait) (e := 171)
 intro A1
 refine Ma ?_ (α := DWait) (L2 := s.xs) 56 (fun bs w hS => Sl.rd.src (s := s) (Sl.rd.kp hs hS.kp))
 intro A2 c2
 exact Mt [.slice A2 ([] ++ s.xs).length c2] fun bs w hS => ⟨⟨A2, c2, [] ++ s.xs⟩, rfl, by simp, hS.kp, hS.out1⟩
theorem customer_CopyR {B : Nat → Prop} (x : CCustomer) (w : World) (hx : Rds.sub B w x) (hb : x.waits.n ≤ 1048576) : Calls Tryz.prog 41 #[x.val] w fun e w' => ∃ y : Sl DWait, e = .returned (.agg #[vi x.id, vi x.session, vi x.next, y.val]) ∧ y.xs = x.waits.xs ∧ Kp [] w w' ∧ Fresh w w' (rowA 171 y.A y.c y.xs) := by
 have hat : ∀ q, x.abs.waits.getD q default = x.waits.at q := fun _ => rfl
 have ha1 : x.abs.id = x.id := rfl
 have ha2 : x.abs.session = x.session := rfl
 have ha3 : x.abs.next = x.next := rfl
 have ha4 : x.abs.waits.length = x.waits.n := rfl
 have okx := Rds.okof hx
 have ncx := Sl.ok.nc okx
 have hnx : x.waits.n = x.waits.xs.length := rfl
 refine M0 ?_ Tryz.func41
 refine Mf ?_ Tryz.call77 (fun bs w hS => clone_Wait x.waits w (Rds.kp hx hS.kp) hb)
 rintro y1 hF1
 exact Mt [.agg #[vi x.id, vi x.session, vi x.next, y1.val]] fun bs w hS => ⟨y1, rfl, hF1, hS.kp, hS.out1⟩
theorem customer_Copy {B : Nat → Prop} (x : CCustomer) (w : World) (hx : Rds.sub B w x) (hb : x.waits.n ≤ 1048576) : Calls Tryz.prog 41 #[x.val] w fun e w' => ∃ y : CCustomer, e = .returned (y.val) ∧ y.abs = x.abs ∧ FreshS w w' y :=
  (customer_CopyR x w hx hb).mono fun e w' ⟨y, h1, h2, h3, h4⟩ => ⟨⟨x.id, x.session, x.next, y⟩, h1, by simp [CCustomer.abs, h2], h3, h4.sub fun hp => Rr hp (fun b hb => hb) fun z hz => Sl.rd.mem (s := x.waits) hx z (h2 ▸ hz)⟩
theorem customer_Start {B : Nat → Prop} (x : CCustomer) (o : DOp) (w : World) (hx : Rds.sub B w x) (ho : Rds.sub B w o) : Calls Tryz.prog 104 #[x.val, o.val] w fun e w' => ∃ y : CCustomer, e = .returned (.tuple #[y.val, vi (mStart x.abs o).2]) ∧ y.abs = (mStart x.abs o).1 ∧ FreshS w w' y := by
 have hat : ∀ q, x.abs.waits.getD q default = x.waits.at q := fun _ => rfl
 have ha1 : x.abs.id = x.id := rfl
 have ha2 : x.abs.session = x.session := rfl
 have ha3 : x.abs.next = x.next := rfl
 have ha4 : x.abs.waits.length = x.waits.n := rfl
 have okx := Rds.okof hx
 have ncx := Sl.ok.nc okx
 have hnx : x.waits.n = x.waits.xs.length := rfl
 have hoo := Rds.okof ho
 refine M0 ?_ Tryz.func104
 refine Mp ?_ Tryz.call131 (fun bs w hS => customer_Check x w (Rds.kp hx hS.kp))
 refine Mdn (mCust x.abs = 0) (fun h1 => ?_) fun h1 => ?_
 rotate_left
 · have hm : mStart x.abs o = (zCust, mCust x.abs) := by
     unfold mStart; rw [ha2, ha3]; simp only [h1, ne_eq, not_true_eq_false, not_false_eq_true, if_true, if_false, reduceIte]
     try rw [if_pos (by omega)]
   exact Me2 hm ⟨0, 0, 0, Sl.nil⟩ rfl fun bs w hS => hS.outS (y := (⟨0, 0, 0, Sl.nil⟩ : CCustomer)) (Sl.rd_nil _ _)
 have hack := mAck_bd h1
 obtain ⟨hb1, hb2, hb3, hb4, hb5, hb6, hb7, hb8, hb9⟩ := mCust_bd h1
 rw [ha1] at hb1 hb2
 rw [ha2] at hb3 hb4
 rw [ha3] at hb5 hb6
 rw [ha4] at hb7 hb9
 have hseq : ∀ j, j < x.waits.n → 1 ≤ (x.waits.at j).seq ∧ (x.waits.at j).seq ≤ 1048576 := fun j hj => by have hz := custF_bd (hb9 j hj); rw [hat, ha3] at hz; omega
 refine Md (x.session = 0) (fun h2 => ?_) fun h2 => ?_
 · have hm : mStart x.abs o = (zCust, 11) := by
     unfold mStart; rw [ha2, ha3]; simp only [h1, h2, ne_eq, not_true_eq_false, not_false_eq_true, if_true, if_false, reduceIte]
     try rw [if_pos (by omega)]
   exact Me2 hm ⟨0, 0, 0, Sl.nil⟩ rfl fun bs w hS => hS.outS (y := (⟨0, 0, 0, Sl.nil⟩ : CCustomer)) (Sl.rd_nil _ _)
 refine Mp ?_ Tryz.call50 (fun bs w hS => command_CheckOp (B := anyB) o w ho)
 refine Mdn (mOp o = 0) (fun h3 => ?_) fun h3 => ?_
 rotate_left
 · have hm : mStart x.abs o = (zCust, mOp o) := by
     unfold mStart; rw [ha2, ha3]; simp only [h1, h2, h3, ne_eq, not_true_eq_false, not_false_eq_true, if_true, if_false, reduceIte]
     try rw [if_pos (by omega)]
   exact Me2 hm ⟨0, 0, 0, Sl.nil⟩ rfl fun bs w hS => hS.outS (y := (⟨0, 0, 0, Sl.nil⟩ : CCustomer)) (Sl.rd_nil _ _)
 refine Mda 11 [] [] [] Tryz_mixed ?_
 refine Md ((1048576 : Int) < x.next) (fun h4 => ?_) fun h4 => ?_
 · have hm : mStart x.abs o = (zCust, 8) := by
     unfold mStart; rw [ha2, ha3]; simp only [h1, h2, h3, ne_eq, not_true_eq_false, not_false_eq_true, if_true, if_false, reduceIte]
     try rw [if_pos (by omega)]
   exact Me2 hm ⟨0, 0, 0, Sl.nil⟩ rfl fun bs w hS => hS.outS (y := (⟨0, 0, 0, Sl.nil⟩ : CCustomer)) (Sl.rd_nil _ _)
 refine Mp ?_ Tryz.call133 (fun bs w hS => customer_acked x w (Rds.kp hx hS.kp) ⟨by omega, by omega⟩ (fun hz => hseq 0 hz))
 refine Mih ?_ (pR ((mAck x.abs) + 4))
 refine Md ((mAck x.abs) + 4 < x.next) (fun h5 => ?_) fun h5 => ?_
 · have hm : mStart x.abs o = (zCust, 8) := by
     unfold mStart; rw [ha2, ha3]; simp only [h1, h2, h3, ne_eq, not_true_eq_false, not_false_eq_true, if_true, if_false, reduceIte]
     try rw [if_pos (by omega)]
   exact Me2 hm ⟨0, 0, 0, Sl.nil⟩ rfl fun bs w hS => hS.outS (y := (⟨0, 0, 0, Sl.nil⟩ : CCustomer)) (Sl.rd_nil _ _)
 refine Mf ?_ Tryz.call41 (fun bs w hS => customer_CopyR x w (Rds.kp hx hS.kp) (by omega))
 rintro y1 hF1
 refine m_know (F := RowOk y1.A y1.c (y1.xs : List DWait)) (fun bs w hS => rowA_rok (hS.res _ i0)) fun hrow1 => ?_
 have nchrow1 := hrow1.2
 have hsz1 : ∀ z, z ∈ y1.xs → z.op.a.size ≤ 9223372036854775807 ∧ z.op.b.size ≤ 9223372036854775807 := fun z hz => Sl.rd.mem (s := x.waits) hx z (hF1 ▸ hz)
 have hnn1 := xs_n hF1
 have hnx1 : y1.n = y1.xs.length := rfl
 have hok1 : Sl.ok y1 := ⟨nchrow1.1, by unfold maxLen; exact nchrow1.2, fun i hi => ⟨hrow1.1 i hi, hsz1 _ (List.mem_of_getElem? (Sl.at_some hi))⟩⟩
 refine M1 ?_
 refine Mal (α := DWait) 56 ([(⟨x.next, ⟨o.kind, o.a, o.b, o.n⟩⟩ : DWait)]) ?_
 intro A3 c3
 refine Mi ?_ (pR (x.next + 1))
 refine Mt [.agg #[vi x.id, vi x.session, vi (x.next + 1), .slice A3 (y1.xs ++ [(⟨x.next, ⟨o.kind, o.a, o.b, o.n⟩⟩ : DWait)]).length c3], vi 0] fun bs w hS => ?_
 have hm : mStart x.abs o = (⟨x.id, x.session, x.next + 1, x.waits.xs ++ [⟨x.next, o⟩]⟩, 0) := by
   unfold mStart; rw [ha2, ha3]; simp only [h1, h2, h3, ne_eq, not_true_eq_false, not_false_eq_true, if_true, if_false, reduceIte]; rw [if_neg (by omega)]; rfl
 refine ⟨⟨x.id, x.session, x.next + 1, ⟨A3, c3, y1.xs ++ [(⟨x.next, ⟨o.kind, o.a, o.b, o.n⟩⟩ : DWait)]⟩⟩, ?_, ?_, hS.outS (y := (⟨x.id, x.session, x.next + 1, ⟨A3, c3, y1.xs ++ [(⟨x.next, ⟨o.kind, o.a, o.b, o.n⟩⟩ : DWait)]⟩⟩ : CCustomer)) (allR_row i0 (hS.res _ i0) (fun z hz => ?_))⟩
 · rw [hm]; rfl
 · rw [hm]; simp [CCustomer.abs, hF1]
 · rcases List.mem_append.1 hz with hz | hz
   · exact hsz1 z hz
   · rw [List.mem_singleton] at hz; subst hz; exact hoo
theorem idxF_Wait {B : Nat → Prop} (s : Sl (Fl DWait)) (p : Fl DWait → Bool) (kf : Nat) (caps : Array Value) (w : World) (hs : s.rd B w) (hcall : ∀ args w, (callFunc kf args).run Tryz.prog w = .ok (.enter kf args) w)
    (hf : ∀ (w' : World) (x : (Fl DWait)), x ∈ s.xs → Kp [] w w' → Calls Tryz.prog kf (#[x.v.val] ++ caps) w' fun e w'' => e = .returned (vb (p x)) ∧ Kp [] w' w'') : Calls Tryz.prog 140 #[.slice s.A s.n s.c, .func (.func kf) #[] caps] w fun e w' => e = .returned (vi (mIdx p s.xs)) ∧ Kp [] w w' := by
 have oks := Sl.rd.ok hs
 have ncs := Sl.ok.nc oks
 have hns : s.n = s.xs.length := rfl
 refine M0 ?_ Tryz.func140
 refine Ml (σ := Nat) (fun i => i ≤ s.n ∧ ∀ j, j < i → p (s.at j) = false) (fun i => s.n - i) (fun _ => []) [8, 7, 0, 1] (fun i => [(8, vI (i : Int))]) (fun _ => []) ?_ 0 ⟨Nat.zero_le _, fun j hj => absurd hj (Nat.not_lt_zero _)⟩
 rintro i ⟨hi, hI⟩ _ on1
 refine Md ((i : Int) < (s.n : Int)) (fun h1 => ?_) (fun h1 => ?_)
 rotate_left
 · refine Mt [.int .i64 (-1)] fun bs w hS => ?_
   refine ⟨?_, hS.kp⟩
   rw [mIdx_none fun j hj => hI j (by omega)]
   rfl
 refine Mi ?_ (pA 14 15 (i : Int) i (rdk hs))
 refine Mv ?_ hcall (fun bs w hS => hf w (s.at i) (List.mem_of_getElem? (Sl.at_some (show i < s.n by omega))) hS.kp)
 refine Mb (p (s.at i)) (fun h2 => ?_) (fun h2 => ?_)
 · refine Mt [.int .i64 (i : Int)] fun bs w hS => ?_
   refine ⟨?_, hS.kp⟩
   rw [mIdx_here (i := i) (by omega) (by assumption) hI]
   rfl
 refine Mi ?_ (pR ((i : Int) + 1))
 exact on1 (i + 1) ⟨by omega, fun j hj => by rcases Nat.lt_succ_iff_lt_or_eq.1 hj with h | h; exact hI j h; subst h; assumption⟩ (by omega)
theorem idx_Wait {B : Nat → Prop} (s : Sl DWait) (p : DWait → Bool) (kf : Nat) (caps : Array Value) (w : World) (hs : s.rd B w) (hcall : ∀ args w, (callFunc kf args).run Tryz.prog w = .ok (.enter kf args) w)
    (hf : ∀ (w' : World) (x : DWait), x ∈ s.xs → Kp [] w w' → Calls Tryz.prog kf (#[x.val] ++ caps) w' fun e w'' => e = .returned (vb (p x)) ∧ Kp [] w' w'') : Calls Tryz.prog 140 #[s.val, .func (.func kf) #[] caps] w fun e w' => e = .returned (vi (mIdx p s.xs)) ∧ Kp [] w w' := by
  have h := idxF_Wait (⟨s.A, s.c, fls s.xs⟩ : Sl (Fl DWait)) (fun x => p x.v) kf caps w hs.fl hcall (fun w' x hx hk => hf w' x.v (by obtain ⟨y, hy, rfl⟩ := List.mem_map.1 hx; exact hy) hk)
  simp only [mIdx_fl, Sl.n, List.length_map] at h
  exact h
theorem delR_Wait (A : Option Addr) (c : Nat) (L : List DWait) (i j : Nat) (ii jj : Int) (w : World) (hrow : (rowA 171 A c L).p w) (hlt : ∀ b, b ∈ (rowA 171 A c L).fp → b < w.heap.size) (ei : ii = (i : Int)) (ej : jj = (j : Int)) (hij : i ≤ j) (hj : j ≤ L.length) :
    Calls Tryz.prog 142 #[.slice A L.length c, vi ii, vi jj] w fun e w' => e = .returned (.slice A (L.take i ++ L.drop j).length c) ∧ Turned (rowA 171 A c L) w w' (rowA 171 A c (L.take i ++ L.drop j)) := by
 subst ei ej
 have hrok := rowA_rok hrow
 have nc := hrok.2
 refine Mj ?_ Tryz.func142 (WS.start1 w _ hrow (by cases A <;> simp [rowA, rowR]) hlt)
 refine Ms3 (e := 171) (A := A) (n := L.length) (il := (i : Int)) (ih := (j : Int)) (im := (L.length : Int)) (c := c) i j L.length ?_ rfl rfl rfl (by omega) (by omega) (by omega)
 refine Md ((i : Int) = (j : Int)) (fun h1 => ?_) fun h1 => ?_
 · refine Mt [.slice A L.length c] fun bs w hS => ?_
   have hij2 : i = j := by omega
   subst hij2
   rw [List.take_append_drop]
   exact ⟨rfl, hS.turned⟩
 refine Mdr 6 ?_ Tryz_mixed
 refine Mih ?_ (pc (pG [(22, .sl 0 i)] (oc (rfl : 0 = 0) (oc (rfl : (i : Int) = (i : Int)) (oc ((by omega) : i ≤ c) on)))) (pG [(25, .sl j L.length)] (oc (rfl : (j : Int) = (j : Int)) (oc (rfl : L.length = L.length) (oc ((by omega) : j ≤ L.length) on)))))
 refine Mz ?_
 refine Mad 56 i j ?_ hij hj
 refine Mi ?_ (pG [(31, .sl (i + (L.length - j)) L.length)] (oc (rfl : ((i + (L.length - j) : Nat) : Int) = (((i + (L.length - j)) : Nat) : Int)) (oc (rfl : (L.length : Int) = (L.length : Int)) (oc ((by omega) : (i + (L.length - j)) ≤ L.length) (oc ((by omega) : L.length ≤ c) on)))))
 refine Mcl (i + (L.length - j)) (L.length - (i + (L.length - j))) ?_ (by simp only [List.length_append, List.length_take, List.length_drop]; omega) (by omega)
 refine Mt [.slice A (i + (L.length - j)) c] fun bs w hS => ?_
 have hlen : (L.take i ++ L.drop j).length = i + (L.length - j) := by simp only [List.length_append, List.length_take, List.length_drop]; omega
 have hS2 := hS
 rw [← hlen, List.take_length] at hS2
 refine ⟨?_, hS2.turned⟩
 rw [hlen]
 rfl
theorem clo_customer_Hear_1 (x : DWait) (m : DMail) (b : Nat) (w : World) (hb : (blkR b 65 [vi m.client, vi m.seq, vi m.reply.code, vi m.reply.n, vs m.reply.text]).p w) : Calls Tryz.prog 141 #[x.val, .pointer (some (⟨b, 0, none⟩ : Addr))] w fun e w' => e = .returned (vb (decide (x.seq = m.seq))) ∧ Kp [] w w' := by
 refine M0 ?_ Tryz.func141
 refine Mi ?_ (pX 7 [vi m.seq] (fun w hk hr => (blkR_fld (blkR_kp hb hk) 1 1 rfl)))
 exact Mt [vb (decide (x.seq = m.seq))] fun bs w hS => ⟨rfl, hS.kp⟩
theorem customer_Hear {B : Nat → Prop} (x : CCustomer) (m : DMail) (w : World) (hx : Rds.sub B w x) (hmx : Rds.sub B w m) : Calls Tryz.prog 115 #[x.val, m.val] w fun e w' => ∃ y : CCustomer, e = .returned (.tuple #[y.val, vi (mHear x.abs m).2]) ∧ y.abs = (mHear x.abs m).1 ∧ FreshS w w' y := by
 have hat : ∀ q, x.abs.waits.getD q default = x.waits.at q := fun _ => rfl
 have ha1 : x.abs.id = x.id := rfl
 have ha2 : x.abs.session = x.session := rfl
 have ha3 : x.abs.next = x.next := rfl
 have ha4 : x.abs.waits.length = x.waits.n := rfl
 have okx := Rds.okof hx
 have ncx := Sl.ok.nc okx
 have hnx : x.waits.n = x.waits.xs.length := rfl
 have hmm := Rds.okof hmx
 refine M0 ?_ Tryz.func115
 refine Mp ?_ Tryz.call131 (fun bs w hS => customer_Check x w (Rds.kp hx hS.kp))
 refine Mdn (mCust x.abs = 0) (fun h1 => ?_) fun h1 => ?_
 rotate_left
 · have hm : mHear x.abs m = (zCust, mCust x.abs) := by
     have ha5 : x.abs.waits = x.waits.xs := rfl
     unfold mHear; rw [ha1, ha2, ha3, ha5]; try simp only [h1, ne_eq, not_true_eq_false, not_false_eq_true, if_true, if_false, reduceIte, true_or, or_true, or_self, false_or, or_false]
     repeat (first | rw [if_pos (by omega)] | rw [if_neg (by omega)])
     all_goals rfl
   exact Me2 hm ⟨0, 0, 0, Sl.nil⟩ rfl fun bs w hS => hS.outS (y := (⟨0, 0, 0, Sl.nil⟩ : CCustomer)) (Sl.rd_nil _ _)
 have hack := mAck_bd h1
 obtain ⟨hb1, hb2, hb3, hb4, hb5, hb6, hb7, hb8, hb9⟩ := mCust_bd h1
 rw [ha1] at hb1 hb2
 rw [ha2] at hb3 hb4
 rw [ha3] at hb5 hb6
 rw [ha4] at hb7 hb9
 have hseq : ∀ j, j < x.waits.n → 1 ≤ (x.waits.at j).seq ∧ (x.waits.at j).seq ≤ 1048576 := fun j hj => by have hz := custF_bd (hb9 j hj); rw [hat, ha3] at hz; omega
 refine Mdn (m.client = x.id) (fun h2 => ?_) fun h2 => ?_
 rotate_left
 · have hm : mHear x.abs m = (zCust, 6) := by
     have ha5 : x.abs.waits = x.waits.xs := rfl
     unfold mHear; rw [ha1, ha2, ha3, ha5]; try simp only [h1, h2, ne_eq, not_true_eq_false, not_false_eq_true, if_true, if_false, reduceIte, true_or, or_true, or_self, false_or, or_false]
     repeat (first | rw [if_pos (by omega)] | rw [if_neg (by omega)])
     all_goals rfl
   exact Me2 hm ⟨0, 0, 0, Sl.nil⟩ rfl fun bs w hS => hS.outS (y := (⟨0, 0, 0, Sl.nil⟩ : CCustomer)) (Sl.rd_nil _ _)
 refine Mf ?_ Tryz.call41 (fun bs w hS => customer_CopyR x w (Rds.kp hx hS.kp) (by omega))
 rintro y1 hF1
 refine m_know (F := RowOk y1.A y1.c (y1.xs : List DWait)) (fun bs w hS => rowA_rok (hS.res _ i0)) fun hrow1 => ?_
 have nchrow1 := hrow1.2
 have hsz1 : ∀ z, z ∈ y1.xs → z.op.a.size ≤ 9223372036854775807 ∧ z.op.b.size ≤ 9223372036854775807 := fun z hz => Sl.rd.mem (s := x.waits) hx z (hF1 ▸ hz)
 have hnn1 := xs_n hF1
 have hnx1 : y1.n = y1.xs.length := rfl
 have hok1 : Sl.ok y1 := ⟨nchrow1.1, by unfold maxLen; exact nchrow1.2, fun i hi => ⟨hrow1.1 i hi, hsz1 _ (List.mem_of_getElem? (Sl.at_some hi))⟩⟩
 refine Md (m.seq = 0) (fun h3 => ?_) fun h3 => ?_
 rotate_left
 · refine Mp ?_ Tryz.call140 (fun bs w hS => idx_Wait y1 (fun z : DWait => decide (z.seq = m.seq)) 141 #[.pointer (some (adr bs 1 0))] w (Rr (A := y1.A) (c := y1.c) (L := y1.xs) (B := anyB) (hS.res _ i0) (fun _ _ => trivial) hsz1) Tryz.call141 (fun w' z hz hk => clo_customer_Hear_1 z m (bs.getD 1 0) w' (show (blkR _ _ _).p w' from (hS.pure hk).loc 1 ⟨65, m.cs⟩ (by kernel_rfl) (by simp))))
   refine Md (mIdx (fun z : DWait => decide (z.seq = m.seq)) y1.xs < 0) (fun h11 => ?_) fun h11 => ?_
   · have hidz : mIdx (fun z : DWait => decide (z.seq = m.seq)) x.waits.xs < 0 := by rw [← hF1]; omega
     have hm : mHear x.abs m = (zCust, 12) := by
       have ha5 : x.abs.waits = x.waits.xs := rfl
       unfold mHear; rw [ha1, ha2, ha3, ha5]; try simp only [h1, h2, h3, ne_eq, not_true_eq_false, not_false_eq_true, if_true, if_false, reduceIte, true_or, or_true, or_self, false_or, or_false]
       repeat (first | rw [if_pos (by omega)] | rw [if_neg (by omega)])
       all_goals rfl
     exact Me2 hm ⟨0, 0, 0, Sl.nil⟩ rfl fun bs w hS => hS.outS (y := (⟨0, 0, 0, Sl.nil⟩ : CCustomer)) (Sl.rd_nil _ _)
   have hbdx := mIdx_bd (fun z : DWait => decide (z.seq = m.seq)) y1.xs
   refine Md (m.reply.code = 11) (fun h12 => ?_) fun h12 => ?_
   · refine Mt [.agg #[vi x.id, vi 0, vi x.next, vn], vi 0] fun bs w hS => ?_
     have e4 := hF1
     have hid : ¬ mIdx (fun z : DWait => decide (z.seq = m.seq)) x.waits.xs < 0 := by rw [← hF1]; omega
     have hm : mHear x.abs m = (⟨x.id, 0, x.next, []⟩, 0) := by
       have ha5 : x.abs.waits = x.waits.xs := rfl
       unfold mHear; rw [ha1, ha2, ha3, ha5]; try simp only [h1, h2, h3, h12, ne_eq, not_true_eq_false, not_false_eq_true, if_true, if_false, reduceIte, true_or, or_true, or_self, false_or, or_false]
       repeat (first | rw [if_pos (by omega)] | rw [if_neg (by omega)])
       all_goals rfl
     refine ⟨⟨x.id, 0, x.next, Sl.nil⟩, ?_, ?_, hS.outS (y := (⟨x.id, 0, x.next, Sl.nil⟩ : CCustomer)) (Sl.rd_nil _ _)⟩
     · rw [hm]; rfl
     · rw [hm]; simp [CCustomer.abs, Sl.nil]
   refine Mi ?_ (pR ((mIdx (fun z : DWait => decide (z.seq = m.seq)) y1.xs) + 1))
   refine Mtu ?_ (σ := Unit) (v := fun _ => .slice y1.A (y1.xs.take (mIdx (fun z : DWait => decide (z.seq = m.seq)) y1.xs).toNat ++ y1.xs.drop ((mIdx (fun z : DWait => decide (z.seq = m.seq)) y1.xs).toNat + 1)).length y1.c) (F := fun _ => True) (r := fun _ => rowA 171 y1.A y1.c (y1.xs.take (mIdx (fun z : DWait => decide (z.seq = m.seq)) y1.xs).toNat ++ y1.xs.drop ((mIdx (fun z : DWait => decide (z.seq = m.seq)) y1.xs).toNat + 1) : List DWait)) (vs := fun bs => [y1.val, vi (mIdx (fun z : DWait => decide (z.seq = m.seq)) y1.xs), vi ((mIdx (fun z : DWait => decide (z.seq = m.seq)) y1.xs) + 1)]) Tryz.call142 (fun bs w hS => (delR_Wait y1.A y1.c y1.xs (mIdx (fun z : DWait => decide (z.seq = m.seq)) y1.xs).toNat ((mIdx (fun z : DWait => decide (z.seq = m.seq)) y1.xs).toNat + 1) _ _ w (hS.res _ i0) hS.head1.2.2 (by omega) (by omega) (by first | omega | (simp only [Sl.n] at *; omega)) (by first | omega | (simp only [Sl.n] at *; omega))).mono (fun e w' ⟨h1, h2⟩ => ⟨(), h1, trivial, h2⟩))
   rintro _ _
   refine Mt [.agg #[vi x.id, vi x.session, vi x.next, .slice y1.A (y1.xs.take (mIdx (fun z : DWait => decide (z.seq = m.seq)) y1.xs).toNat ++ y1.xs.drop ((mIdx (fun z : DWait => decide (z.seq = m.seq)) y1.xs).toNat + 1)).length y1.c], vi 0] fun bs w hS => ?_
   have e4 := hF1
   have hfl : y1.xs.take (mIdx (fun z : DWait => decide (z.seq = m.seq)) y1.xs).toNat ++ y1.xs.drop ((mIdx (fun z : DWait => decide (z.seq = m.seq)) y1.xs).toNat + 1) = x.waits.xs.filter fun z => !decide (z.seq = m.seq) := by rw [hF1]; exact waits_one (x := x.abs) (by assumption) (by show mIdx _ x.waits.xs = _; rw [← hF1]; omega)
   have hid : ¬ mIdx (fun z : DWait => decide (z.seq = m.seq)) x.waits.xs < 0 := by rw [← hF1]; omega
   have hm : mHear x.abs m = (⟨x.id, x.session, x.next, x.waits.xs.filter fun z => !decide (z.seq = m.seq)⟩, 0) := by
     have ha5 : x.abs.waits = x.waits.xs := rfl
     unfold mHear; rw [ha1, ha2, ha3, ha5]; try simp only [h1, h2, h3, h12, ne_eq, not_true_eq_false, not_false_eq_true, if_true, if_false, reduceIte, true_or, or_true, or_self, false_or, or_false]
     repeat (first | rw [if_pos (by omega)] | rw [if_neg (by omega)])
     all_goals rfl
   refine ⟨⟨x.id, x.session, x.next, ⟨y1.A, y1.c, y1.xs.take (mIdx (fun z : DWait => decide (z.seq = m.seq)) y1.xs).toNat ++ y1.xs.drop ((mIdx (fun z : DWait => decide (z.seq = m.seq)) y1.xs).toNat + 1)⟩⟩, ?_, ?_, hS.outS (y := (⟨x.id, x.session, x.next, ⟨y1.A, y1.c, y1.xs.take (mIdx (fun z : DWait => decide (z.seq = m.seq)) y1.xs).toNat ++ y1.xs.drop ((mIdx (fun z : DWait => decide (z.seq = m.seq)) y1.xs).toNat + 1)⟩⟩ : CCustomer)) (allR_row i0 (hS.res _ i0) (fun z hz => Sl.rd.mem (s := x.waits) hx z (List.mem_filter.1 (hfl ▸ hz)).1))⟩
   · rw [hm]; rfl
   · rw [hm]; simp [CCustomer.abs, hfl]
 refine Md ((0 : Int) < x.session) (fun h4 => ?_) fun h4 => ?_
 · have hm : mHear x.abs m = (zCust, 12) := by
     have ha5 : x.abs.waits = x.waits.xs := rfl
     unfold mHear; rw [ha1, ha2, ha3, ha5]; try simp only [h1, h2, h3, ne_eq, not_true_eq_false, not_false_eq_true, if_true, if_false, reduceIte, true_or, or_true, or_self, false_or, or_false]
     repeat (first | rw [if_pos (by omega)] | rw [if_neg (by omega)])
     all_goals rfl
   exact Me2 hm ⟨0, 0, 0, Sl.nil⟩ rfl fun bs w hS => hS.outS (y := (⟨0, 0, 0, Sl.nil⟩ : CCustomer)) (Sl.rd_nil _ _)
 refine Mdn (m.reply.code = 0) (fun h5 => ?_) fun h5 => ?_
 · refine Md (m.reply.n < 1) (fun h6 => ?_) fun h6 => ?_
   · have hm : mHear x.abs m = (zCust, 2) := by
       have ha5 : x.abs.waits = x.waits.xs := rfl
       unfold mHear; rw [ha1, ha2, ha3, ha5]; try simp only [h1, h2, h3, h5, ne_eq, not_true_eq_false, not_false_eq_true, if_true, if_false, reduceIte, true_or, or_true, or_self, false_or, or_false]
       repeat (first | rw [if_pos (by omega)] | rw [if_neg (by omega)])
       all_goals rfl
     exact Me2 hm ⟨0, 0, 0, Sl.nil⟩ rfl fun bs w hS => hS.outS (y := (⟨0, 0, 0, Sl.nil⟩ : CCustomer)) (Sl.rd_nil _ _)
   refine Md ((1073741824 : Int) < m.reply.n) (fun h7 => ?_) fun h7 => ?_
   · have hm : mHear x.abs m = (zCust, 2) := by
       have ha5 : x.abs.waits = x.waits.xs := rfl
       unfold mHear; rw [ha1, ha2, ha3, ha5]; try simp only [h1, h2, h3, h5, ne_eq, not_true_eq_false, not_false_eq_true, if_true, if_false, reduceIte, true_or, or_true, or_self, false_or, or_false]
       repeat (first | rw [if_pos (by omega)] | rw [if_neg (by omega)])
       all_goals rfl
     exact Me2 hm ⟨0, 0, 0, Sl.nil⟩ rfl fun bs w hS => hS.outS (y := (⟨0, 0, 0, Sl.nil⟩ : CCustomer)) (Sl.rd_nil _ _)
   refine Mt [.agg #[vi x.id, vi m.reply.n, vi x.next, y1.val], vi 0] fun bs w hS => ?_
   have e4 := hF1
   have hm : mHear x.abs m = (⟨x.id, m.reply.n, x.next, x.waits.xs⟩, 0) := by
     have ha5 : x.abs.waits = x.waits.xs := rfl
     unfold mHear; rw [ha1, ha2, ha3, ha5]; try simp only [h1, h2, h3, h5, ne_eq, not_true_eq_false, not_false_eq_true, if_true, if_false, reduceIte, true_or, or_true, or_self, false_or, or_false]
     repeat (first | rw [if_pos (by omega)] | rw [if_neg (by omega)])
     all_goals rfl
   refine ⟨⟨x.id, m.reply.n, x.next, y1⟩, ?_, ?_, hS.outS (y := (⟨x.id, m.reply.n, x.next, y1⟩ : CCustomer)) (allR_row i0 (hS.res _ i0) hsz1)⟩
   · rw [hm]; rfl
   · rw [hm]; simp [CCustomer.abs, e4]
 refine Mdn (m.reply.code = 7) (fun h8 => ?_) fun h8 => ?_
 rotate_left
 · refine Mt [.agg #[vi x.id, vi x.session, vi x.next, y1.val], vi 0] fun bs w hS => ?_
   have e4 := hF1
   have hm : mHear x.abs m = (⟨x.id, x.session, x.next, x.waits.xs⟩, 0) := by
     have ha5 : x.abs.waits = x.waits.xs := rfl
     unfold mHear; rw [ha1, ha2, ha3, ha5]; try simp only [h1, h2, h3, h5, h8, ne_eq, not_true_eq_false, not_false_eq_true, if_true, if_false, reduceIte, true_or, or_true, or_self, false_or, or_false]
     repeat (first | rw [if_pos (by omega)] | rw [if_neg (by omega)])
     all_goals rfl
   refine ⟨⟨x.id, x.session, x.next, y1⟩, ?_, ?_, hS.outS (y := (⟨x.id, x.session, x.next, y1⟩ : CCustomer)) (allR_row i0 (hS.res _ i0) hsz1)⟩
   · rw [hm]; rfl
   · rw [hm]; simp [CCustomer.abs, e4]
 refine Md (m.reply.n < 1) (fun h9 => ?_) fun h9 => ?_
 · have hm : mHear x.abs m = (zCust, 2) := by
     have ha5 : x.abs.waits = x.waits.xs := rfl
     unfold mHear; rw [ha1, ha2, ha3, ha5]; try simp only [h1, h2, h3, h5, h8, ne_eq, not_true_eq_false, not_false_eq_true, if_true, if_false, reduceIte, true_or, or_true, or_self, false_or, or_false]
     repeat (first | rw [if_pos (by omega)] | rw [if_neg (by omega)])
     all_goals rfl
   exact Me2 hm ⟨0, 0, 0, Sl.nil⟩ rfl fun bs w hS => hS.outS (y := (⟨0, 0, 0, Sl.nil⟩ : CCustomer)) (Sl.rd_nil _ _)
 refine Md ((1073741824 : Int) < m.reply.n) (fun h10 => ?_) fun h10 => ?_
 · have hm : mHear x.abs m = (zCust, 2) := by
     have ha5 : x.abs.waits = x.waits.xs := rfl
     unfold mHear; rw [ha1, ha2, ha3, ha5]; try simp only [h1, h2, h3, h5, h8, ne_eq, not_true_eq_false, not_false_eq_true, if_true, if_false, reduceIte, true_or, or_true, or_self, false_or, or_false]
     repeat (first | rw [if_pos (by omega)] | rw [if_neg (by omega)])
     all_goals rfl
   exact Me2 hm ⟨0, 0, 0, Sl.nil⟩ rfl fun bs w hS => hS.outS (y := (⟨0, 0, 0, Sl.nil⟩ : CCustomer)) (Sl.rd_nil _ _)
 refine Mt [.agg #[vi x.id, vi m.reply.n, vi x.next, y1.val], vi 0] fun bs w hS => ?_
 have e4 := hF1
 have hm : mHear x.abs m = (⟨x.id, m.reply.n, x.next, x.waits.xs⟩, 0) := by
   have ha5 : x.abs.waits = x.waits.xs := rfl
   unfold mHear; rw [ha1, ha2, ha3, ha5]; try simp only [h1, h2, h3, h5, h8, ne_eq, not_true_eq_false, not_false_eq_true, if_true, if_false, reduceIte, true_or, or_true, or_self, false_or, or_false]
   repeat (first | rw [if_pos (by omega)] | rw [if_neg (by omega)])
   all_goals rfl
 refine ⟨⟨x.id, m.reply.n, x.next, y1⟩, ?_, ?_, hS.outS (y := (⟨x.id, m.reply.n, x.next, y1⟩ : CCustomer)) (allR_row i0 (hS.res _ i0) hsz1)⟩
 · rw [hm]; rfl
 · rw [hm]; simp [CCustomer.abs, e4]
theorem clone_Int {B : Nat → Prop} (s : Sl Int) (w : World) (hs : s.rd B w) (hb : s.n ≤ 1048576) : Calls Tryz.prog 85 #[s.val] w fun e w' => ∃ y : Sl Int, e = .returned y.val ∧ y.xs = s.xs ∧ Kp [] w w' ∧ Fresh w w' (rowA 3 y.A y.c y.xs) := by
 have oks := Sl.rd.ok hs
 have ncs := Sl.ok.nc oks
 have hns : s.n = s.xs.length := rfl
 refine M0 ?_ Tryz.func85
 refine Mi ?_ (pG [(4, .val (.bool s.A.isNone))] (oc ((eq_nil Tryz.underlying127) : ∀ w, (do eqGuard .eql 127 (.tmp 3) (.const vn) s.val vn; binOp .eql 127 s.val vn : Sem Value).run Tryz.prog w = .ok (.bool s.A.isNone) w) on))
 refine Mb s.A.isNone (fun h1 => ?_) fun h1 => ?_
 · refine Mt [vn] fun bs w hS => ?_
   have hnil : s.xs = [] := Sl.ok.empty oks (by cases h : s.A <;> simp_all)
   exact ⟨Sl.nil, rfl, hnil.symm, hS.kp, rowA_nil 3 w⟩
 refine Mlz ?_ (α := Int) (e := 3)
 intro A1
 refine Ma ?_ (α := Int) (L2 := s.xs) 8 (fun bs w hS => Sl.rd.src (s := s) (Sl.rd.kp hs hS.kp))
 intro A2 c2
 exact Mt [.slice A2 ([] ++ s.xs).length c2] fun bs w hS => ⟨⟨A2, c2, [] ++ s.xs⟩, rfl, by simp, hS.kp, hS.out1⟩
theorem clone_Kept {B : Nat → Prop} (s : Sl DKept) (w : World) (hs : s.rd B w) (hb : s.n ≤ 1048576) : Calls Tryz.prog 53 #[s.val] w fun e w' => ∃ y : Sl DKept, e = .returned y.val ∧ y.xs = s.xs ∧ Kp [] w w' ∧ Fresh w w' (rowA 95 y.A y.c y.xs) := by
 have oks := Sl.rd.ok hs
 have ncs := Sl.ok.nc oks
 have hns : s.n = s.xs.length := rfl
 refine M0 ?_ Tryz.func53
 refine Mi ?_ (pG [(4, .val (.bool s.A.isNone))] (oc ((eq_nil Tryz.underlying85) : ∀ w, (do eqGuard .eql 85 (.tmp 3) (.const vn) s.val vn; binOp .eql 85 s.val vn : Sem Value).run Tryz.prog w = .ok (.bool s.A.isNone) w) on))
 refine Mb s.A.isNone (fun h1 => ?_) fun h1 => ?_
 · refine Mt [vn] fun bs w hS => ?_
   have hnil : s.xs = [] := Sl.ok.empty oks (by cases h : s.A <;> simp_all)
   exact ⟨Sl.nil, rfl, hnil.symm, hS.kp, rowA_nil 95 w⟩
 refine Mlz ?_ (α := DKept) (e := 95)
 intro A1
 refine Ma ?_ (α := DKept) (L2 := s.xs) 40 (fun bs w hS => Sl.rd.src (s := s) (Sl.rd.kp hs hS.kp))
 intro A2 c2
 exact Mt [.slice A2 ([] ++ s.xs).length c2] fun bs w hS => ⟨⟨A2, c2, [] ++ s.xs⟩, rfl, by simp, hS.kp, hS.out1⟩
theorem lock_Copy {B : Nat → Prop} (s : Sl CLock) (w : World) (hs : s.rd B w) (hsm : Rds.small s) : Calls Tryz.prog 58 #[s.val] w fun e w' => ∃ y : Sl CLock, e = .returned y.val ∧ y.xs.map CLock.abs = s.xs.map CLock.abs ∧ Kp [] w w' ∧ Fresh w w' (locksR 129 3 y) := by
 have oks := Sl.rd.ok hs
 have ncs := Sl.ok.nc oks
 refine M0 ?_ Tryz.func58
 refine m_rowA (α := CLock) 129 ?_
 refine m_nores (ownL (lineR 3) []) rfl (fun w x hx => by cases hx) ?_
 refine Ml (σ := Nat × Option Addr × Nat × List CLock) (fun ⟨i, A, c, L⟩ => i ≤ s.n ∧ L.length = i ∧ L.map CLock.abs = (s.xs.take i).map CLock.abs) (fun ⟨i, A, c, L⟩ => s.n - i) (fun ⟨i, A, c, L⟩ => [ownL (lineR 3) L, rowA 129 A c (L : List CLock)]) [8, 7, 6, 3] (fun ⟨i, A, c, L⟩ => [(8, vI (i : Int)), (3, .v (.slice A L.length c))]) (fun _ => []) ?_ (⟨0, none, 0, []⟩) ⟨Nat.zero_le _, rfl, by simp⟩
 rintro ⟨i, A, c, L⟩ ⟨hi, hL, hI⟩ _ on1
 have hsn := hsm.1
 refine Md ((i : Int) < (s.n : Int)) (fun h1 => ?_) fun h1 => ?_
 rotate_left
 · refine Mt [.slice A L.length c] fun bs w hS => ?_
   have hn : L.length = s.n := by omega
   exact ⟨⟨A, c, L⟩, rfl, by rw [hI, take_all (by omega)], hS.kp, hS.out⟩
 refine Mi ?_ (pA 10 11 (i : Int) i (rdk hs))
 refine Mf ?_ Tryz.call85 (fun bs w hS => clone_Int (s.at i).line w (Sl.rd.sub (s := s) (i := i) (Sl.rd.kp hs hS.kp) (by omega)).2 (hsm.2 i (by omega)).1)
 rintro y1 hF1
 refine M1 ?_
 refine m_f2 ?_
 refine Mal (α := CLock) 56 ([(⟨(s.at i).name, (s.at i).holder, (s.at i).fence, y1⟩ : CLock)]) ?_
 intro A3 c3
 refine Mi ?_ (pR ((i : Int) + 1))
 refine m_perm (R' := [rowA 3 y1.A y1.c (y1.xs : List Int), ownL (lineR 3) L, rowA 129 A3 c3 (L ++ [(⟨(s.at i).name, (s.at i).holder, (s.at i).fence, y1⟩ : CLock)] : List CLock)]) (by exact perm3 0 _ _ _) ?_
 refine m_join (ownL (lineR 3) (L ++ [(⟨(s.at i).name, (s.at i).holder, (s.at i).fence, y1⟩ : CLock)])) (ownL_app_fp (lineR 3) L (⟨(s.at i).name, (s.at i).holder, (s.at i).fence, y1⟩ : CLock)) (fun w => ownL_app_p (lineR 3) L (⟨(s.at i).name, (s.at i).holder, (s.at i).fence, y1⟩ : CLock) w) ?_
 exact on1 ⟨i + 1, A3, c3, L ++ [(⟨(s.at i).name, (s.at i).holder, (s.at i).fence, y1⟩ : CLock)]⟩ ⟨by omega, by rw [List.length_append]; simp [hL], map_take_snoc (by omega) hI (by first | simp [CLock.abs, hF1] | simp [CLock.abs])⟩ (by show s.n - (i + 1) < s.n - i; omega)
theorem lock_CopyS {B : Nat → Prop} (s : Sl CLock) (w : World) (hs : s.rd B w) (hsm : Rds.small s) : Calls Tryz.prog 58 #[s.val] w fun e w' => ∃ y : Sl CLock, e = .returned y.val ∧ y.xs.map CLock.abs = s.xs.map CLock.abs ∧ FreshS w w' y :=
  (lock_Copy s w hs hsm).mono fun e w' ⟨y, h1, h2, h3, h4⟩ => ⟨y, h1, h2, h3, h4.sub fun hp => locksR_rd hp (locks_names hs h2)⟩
theorem session_Copy {B : Nat → Prop} (s : Sl CSession) (w : World) (hs : s.rd B w) (hsm : Rds.small s) : Calls Tryz.prog 24 #[s.val] w fun e w' => ∃ y : Sl CSession, e = .returned y.val ∧ y.xs.map CSession.abs = s.xs.map CSession.abs ∧ Kp [] w w' ∧ Fresh w w' (sessR 87 95 y) := by
 have oks := Sl.rd.ok hs
 have ncs := Sl.ok.nc oks
 refine M0 ?_ Tryz.func24
 refine m_rowA (α := CSession) 87 ?_
 refine m_nores (ownL (keptR 95) []) rfl (fun w x hx => by cases hx) ?_
 refine Ml (σ := Nat × Option Addr × Nat × List CSession) (fun ⟨i, A, c, L⟩ => i ≤ s.n ∧ L.length = i ∧ L.map CSession.abs = (s.xs.take i).map CSession.abs) (fun ⟨i, A, c, L⟩ => s.n - i) (fun ⟨i, A, c, L⟩ => [ownL (keptR 95) L, rowA 87 A c (L : List CSession)]) [8, 7, 6, 3] (fun ⟨i, A, c, L⟩ => [(8, vI (i : Int)), (3, .v (.slice A L.length c))]) (fun _ => []) ?_ (⟨0, none, 0, []⟩) ⟨Nat.zero_le _, rfl, by simp⟩
 rintro ⟨i, A, c, L⟩ ⟨hi, hL, hI⟩ _ on1
 have hsn := hsm.1
 refine Md ((i : Int) < (s.n : Int)) (fun h1 => ?_) fun h1 => ?_
 rotate_left
 · refine Mt [.slice A L.length c] fun bs w hS => ?_
   have hn : L.length = s.n := by omega
   exact ⟨⟨A, c, L⟩, rfl, by rw [hI, take_all (by omega)], hS.kp, hS.out⟩
 refine Mi ?_ (pA 10 11 (i : Int) i (rdk hs))
 refine Mf ?_ Tryz.call53 (fun bs w hS => clone_Kept (s.at i).replies w (Sl.rd.sub (s := s) (i := i) (Sl.rd.kp hs hS.kp) (by omega)) (hsm.2 i (by omega)).1)
 rintro y1 hF1
 refine M1 ?_
 refine m_f2 ?_
 refine Mal (α := CSession) 56 ([(⟨(s.at i).client, (s.at i).id, (s.at i).acked, (s.at i).last, y1⟩ : CSession)]) ?_
 intro A3 c3
 refine Mi ?_ (pR ((i : Int) + 1))
 refine m_perm (R' := [rowA 95 y1.A y1.c (y1.xs : List DKept), ownL (keptR 95) L, rowA 87 A3 c3 (L ++ [(⟨(s.at i).client, (s.at i).id, (s.at i).acked, (s.at i).last, y1⟩ : CSession)] : List CSession)]) (by exact perm3 0 _ _ _) ?_
 refine m_join (ownL (keptR 95) (L ++ [(⟨(s.at i).client, (s.at i).id, (s.at i).acked, (s.at i).last, y1⟩ : CSession)])) (ownL_app_fp (keptR 95) L (⟨(s.at i).client, (s.at i).id, (s.at i).acked, (s.at i).last, y1⟩ : CSession)) (fun w => ownL_app_p (keptR 95) L (⟨(s.at i).client, (s.at i).id, (s.at i).acked, (s.at i).last, y1⟩ : CSession) w) ?_
 exact on1 ⟨i + 1, A3, c3, L ++ [(⟨(s.at i).client, (s.at i).id, (s.at i).acked, (s.at i).last, y1⟩ : CSession)]⟩ ⟨by omega, by rw [List.length_append]; simp [hL], map_take_snoc (by omega) hI (by first | simp [CSession.abs, hF1] | simp [CSession.abs])⟩ (by show s.n - (i + 1) < s.n - i; omega)
theorem session_CopyS {B : Nat → Prop} (s : Sl CSession) (w : World) (hs : s.rd B w) (hsm : Rds.small s) : Calls Tryz.prog 24 #[s.val] w fun e w' => ∃ y : Sl CSession, e = .returned y.val ∧ y.xs.map CSession.abs = s.xs.map CSession.abs ∧ FreshS w w' y :=
  (session_Copy s w hs hsm).mono fun e w' ⟨y, h1, h2, h3, h4⟩ => ⟨y, h1, h2, h3, h4.sub fun hp => sessR_rd hp (sess_texts hs h2)⟩
theorem session_find_1 (x : CSession) (t : Int) (w : World) : Calls Tryz.prog 55 #[x.val, vi t] w fun e w' => e = .returned (vi (IntKind.i64.wrap (x.client - t))) ∧ Kp [] w w' := by
 refine M0 ?_ Tryz.func55
 refine Mi ?_ (pG [(8, .val (vi (IntKind.i64.wrap (x.client - t))))] (oc (sub_wrap : ∀ w, (do eqGuard .sub 3 (.tmp 6) (.tmp 7) (vi x.client) (vi t); binOp .sub 3 (vi x.client) (vi t) : Sem Value).run Tryz.prog w = .ok (vi (IntKind.i64.wrap (x.client - t))) w) on))
 exact Mt [vi (IntKind.i64.wrap (x.client - t))] fun bs w hS => ⟨rfl, hS.kp⟩
theorem bs_session_find_1 {B : Nat → Prop} (s : Sl CSession) (t : Int) (w : World) (hs : s.rd B w) (hn : s.n ≤ 1048576) : Calls Tryz.prog 54 #[s.val, vi t, .func (.func 55) #[] #[]] w fun e w' => e = .returned (.tuple #[vi (mBS (fun x : CSession => IntKind.i64.wrap (x.client - t)) s.xs : Nat), vb (mBSf (fun x : CSession => IntKind.i64.wrap (x.client - t)) s.xs)]) ∧ Kp [] w w' := by
 have oks := Sl.rd.ok hs
 have ncs := Sl.ok.nc oks
 have hns : s.n = s.xs.length := rfl
 refine Mj ?_ Tryz.func54 (WS.start w)
 refine Ml (σ := Nat × Nat × Nat) (fun ⟨i, j, f⟩ => i ≤ j ∧ j ≤ s.n ∧ j - i ≤ f ∧ mBS (fun x : CSession => IntKind.i64.wrap (x.client - t)) s.xs = bsGo (fun j => decide (IntKind.i64.wrap ((s.at j).client - t) < 0)) f i j) (fun ⟨i, j, f⟩ => f) (fun _ => []) [10, 9, 8, 0, 1, 2] (fun ⟨i, j, f⟩ => [(10, vI (j : Int)), (9, vI (i : Int))]) (fun _ => []) ?_ (⟨0, s.n, s.n⟩) ⟨Nat.zero_le _, Nat.le_refl _, Nat.le_refl _, rfl⟩
 rintro ⟨i, j, f⟩ ⟨h1, h2, h3, hI⟩ _ on1
 have hdiv : ((i : Int) + (j : Int)) / 2 = (((i + j) / 2 : Nat) : Int) := by omega
 refine Md ((i : Int) < (j : Int)) (fun h1 => ?_) fun h1 => ?_
 rotate_left
 · refine Md ((i : Int) < (s.n : Int)) (fun h3 => ?_) fun h3 => ?_
   rotate_left
   · refine Mt [vi (i : Int), vb false] fun bs w hS => ?_
     have hij : i = j := by omega
     subst hij
     have hr : mBS (fun x : CSession => IntKind.i64.wrap (x.client - t)) s.xs = i := by rw [hI]; exact bsGo_end _ _ _ _ (Nat.le_refl _)
     refine ⟨?_, hS.kp⟩
     have hr2 : mBSf (fun x : CSession => IntKind.i64.wrap (x.client - t)) s.xs = false := by
       unfold mBSf; rw [hr]
       rw [decide_eq_false (show ¬ i < s.xs.length by omega)]; rfl
     rw [hr, hr2]
     rfl
   refine Mi ?_ (pA 43 44 (i : Int) i (rdk hs))
   refine Mp ?_ Tryz.call55 (fun bs w hS => session_find_1 (s.at i) t w)
   refine Mt [vi (i : Int), vb (decide (IntKind.i64.wrap ((s.at i).client - t) = 0))] fun bs w hS => ?_
   have hij : i = j := by omega
   subst hij
   have hr : mBS (fun x : CSession => IntKind.i64.wrap (x.client - t)) s.xs = i := by rw [hI]; exact bsGo_end _ _ _ _ (Nat.le_refl _)
   refine ⟨?_, hS.kp⟩
   have hr2 : mBSf (fun x : CSession => IntKind.i64.wrap (x.client - t)) s.xs = (decide (IntKind.i64.wrap ((s.at i).client - t) = 0)) := by
     unfold mBSf; rw [hr]
     rw [decide_eq_true (show i < s.xs.length by omega)]; rfl
   rw [hr, hr2]
   rfl
 refine Mi ?_ (pc (pR ((i : Int) + (j : Int))) (pc (pG [(21, .val (.int .u64 ((i : Int) + (j : Int))))] (oc ((conv_i64_u64 Tryz.underlying3 Tryz.underlying175 (by omega) (by omega)) : ∀ w, (convert 3 175 (vi ((i : Int) + (j : Int))) : Sem Value).run Tryz.prog w = .ok (.int .u64 ((i : Int) + (j : Int))) w) on)) (pc (pG [(22, .val (.int .u64 (((i : Int) + (j : Int)) / 2)))] (oc (shr_u64 : ∀ w, (do eqGuard .shr 175 (.tmp 21) (.const (.int .u64 1)) (.int .u64 ((i : Int) + (j : Int))) (.int .u64 1); binOp .shr 175 (.int .u64 ((i : Int) + (j : Int))) (.int .u64 1) : Sem Value).run Tryz.prog w = .ok (.int .u64 (((i : Int) + (j : Int)) / 2)) w) on)) (pc (pG [(23, .val (vi (((i : Int) + (j : Int)) / 2)))] (oc ((conv_u64_i64 Tryz.underlying175 Tryz.underlying3 (by omega) (by omega)) : ∀ w, (convert 175 3 (.int .u64 (((i : Int) + (j : Int)) / 2)) : Sem Value).run Tryz.prog w = .ok (vi (((i : Int) + (j : Int)) / 2)) w) on)) (pA 27 28 (((i : Int) + (j : Int)) / 2) (((i : Int) + (j : Int)) / 2).toNat (rdk hs))))))
 refine Mp ?_ Tryz.call55 (fun bs w hS => session_find_1 (s.at (((i : Int) + (j : Int)) / 2).toNat) t w)
 refine Md (IntKind.i64.wrap ((s.at (((i : Int) + (j : Int)) / 2).toNat).client - t) < 0) (fun h2 => ?_) fun h2 => ?_
 rotate_left
 · have hf1 : f = (f - 1) + 1 := by omega
   rw [hf1] at hI
   have hI2 := hI.trans (bsGo_down (by omega) (decide_eq_false (by assumption)))
   exact on1 ⟨i, (i + j) / 2, f - 1⟩ ⟨by omega, by omega, by omega, hI2⟩ (by show f - 1 < f; omega)
 refine Mi ?_ (pR ((((i : Int) + (j : Int)) / 2) + 1))
 have hf1 : f = (f - 1) + 1 := by omega
 rw [hf1] at hI
 have hI2 := hI.trans (bsGo_up (by omega) (decide_eq_true (by assumption)))
 exact on1 ⟨(i + j) / 2 + 1, j, f - 1⟩ ⟨by omega, by omega, by omega, hI2⟩ (by show f - 1 < f; omega)
theorem session_find {B : Nat → Prop} (s : Sl CSession) (t : Int) (w : World) (hs : s.rd B w) (hn : s.n ≤ 1048576) : Calls Tryz.prog 26 #[s.val, vi t] w fun e w' => e = .returned (.tuple #[vi (mBS (fun x : CSession => IntKind.i64.wrap (x.client - t)) s.xs : Nat), vb (mBSf (fun x : CSession => IntKind.i64.wrap (x.client - t)) s.xs)]) ∧ Kp [] w w' := by
 have oks := Sl.rd.ok hs
 have ncs := Sl.ok.nc oks
 have hns : s.n = s.xs.length := rfl
 refine M0 ?_ Tryz.func26
 refine Mp ?_ Tryz.call54 (fun bs w hS => bs_session_find_1 s t w (Sl.rd.kp hs hS.kp) (by omega))
 exact Mt [vi ((mBS (fun x : CSession => IntKind.i64.wrap (x.client - t)) s.xs : Nat) : Int), vb (mBSf (fun x : CSession => IntKind.i64.wrap (x.client - t)) s.xs)] fun bs w hS => ⟨rfl, hS.kp⟩
theorem delR_Session (A : Option Addr) (c : Nat) (L : List CSession) (i j : Nat) (ii jj : Int) (w : World) (hrow : (rowA 87 A c L).p w) (hlt : ∀ b, b ∈ (rowA 87 A c L).fp → b < w.heap.size) (ei : ii = (i : Int)) (ej : jj = (j : Int)) (hij : i ≤ j) (hj : j ≤ L.length) :
    Calls Tryz.prog 64 #[.slice A L.length c, vi ii, vi jj] w fun e w' => e = .returned (.slice A (L.take i ++ L.drop j).length c) ∧ Turned (rowA 87 A c L) w w' (rowA 87 A c (L.take i ++ L.drop j)) := by
 subst ei ej
 have hrok := rowA_rok hrow
 have nc := hrok.2
 refine Mj ?_ Tryz.func64 (WS.start1 w _ hrow (by cases A <;> simp [rowA, rowR]) hlt)
 refine Ms3 (e := 87) (A := A) (n := L.length) (il := (i : Int)) (ih := (j : Int)) (im := (L.length : Int)) (c := c) i j L.length ?_ rfl rfl rfl (by omega) (by omega) (by omega)
 refine Md ((i : Int) = (j : Int)) (fun h1 => ?_) fun h1 => ?_
 · refine Mt [.slice A L.length c] fun bs w hS => ?_
   have hij2 : i = j := by omega
   subst hij2
   rw [List.take_append_drop]
   exact ⟨rfl, hS.turned⟩
 refine Mdr 6 ?_ Tryz_mixed
 refine Mih ?_ (pc (pG [(22, .sl 0 i)] (oc (rfl : 0 = 0) (oc (rfl : (i : Int) = (i : Int)) (oc ((by omega) : i ≤ c) on)))) (pG [(25, .sl j L.length)] (oc (rfl : (j : Int) = (j : Int)) (oc (rfl : L.length = L.length) (oc ((by omega) : j ≤ L.length) on)))))
 refine Mz ?_
 refine Mad 56 i j ?_ hij hj
 refine Mi ?_ (pG [(31, .sl (i + (L.length - j)) L.length)] (oc (rfl : ((i + (L.length - j) : Nat) : Int) = (((i + (L.length - j)) : Nat) : Int)) (oc (rfl : (L.length : Int) = (L.length : Int)) (oc ((by omega) : (i + (L.length - j)) ≤ L.length) (oc ((by omega) : L.length ≤ c) on)))))
 refine Mcl (i + (L.length - j)) (L.length - (i + (L.length - j))) ?_ (by simp only [List.length_append, List.length_take, List.length_drop]; omega) (by omega)
 refine Mt [.slice A (i + (L.length - j)) c] fun bs w hS => ?_
 have hlen : (L.take i ++ L.drop j).length = i + (L.length - j) := by simp only [List.length_append, List.length_take, List.length_drop]; omega
 have hS2 := hS
 rw [← hlen, List.take_length] at hS2
 refine ⟨?_, hS2.turned⟩
 rw [hlen]
 rfl
theorem session_Leave {B : Nat → Prop} (s : Sl CSession) (n t : Int) (w : World) (hs : s.rd B w) (ht : inR t) : Calls Tryz.prog 35 #[s.val, vi n, vi t] w fun e w' => ∃ y : Sl CSession, e = .returned (.tuple #[y.val, ((mLeave (s.xs.map CSession.abs) n t).2.1).val, vi (mLeave (s.xs.map CSession.abs) n t).2.2]) ∧ y.xs.map CSession.abs = (mLeave (s.xs.map CSession.abs) n t).1 ∧ FreshS w w' y := by
 have oks := Sl.rd.ok hs
 have ncs := Sl.ok.nc oks
 have hns : s.n = s.xs.length := rfl
 have hml : (s.xs.map CSession.abs).length = s.n := by simp
 refine M0 ?_ Tryz.func35
 refine Mp ?_ Tryz.call22 (fun bs w hS => session_Check s n w (Sl.rd.kp hs hS.kp))
 refine Mdn (mSess (s.xs.map CSession.abs) n = 0) (fun h1 => ?_) fun h1 => ?_
 rotate_left
 · refine Mt [vn, vz 0, vi (mSess (s.xs.map CSession.abs) n)] fun bs w hS => ?_
   have hm : mLeave (s.xs.map CSession.abs) n t = ([], zRep, mSess (s.xs.map CSession.abs) n) := by grind [mLeave]
   refine ⟨Sl.nil, ?_, ?_, hS.outS (Sl.rd_nil _ _)⟩
   · rw [hm]; rfl
   · rw [hm]; rfl
 obtain ⟨hi0, hi1, hln, hall⟩ := mSess_bd h1
 refine Mf ?_ Tryz.call24 (fun bs w hS => session_Copy s w (Sl.rd.kp hs hS.kp) (small_sess (by assumption)))
 rintro y1 hF1
 refine m_split2 ?_
 have hnm1 := sess_texts (hs) hF1
 refine m_know (F := ∀ i, i < y1.n → Rds.ok (y1.at i)) (fun bs w hS i hi => Rds.okof (Sl.rd.sub (own_sess (A := y1.A) (c := y1.c) (L := y1.xs) (hS.res _ i0) (hS.res _ i1) hnm1) hi)) fun okown1 => ?_
 refine m_know (F := RowOk y1.A y1.c (y1.xs : List CSession)) (fun bs w hS => rowA_rok (hS.res _ i1)) fun hrow1 => ?_
 have nchrow1 := hrow1.2
 have hnn := map_n hF1
 have hnx : y1.n = y1.xs.length := rfl
 have hok1 : Sl.ok y1 := ⟨nchrow1.1, by unfold maxLen; exact nchrow1.2, fun i hi => ⟨hrow1.1 i hi, okown1 i hi⟩⟩
 refine Mp ?_ Tryz.call26 (fun bs w hS => session_find y1 t w (own_sess (A := y1.A) (c := y1.c) (L := y1.xs) (hS.res _ i0) (hS.res _ i1) hnm1) (by omega))
 refine Mbn (mBSf (fun x : CSession => IntKind.i64.wrap (x.client - t)) y1.xs) (fun h2 => ?_) fun h2 => ?_
 rotate_left
 · refine Mt [y1.val, vz 11, vi 0] fun bs w hS => ?_
   have hmi : mIdx (fun x : DSession => decide (x.client = t)) (y1.xs.map CSession.abs) = mIdx (fun x : DSession => decide (x.client = t)) (s.xs.map CSession.abs) := by rw [hF1]
   have hb := bsf_sess (L := y1.xs) (index := n) (t := t) (by rw [hF1]; assumption) ht
   have hb1 := hb.1
   rw [h2, hmi] at hb1
   have hb3 := of_decide_eq_false hb1.symm
   have hm : mLeave (s.xs.map CSession.abs) n t = (s.xs.map CSession.abs, ⟨11, 0, emp⟩, 0) := by grind [mLeave]
   refine ⟨y1, ?_, ?_, hS.outS (y := y1) (out_sess (L0 := y1.xs) i1 i0 hS.res (fun x hx => hx) hnm1)⟩
   · rw [hm]; rfl
   · rw [hm]; exact hF1
 have hlt := mBSf_lt h2
 refine Mi ?_ (pR (((mBS (fun x : CSession => IntKind.i64.wrap (x.client - t)) y1.xs : Nat) : Int) + 1))
 refine m_f1 ?_
 refine Mtu ?_ (σ := Unit) (v := fun _ => .slice y1.A (y1.xs.take (((mBS (fun x : CSession => IntKind.i64.wrap (x.client - t)) y1.xs : Nat) : Int)).toNat ++ y1.xs.drop ((((mBS (fun x : CSession => IntKind.i64.wrap (x.client - t)) y1.xs : Nat) : Int)).toNat + 1)).length y1.c) (F := fun _ => True) (r := fun _ => rowA 87 y1.A y1.c (y1.xs.take (((mBS (fun x : CSession => IntKind.i64.wrap (x.client - t)) y1.xs : Nat) : Int)).toNat ++ y1.xs.drop ((((mBS (fun x : CSession => IntKind.i64.wrap (x.client - t)) y1.xs : Nat) : Int)).toNat + 1) : List CSession)) (vs := fun bs => [y1.val, vi ((mBS (fun x : CSession => IntKind.i64.wrap (x.client - t)) y1.xs : Nat) : Int), vi (((mBS (fun x : CSession => IntKind.i64.wrap (x.client - t)) y1.xs : Nat) : Int) + 1)]) Tryz.call64 (fun bs w hS => (delR_Session y1.A y1.c y1.xs (((mBS (fun x : CSession => IntKind.i64.wrap (x.client - t)) y1.xs : Nat) : Int)).toNat ((((mBS (fun x : CSession => IntKind.i64.wrap (x.client - t)) y1.xs : Nat) : Int)).toNat + 1) _ _ w (hS.res _ i0) hS.head1.2.2 (by omega) (by omega) (by omega) (by omega)).mono (fun e w' ⟨h1, h2⟩ => ⟨(), h1, trivial, h2⟩))
 rintro _ _
 refine Mt [.slice y1.A (y1.xs.take (((mBS (fun x : CSession => IntKind.i64.wrap (x.client - t)) y1.xs : Nat) : Int)).toNat ++ y1.xs.drop ((((mBS (fun x : CSession => IntKind.i64.wrap (x.client - t)) y1.xs : Nat) : Int)).toNat + 1)).length y1.c, vz 0, vi 0] fun bs w hS => ?_
 have hmi : mIdx (fun x : DSession => decide (x.client = t)) (y1.xs.map CSession.abs) = mIdx (fun x : DSession => decide (x.client = t)) (s.xs.map CSession.abs) := by rw [hF1]
 have hb := bsf_sess (L := y1.xs) (index := n) (t := t) (by rw [hF1]; assumption) ht
 have hb1 := hb.1
 rw [h2, hmi] at hb1
 have hb3 := of_decide_eq_true hb1.symm
 have hb2 := hb.2 h2
 rw [hmi] at hb2
 have hm : mLeave (s.xs.map CSession.abs) n t = ((s.xs.map CSession.abs).take (mIdx (fun x : DSession => decide (x.client = t)) (s.xs.map CSession.abs)).toNat ++ (s.xs.map CSession.abs).drop ((mIdx (fun x : DSession => decide (x.client = t)) (s.xs.map CSession.abs)).toNat + 1), zRep, 0) := by grind [mLeave]
 refine ⟨⟨y1.A, y1.c, y1.xs.take (((mBS (fun x : CSession => IntKind.i64.wrap (x.client - t)) y1.xs : Nat) : Int)).toNat ++ y1.xs.drop ((((mBS (fun x : CSession => IntKind.i64.wrap (x.client - t)) y1.xs : Nat) : Int)).toNat + 1)⟩, ?_, ?_, hS.outS (y := (⟨y1.A, y1.c, y1.xs.take (((mBS (fun x : CSession => IntKind.i64.wrap (x.client - t)) y1.xs : Nat) : Int)).toNat ++ y1.xs.drop ((((mBS (fun x : CSession => IntKind.i64.wrap (x.client - t)) y1.xs : Nat) : Int)).toNat + 1)⟩ : Sl CSession)) (out_sess (L0 := y1.xs) i0 i1 hS.res (fun x hx => ?_) hnm1)⟩
 · rw [hm]; rfl
 · rw [hm, ← hb2, Int.toNat_natCast, ← hF1]; simp [List.map_append, List.map_take, List.map_drop]
 · simp only [List.nil_append, List.mem_append] at hx; rcases hx with hx | hx
   · exact List.mem_of_mem_take hx
   · exact List.mem_of_mem_drop hx
theorem lock_pass {B : Nat → Prop} (A : Option Addr) (c : Nat) (L : List CLock) (k : Nat) (w : World) (hrow : (rowA 129 A c L).p w) (hlt : ∀ b, b ∈ (rowA 129 A c L).fp → b < w.heap.size) (hk : k < L.length) (hx : Rds.sub B w (L.getD k default)) (hB : ∀ b, B b → b ∉ (rowA 129 A c L).fp) (hf : 1 ≤ (L.getD k default).fence ∧ (L.getD k default).fence ≤ 1073741824) : Calls Tryz.prog 88 #[.pointer (some ((oad A).add (k * 4)))] w fun e w' => ∃ _ : Unit, e = .returned (.tuple #[]) ∧ True ∧ Turned (rowA 129 A c L) w w' (rowA 129 A c (L.set k (passC (L.getD k default)))) := by
 have hrok := rowA_rok hrow
 have nc := hrok.2
 have okx := Rds.okof hx
 have ncx := Sl.ok.nc okx.2
 have hnx : (L.getD k default).line.n = (L.getD k default).line.xs.length := rfl
 have hst : ∀ w', Kp (rowA 129 A c L).fp w w' → Rds.sub B w' (L.getD k default) := fun w' hk => Rds.stay (fun b hb hlt => hk.block b hlt (hB b hb)) hx
 refine Mj ?_ Tryz.func88 (WS.start1 w _ hrow (by cases A <;> simp [rowA, rowR]) hlt)
 refine Ms k 1 (⟨(L.getD k default).name, 0, (L.getD k default).fence, (L.getD k default).line⟩ : CLock) ?_ (by omega)
 intro L1 hL1 hlL1
 have hgL1 : L1.getD k default = (⟨(L.getD k default).name, 0, (L.getD k default).fence, (L.getD k default).line⟩ : CLock) := by rw [hL1]; exact getD_set (by omega)
 have hbL1 : L1 = List.set L k (⟨(L.getD k default).name, 0, (L.getD k default).fence, (L.getD k default).line⟩ : CLock) := by rw [hL1]
 refine Mi ?_ (pFk 8 k 3 1 hgL1 i0)
 refine Md ((0 : Int) < (((L.getD k default).line.n : Nat) : Int)) (fun h1 => ?_) fun h1 => ?_
 rotate_left
 · refine Ms k 3 (⟨(L.getD k default).name, 0, (L.getD k default).fence, Sl.nil⟩ : CLock) ?_ (by omega) (hg := hgL1)
   intro L6 hL6 hlL6
   have hgL6 : L6.getD k default = (⟨(L.getD k default).name, 0, (L.getD k default).fence, Sl.nil⟩ : CLock) := by rw [hL6]; exact getD_set (by omega)
   have hbL6 : L6 = List.set L k (⟨(L.getD k default).name, 0, (L.getD k default).fence, Sl.nil⟩ : CLock) := by rw [hL6, hbL1, List.set_set]
   refine Mt [] fun bs w hS => ?_
   have hp : passC (L.getD k default) = (⟨(L.getD k default).name, 0, (L.getD k default).fence, Sl.nil⟩ : CLock) := by grind [passC]
   have hL : L6 = L.set k (passC (L.getD k default)) := by rw [hp]; exact hbL6
   subst hL
   exact ⟨(), rfl, trivial, hS.turned⟩
 refine Mi ?_ (pFk 15 k 2 1 hgL1 i0)
 refine Md ((L.getD k default).fence < 1073741824) (fun h2 => ?_) fun h2 => ?_
 rotate_left
 · refine Ms k 3 (⟨(L.getD k default).name, 0, (L.getD k default).fence, Sl.nil⟩ : CLock) ?_ (by omega) (hg := hgL1)
   intro L5 hL5 hlL5
   have hgL5 : L5.getD k default = (⟨(L.getD k default).name, 0, (L.getD k default).fence, Sl.nil⟩ : CLock) := by rw [hL5]; exact getD_set (by omega)
   have hbL5 : L5 = List.set L k (⟨(L.getD k default).name, 0, (L.getD k default).fence, Sl.nil⟩ : CLock) := by rw [hL5, hbL1, List.set_set]
   refine Mt [] fun bs w hS => ?_
   have hp : passC (L.getD k default) = (⟨(L.getD k default).name, 0, (L.getD k default).fence, Sl.nil⟩ : CLock) := by grind [passC]
   have hL : L5 = L.set k (passC (L.getD k default)) := by rw [hp]; exact hbL5
   subst hL
   exact ⟨(), rfl, trivial, hS.turned⟩
 refine Mda 27 [21] [] [rowA 129 A c (L1 : List CLock)] Tryz_mixed ?_
 refine Mih ?_ (pc (pFk 24 k 3 1 hgL1 i0) (pc (pA 25 26 0 0 (s := (L.getD k default).line) (fun w hk hr => (hst _ hk).2)) (pc (pFk 30 k 2 1 hgL1 i0) (pc (pR ((L.getD k default).fence + 1)) (pc (pFk 35 k 3 1 hgL1 i0) (pG [(36, .sl 1 (L.getD k default).line.n)] (oc (rfl : (1 : Int) = ((1 : Nat) : Int)) (oc (rfl : (L.getD k default).line.n = (L.getD k default).line.n) (oc ((by omega) : 1 ≤ (L.getD k default).line.n) on)))))))))
 refine MsX [] k 1 (⟨(L.getD k default).name, ((L.getD k default).line.at 0), (L.getD k default).fence, (L.getD k default).line⟩ : CLock) ?_ (by omega) (hg := hgL1)
 intro L2 hL2 hlL2
 have hgL2 : L2.getD k default = (⟨(L.getD k default).name, ((L.getD k default).line.at 0), (L.getD k default).fence, (L.getD k default).line⟩ : CLock) := by rw [hL2]; exact getD_set (by omega)
 have hbL2 : L2 = List.set L k (⟨(L.getD k default).name, ((L.getD k default).line.at 0), (L.getD k default).fence, (L.getD k default).line⟩ : CLock) := by rw [hL2, hbL1, List.set_set]
 refine Ms k 2 (⟨(L.getD k default).name, ((L.getD k default).line.at 0), (L.getD k default).fence + 1, (L.getD k default).line⟩ : CLock) ?_ (by omega) (hg := hgL2)
 intro L3 hL3 hlL3
 have hgL3 : L3.getD k default = (⟨(L.getD k default).name, ((L.getD k default).line.at 0), (L.getD k default).fence + 1, (L.getD k default).line⟩ : CLock) := by rw [hL3]; exact getD_set (by omega)
 have hbL3 : L3 = List.set L k (⟨(L.getD k default).name, ((L.getD k default).line.at 0), (L.getD k default).fence + 1, (L.getD k default).line⟩ : CLock) := by rw [hL3, hbL2, List.set_set]
 refine Ms k 3 (⟨(L.getD k default).name, ((L.getD k default).line.at 0), (L.getD k default).fence + 1, ⟨offA (L.getD k default).line.A (L.getD k default).line.c 1 1, (L.getD k default).line.c - 1, (L.getD k default).line.xs.drop 1⟩⟩ : CLock) ?_ (by omega) (hg := hgL3) (hcell := (Eq.trans (by kernel_rfl) (congrArg (fun q => [Value.string (L.getD k default).name, vi ((L.getD k default).line.at 0), vi ((L.getD k default).fence + 1), .slice (offA (L.getD k default).line.A (L.getD k default).line.c 1 1) q ((L.getD k default).line.c - 1)]) (List.length_drop ..).symm)))
 intro L4 hL4 hlL4
 have hgL4 : L4.getD k default = (⟨(L.getD k default).name, ((L.getD k default).line.at 0), (L.getD k default).fence + 1, ⟨offA (L.getD k default).line.A (L.getD k default).line.c 1 1, (L.getD k default).line.c - 1, (L.getD k default).line.xs.drop 1⟩⟩ : CLock) := by rw [hL4]; exact getD_set (by omega)
 have hbL4 : L4 = List.set L k (⟨(L.getD k default).name, ((L.getD k default).line.at 0), (L.getD k default).fence + 1, ⟨offA (L.getD k default).line.A (L.getD k default).line.c 1 1, (L.getD k default).line.c - 1, (L.getD k default).line.xs.drop 1⟩⟩ : CLock) := by rw [hL4, hbL3, List.set_set]
 refine Mt [] fun bs w hS => ?_
 have hp : passC (L.getD k default) = (⟨(L.getD k default).name, ((L.getD k default).line.at 0), (L.getD k default).fence + 1, ⟨offA (L.getD k default).line.A (L.getD k default).line.c 1 1, (L.getD k default).line.c - 1, (L.getD k default).line.xs.drop 1⟩⟩ : CLock) := by grind [passC]
 have hL : L4 = L.set k (passC (L.getD k default)) := by rw [hp]; exact hbL4
 subst hL
 exact ⟨(), rfl, trivial, hS.turned⟩
theorem delR_Int (A : Option Addr) (c : Nat) (L : List Int) (i j : Nat) (ii jj : Int) (w : World) (hrow : (rowA 3 A c L).p w) (hlt : ∀ b, b ∈ (rowA 3 A c L).fp → b < w.heap.size) (ei : ii = (i : Int)) (ej : jj = (j : Int)) (hij : i ≤ j) (hj : j ≤ L.length) :
    Calls Tryz.prog 87 #[.slice A L.length c, vi ii, vi jj] w fun e w' => e = .returned (.slice A (L.take i ++ L.drop j).length c) ∧ Turned (rowA 3 A c L) w w' (rowA 3 A c (L.take i ++ L.drop j)) := by
 subst ei ej
 have hrok := rowA_rok hrow
 have nc := hrok.2
 refine Mj ?_ Tryz.func87 (WS.start1 w _ hrow (by cases A <;> simp [rowA, rowR]) hlt)
 refine Ms3 (e := 3) (A := A) (n := L.length) (il := (i : Int)) (ih := (j : Int)) (im := (L.length : Int)) (c := c) i j L.length ?_ rfl rfl rfl (by omega) (by omega) (by omega)
 refine Md ((i : Int) = (j : Int)) (fun h1 => ?_) fun h1 => ?_
 · refine Mt [.slice A L.length c] fun bs w hS => ?_
   have hij2 : i = j := by omega
   subst hij2
   rw [List.take_append_drop]
   exact ⟨rfl, hS.turned⟩
 refine Mdr 6 ?_ Tryz_mixed
 refine Mih ?_ (pc (pG [(22, .sl 0 i)] (oc (rfl : 0 = 0) (oc (rfl : (i : Int) = (i : Int)) (oc ((by omega) : i ≤ c) on)))) (pG [(25, .sl j L.length)] (oc (rfl : (j : Int) = (j : Int)) (oc (rfl : L.length = L.length) (oc ((by omega) : j ≤ L.length) on)))))
 refine Mz ?_
 refine Mad 8 i j ?_ hij hj
 refine Mi ?_ (pG [(31, .sl (i + (L.length - j)) L.length)] (oc (rfl : ((i + (L.length - j) : Nat) : Int) = (((i + (L.length - j)) : Nat) : Int)) (oc (rfl : (L.length : Int) = (L.length : Int)) (oc ((by omega) : (i + (L.length - j)) ≤ L.length) (oc ((by omega) : L.length ≤ c) on)))))
 refine Mcl (i + (L.length - j)) (L.length - (i + (L.length - j))) ?_ (by simp only [List.length_append, List.length_take, List.length_drop]; omega) (by omega)
 refine Mt [.slice A (i + (L.length - j)) c] fun bs w hS => ?_
 have hlen : (L.take i ++ L.drop j).length = i + (L.length - j) := by simp only [List.length_append, List.length_take, List.length_drop]; omega
 have hS2 := hS
 rw [← hlen, List.take_length] at hS2
 refine ⟨?_, hS2.turned⟩
 rw [hlen]
 rfl
theorem lock_Gone {B : Nat → Prop} (s : Sl CLock) (who : Int) (w : World) (hs : s.rd B w) : Calls Tryz.prog 62 #[s.val, vi who] w fun e w' => ∃ y : Sl CLock, e = .returned (.tuple #[y.val, vi (mGone (s.xs.map CLock.abs) who).2]) ∧ y.xs.map CLock.abs = (mGone (s.xs.map CLock.abs) who).1 ∧ FreshS w w' y := by
 have oks := Sl.rd.ok hs
 have ncs := Sl.ok.nc oks
 have hns : s.n = s.xs.length := rfl
 refine M0 ?_ Tryz.func62
 refine Mp ?_ Tryz.call56 (fun bs w hS => lock_Check s w (Sl.rd.kp hs hS.kp))
 refine Mdn (mLocks (s.xs.map CLock.abs) = 0) (fun h1 => ?_) fun h1 => ?_
 rotate_left
 · exact Me2 (gone_bad (who := who) h1) Sl.nil rfl fun bs w hS => hS.outS (Sl.rd_nil _ _)
 refine Mp ?_ Tryz.call83 (fun bs w hS => lock_client who w)
 refine Mbn (inB who 1 9) (fun h2 => ?_) fun h2 => ?_
 rotate_left
 · simp only [iT, iF] at h2
   exact Me2 (gone_who (who := who) h1 (by simp only [iT, iF] at *; omega)) Sl.nil rfl fun bs w hS => hS.outS (Sl.rd_nil _ _)
 simp only [iT, iF] at h2
 refine Mf ?_ Tryz.call58 (fun bs w hS => lock_Copy s w (Sl.rd.kp hs hS.kp) (small_locks (by assumption)))
 rintro y1 hF1
 refine m_split2 ?_
 obtain ⟨A1, c1, S1⟩ := y1
 have hF1 : S1.map CLock.abs = s.xs.map CLock.abs := hF1
 refine m_perm (R' := [ownL (lineR 3) S1, rowA 129 A1 c1 (S1 : List CLock)]) (List.Perm.refl _) ?_
 have hnm1 := locks_names (y := (⟨A1, c1, S1⟩ : Sl CLock)) (hs) hF1
 have hlen1 : S1.length = s.xs.length := by simpa using congrArg List.length hF1
 refine m_know (F := ∀ i, i < S1.length → Rds.ok (S1.getD i default)) (fun bs w hS i hi => Rds.okof (B := anyB) (w := w) (own_eltL (hS.res _ i0) hnm1 (mem_of_getD hi))) fun okown1 => ?_
 refine m_know (F := RowOk A1 c1 (S1 : List CLock)) (fun bs w hS => rowA_rok (hS.res _ i1)) fun hrow1 => ?_
 have nchrow1 := hrow1.2
 have hm1 : mLocks (S1.map CLock.abs) = 0 := by rw [hF1]; assumption
 have hln5 : S1.length ≤ 5 := by have h9 := (mLocks_bd hm1).1; simpa using h9
 refine m_nores (goneR [] (S1.take 0)) rfl (fun w x hx => by cases hx) ?_
 refine Ml (σ := Nat × List CLock × List Nat) (fun ⟨k, L, fp⟩ => GoneI who S1 k L) (fun ⟨k, L, fp⟩ => S1.length - k) (fun ⟨k, L, fp⟩ => [goneR fp (L.take k), ownL (lineR 3) (S1.drop k), rowA 129 A1 c1 (L : List CLock)]) [22, 21, 0, 1] (fun ⟨k, L, fp⟩ => [(22, vI (k : Int))]) (fun _ => []) ?_ (⟨0, S1, []⟩) (GoneI.start hnm1)
 rintro ⟨k, L, fp⟩ hI _ on1
 have hIl := hI.len
 have hIk := hI.le
 refine Md ((k : Int) < (S1.length : Int)) (fun h3 => ?_) fun h3 => ?_
 rotate_left
 · refine Mt [.slice A1 S1.length c1, vi 0] fun bs w hS => ?_
   clear on1
   have hm := gone_ok (who := who) h1 (by simp only [iT, iF] at *; omega)
   refine ⟨⟨A1, c1, L⟩, ?_, ?_, hS.outS (y := (⟨A1, c1, L⟩ : Sl CLock)) (gone_out hI (by omega) i2 i0 hS.res)⟩
   · rw [hm]; exact congrArg (fun q => Ending.returned (.tuple #[.slice A1 q c1, vi 0])) hI.len.symm
   · rw [hm, ← hF1]; exact hI.fin (by omega)
 have hD : (L.getD k default) = S1.getD k default := hI.rest k (Nat.le_refl _)
 have hkL : k < L.length := by omega
 have hk5 := lock_all hm1 (k := k) (by omega)
 rw [← hD] at hk5
 obtain ⟨hk51, hk52, hk53, hk54, hk55, hk56⟩ := hk5
 have hk7 : (L.getD k default).line.n = (L.getD k default).line.xs.length := rfl
 have okD := okown1 k (by omega)
 rw [← hD] at okD
 have ncD := Sl.ok.nc okD.2
 refine m_f1 ?_
 refine m_part2 (rowA 3 (L.getD k default).line.A (L.getD k default).line.c ((L.getD k default).line.xs : List Int)) (ownL (lineR 3) (S1.drop (k + 1))) (own_uncons_fp (lineR 3) (i := k) (by omega) hD) (own_uncons_p (lineR 3) (i := k) (by omega) hD) ?_
 refine Mi ?_ (pc (pIo 27 (k : Int) k S1.length i3) (pFo 31 k 3 1 i3))
 refine Mp ?_ Tryz.call86 (fun bs w hS => idx_ints (L.getD k default).line (L.getD k default).line.n who w (And.right ⟨hI.names _ (mem_of_getD hkL), Rr (B := anyB) (hS.res _ i0) (fun _ _ => trivial) (fun _ _ => trivial)⟩) (by omega))
 have hix : mIdx (fun z => decide (z = who)) ((L.getD k default).line.xs.take (L.getD k default).line.n) = mIdx (fun z => decide (z = who)) (L.getD k default).line.xs := by rw [take_all (Nat.le_refl _)]
 rw [hix]
 have hIb := mIdx_bd (fun z => decide (z = who)) (L.getD k default).line.xs
 generalize hIx : mIdx (fun z => decide (z = who)) (L.getD k default).line.xs = I at hIb ⊢
 refine Md ((0 : Int) ≤ I) (fun h4 => ?_) fun h4 => ?_
 rotate_left
 · refine Mi ?_ (pFo 50 k 1 1 i3)
   refine Md ((L.getD k default).holder = who) (fun h6 => ?_) fun h6 => ?_
   rotate_left
   · refine Mi ?_ (pR ((k : Int) + 1))
     have hul : (L.getD k default).line.xs = unline (L.getD k default).line.xs who := (line_none (by rw [hIx]; omega)).symm
     have hga : ((L.getD k default)).abs = goneF who (L.getD k default).abs := gone_keep (D := (L.getD k default)) (x := (L.getD k default)) rfl rfl rfl hul h6
     have hgn : ((L.getD k default)).name = (L.getD k default).name := rfl
     refine m_f2 ?_
     refine m_f1 ?_
     refine m_join (goneR (fp ++ (rowA 3 (L.getD k default).line.A (L.getD k default).line.c ((L.getD k default).line.xs : List Int)).fp) (List.take (k + 1) L)) List.perm_append_comm (fun w h1 h2 => goneR_step hkL (set_getD hkL).symm (Rr (A := (L.getD k default).line.A) (c := (L.getD k default).line.c) (L := (L.getD k default).line.xs) h1 (fun b hb => hb) (fun _ _ => trivial)) h2) ?_
     refine m_f2 (m_f2 (m_f2 ?_))
     exact on1 ⟨k + 1, L, fp ++ (rowA 3 (L.getD k default).line.A (L.getD k default).line.c ((L.getD k default).line.xs : List Int)).fp⟩ (GoneI.step hI (by omega) (set_getD hkL).symm hga hgn) (by show S1.length - (k + 1) < S1.length - k; omega)
   refine m_f3 ?_
   refine Mtu ?_ Tryz.call88 (fun bs w hS => lock_pass (B := (· ∈ (rowA 3 (L.getD k default).line.A (L.getD k default).line.c ((L.getD k default).line.xs : List Int)).fp)) A1 c1 L k w (hS.res _ i0) hS.head1.2.2 (by omega) ⟨(show (L.getD k default).name.size ≤ 9223372036854775807 from hI.names _ (mem_of_getD hkL)), Rr (hS.res _ i1) (fun b hb => hb) (fun _ _ => trivial)⟩ (fun b hb => hS.disj (r2 := rowA 3 (L.getD k default).line.A (L.getD k default).line.c ((L.getD k default).line.xs : List Int)) i0 b hb) ⟨hk54, hk55⟩)
   rintro _ _
   obtain ⟨L8, hL8⟩ : ∃ M : List CLock, M = L.set k (passC (L.getD k default)) := ⟨_, rfl⟩
   rw [← hL8]
   have hlL8 : L8.length = L.length := by rw [hL8, List.length_set]
   have hgL8 : L8.getD k default = passC (L.getD k default) := by rw [hL8]; exact getD_set (by omega)
   have hbL8 : L8 = List.set L k (passC (L.getD k default)) := by rw [hL8]
   refine Mi ?_ (pR ((k : Int) + 1))
   have hul : (L.getD k default).line.xs = unline (L.getD k default).line.xs who := (line_none (by rw [hIx]; omega)).symm
   have hga : ((passC (L.getD k default))).abs = goneF who (L.getD k default).abs := gone_pass (D := (L.getD k default)) (x := (L.getD k default)) (passC_abs _) rfl rfl rfl hul h6
   have hgn : ((passC (L.getD k default))).name = (L.getD k default).name := passC_name _
   refine m_f3 ?_
   refine m_f2 ?_
   refine m_join (goneR (fp ++ (rowA 3 (L.getD k default).line.A (L.getD k default).line.c ((L.getD k default).line.xs : List Int)).fp) (List.take (k + 1) L8)) List.perm_append_comm (fun w h1 h2 => goneR_step hkL hbL8 (passC_rd (x := (L.getD k default)) (Rr (A := (L.getD k default).line.A) (c := (L.getD k default).line.c) (L := (L.getD k default).line.xs) h1 (fun b hb => hb) (fun _ _ => trivial))) h2) ?_
   refine m_f1 (m_f2 (m_f2 ?_))
   exact on1 ⟨k + 1, L8, fp ++ (rowA 3 (L.getD k default).line.A (L.getD k default).line.c ((L.getD k default).line.xs : List Int)).fp⟩ (GoneI.step hI (by omega) hbL8 hga hgn) (by show S1.length - (k + 1) < S1.length - k; omega)
 refine Mi ?_ (pc (pFo 40 k 3 1 i3) (pR (I + 1)))
 refine Mtu ?_ (σ := Unit) (v := fun _ => .slice (L.getD k default).line.A ((L.getD k default).line.xs.take I.toNat ++ (L.getD k default).line.xs.drop (I.toNat + 1)).length (L.getD k default).line.c) (F := fun _ => True) (r := fun _ => rowA 3 (L.getD k default).line.A (L.getD k default).line.c ((L.getD k default).line.xs.take I.toNat ++ (L.getD k default).line.xs.drop (I.toNat + 1) : List Int)) (vs := fun bs => [.slice (L.getD k default).line.A (L.getD k default).line.n (L.getD k default).line.c, vi I, vi (I + 1)]) Tryz.call87 (fun bs w hS => (delR_Int (L.getD k default).line.A (L.getD k default).line.c (L.getD k default).line.xs I.toNat (I.toNat + 1) _ _ w (hS.res _ i0) hS.head1.2.2 (by omega) (by omega) (by first | omega | (simp only [Sl.n] at *; omega)) (by first | omega | (simp only [Sl.n] at *; omega))).mono (fun e w' ⟨h1, h2⟩ => ⟨(), h1, trivial, h2⟩))
 rintro _ _
 refine m_f3 ?_
 refine Ms k 3 (⟨(L.getD k default).name, (L.getD k default).holder, (L.getD k default).fence, ⟨(L.getD k default).line.A, (L.getD k default).line.c, (L.getD k default).line.xs.take I.toNat ++ (L.getD k default).line.xs.drop (I.toNat + 1)⟩⟩ : CLock) ?_ (by omega)
 intro L4 hL4 hlL4
 have hgL4 : L4.getD k default = (⟨(L.getD k default).name, (L.getD k default).holder, (L.getD k default).fence, ⟨(L.getD k default).line.A, (L.getD k default).line.c, (L.getD k default).line.xs.take I.toNat ++ (L.getD k default).line.xs.drop (I.toNat + 1)⟩⟩ : CLock) := by rw [hL4]; exact getD_set (by omega)
 have hbL4 : L4 = List.set L k (⟨(L.getD k default).name, (L.getD k default).holder, (L.getD k default).fence, ⟨(L.getD k default).line.A, (L.getD k default).line.c, (L.getD k default).line.xs.take I.toNat ++ (L.getD k default).line.xs.drop (I.toNat + 1)⟩⟩ : CLock) := by rw [hL4]
 refine Mi ?_ (pFk 50 k 1 1 hgL4 i0)
 refine Md ((L.getD k default).holder = who) (fun h5 => ?_) fun h5 => ?_
 rotate_left
 · refine Mi ?_ (pR ((k : Int) + 1))
   have hul : (L.getD k default).line.xs.take I.toNat ++ (L.getD k default).line.xs.drop (I.toNat + 1) = unline (L.getD k default).line.xs who := line_one' (d := (L.getD k default).abs) hk53 (i := I.toNat) (by show mIdx _ (L.getD k default).line.xs = _; rw [hIx]; omega) rfl
   have hga : ((⟨(L.getD k default).name, (L.getD k default).holder, (L.getD k default).fence, ⟨(L.getD k default).line.A, (L.getD k default).line.c, (L.getD k default).line.xs.take I.toNat ++ (L.getD k default).line.xs.drop (I.toNat + 1)⟩⟩ : CLock)).abs = goneF who (L.getD k default).abs := gone_keep (D := (L.getD k default)) (x := (⟨(L.getD k default).name, (L.getD k default).holder, (L.getD k default).fence, ⟨(L.getD k default).line.A, (L.getD k default).line.c, (L.getD k default).line.xs.take I.toNat ++ (L.getD k default).line.xs.drop (I.toNat + 1)⟩⟩ : CLock)) rfl rfl rfl hul h5
   have hgn : ((⟨(L.getD k default).name, (L.getD k default).holder, (L.getD k default).fence, ⟨(L.getD k default).line.A, (L.getD k default).line.c, (L.getD k default).line.xs.take I.toNat ++ (L.getD k default).line.xs.drop (I.toNat + 1)⟩⟩ : CLock)).name = (L.getD k default).name := rfl
   refine m_f3 ?_
   refine m_f2 ?_
   refine m_join (goneR (fp ++ (rowA 3 (L.getD k default).line.A (L.getD k default).line.c ((L.getD k default).line.xs.take I.toNat ++ (L.getD k default).line.xs.drop (I.toNat + 1) : List Int)).fp) (List.take (k + 1) L4)) List.perm_append_comm (fun w h1 h2 => goneR_step hkL hbL4 (Rr (A := (L.getD k default).line.A) (c := (L.getD k default).line.c) (L := (L.getD k default).line.xs.take I.toNat ++ (L.getD k default).line.xs.drop (I.toNat + 1)) h1 (fun b hb => hb) (fun _ _ => trivial)) h2) ?_
   refine m_f1 (m_f2 (m_f2 ?_))
   exact on1 ⟨k + 1, L4, fp ++ (rowA 3 (L.getD k default).line.A (L.getD k default).line.c ((L.getD k default).line.xs.take I.toNat ++ (L.getD k default).line.xs.drop (I.toNat + 1) : List Int)).fp⟩ (GoneI.step hI (by omega) hbL4 hga hgn) (by show S1.length - (k + 1) < S1.length - k; omega)
 refine Mtu ?_ Tryz.call88 (fun bs w hS => lock_pass (B := (· ∈ (rowA 3 (L.getD k default).line.A (L.getD k default).line.c ((L.getD k default).line.xs.take I.toNat ++ (L.getD k default).line.xs.drop (I.toNat + 1) : List Int)).fp)) A1 c1 L4 k w (hS.res _ i0) hS.head1.2.2 (by omega) (by rw [hgL4]; exact ⟨(show (L.getD k default).name.size ≤ 9223372036854775807 from hI.names _ (mem_of_getD hkL)), Rr (hS.res _ i1) (fun b hb => hb) (fun _ _ => trivial)⟩) (fun b hb => hS.disj (r2 := rowA 3 (L.getD k default).line.A (L.getD k default).line.c ((L.getD k default).line.xs.take I.toNat ++ (L.getD k default).line.xs.drop (I.toNat + 1) : List Int)) i0 b hb) (by rw [hgL4]; exact ⟨hk54, hk55⟩))
 rintro _ _
 obtain ⟨L6, hL6⟩ : ∃ M : List CLock, M = L4.set k (passC (L4.getD k default)) := ⟨_, rfl⟩
 rw [← hL6]
 have hlL6 : L6.length = L4.length := by rw [hL6, List.length_set]
 have hgL6 : L6.getD k default = passC (⟨(L.getD k default).name, (L.getD k default).holder, (L.getD k default).fence, ⟨(L.getD k default).line.A, (L.getD k default).line.c, (L.getD k default).line.xs.take I.toNat ++ (L.getD k default).line.xs.drop (I.toNat + 1)⟩⟩ : CLock) := by rw [hL6, hgL4]; exact getD_set (by omega)
 have hbL6 : L6 = List.set L k (passC (⟨(L.getD k default).name, (L.getD k default).holder, (L.getD k default).fence, ⟨(L.getD k default).line.A, (L.getD k default).line.c, (L.getD k default).line.xs.take I.toNat ++ (L.getD k default).line.xs.drop (I.toNat + 1)⟩⟩ : CLock)) := by rw [hL6, hgL4, hbL4, List.set_set]
 refine Mi ?_ (pR ((k : Int) + 1))
 have hul : (L.getD k default).line.xs.take I.toNat ++ (L.getD k default).line.xs.drop (I.toNat + 1) = unline (L.getD k default).line.xs who := line_one' (d := (L.getD k default).abs) hk53 (i := I.toNat) (by show mIdx _ (L.getD k default).line.xs = _; rw [hIx]; omega) rfl
 have hga : ((passC (⟨(L.getD k default).name, (L.getD k default).holder, (L.getD k default).fence, ⟨(L.getD k default).line.A, (L.getD k default).line.c, (L.getD k default).line.xs.take I.toNat ++ (L.getD k default).line.xs.drop (I.toNat + 1)⟩⟩ : CLock))).abs = goneF who (L.getD k default).abs := gone_pass (D := (L.getD k default)) (x := (⟨(L.getD k default).name, (L.getD k default).holder, (L.getD k default).fence, ⟨(L.getD k default).line.A, (L.getD k default).line.c, (L.getD k default).line.xs.take I.toNat ++ (L.getD k default).line.xs.drop (I.toNat + 1)⟩⟩ : CLock)) (passC_abs _) rfl rfl rfl hul h5
 have hgn : ((passC (⟨(L.getD k default).name, (L.getD k default).holder, (L.getD k default).fence, ⟨(L.getD k default).line.A, (L.getD k default).line.c, (L.getD k default).line.xs.take I.toNat ++ (L.getD k default).line.xs.drop (I.toNat + 1)⟩⟩ : CLock))).name = (L.getD k default).name := passC_name _
 refine m_f3 ?_
 refine m_f2 ?_
 refine m_join (goneR (fp ++ (rowA 3 (L.getD k default).line.A (L.getD k default).line.c ((L.getD k default).line.xs.take I.toNat ++ (L.getD k default).line.xs.drop (I.toNat + 1) : List Int)).fp) (List.take (k + 1) L6)) List.perm_append_comm (fun w h1 h2 => goneR_step hkL hbL6 (passC_rd (x := (⟨(L.getD k default).name, (L.getD k default).holder, (L.getD k default).fence, ⟨(L.getD k default).line.A, (L.getD k default).line.c, (L.getD k default).line.xs.take I.toNat ++ (L.getD k default).line.xs.drop (I.toNat + 1)⟩⟩ : CLock)) (Rr (A := (L.getD k default).line.A) (c := (L.getD k default).line.c) (L := (L.getD k default).line.xs.take I.toNat ++ (L.getD k default).line.xs.drop (I.toNat + 1)) h1 (fun b hb => hb) (fun _ _ => trivial))) h2) ?_
 refine m_f1 (m_f2 (m_f2 ?_))
 exact on1 ⟨k + 1, L6, fp ++ (rowA 3 (L.getD k default).line.A (L.getD k default).line.c ((L.getD k default).line.xs.take I.toNat ++ (L.getD k default).line.xs.drop (I.toNat + 1) : List Int)).fp⟩ (GoneI.step hI (by omega) hbL6 hga hgn) (by show S1.length - (k + 1) < S1.length - k; omega)
theorem idxF_Kept {B : Nat → Prop} (s : Sl (Fl DKept)) (p : Fl DKept → Bool) (kf : Nat) (caps : Array Value) (w : World) (hs : s.rd B w) (hcall : ∀ args w, (callFunc kf args).run Tryz.prog w = .ok (.enter kf args) w)
    (hf : ∀ (w' : World) (x : (Fl DKept)), x ∈ s.xs → Kp [] w w' → Calls Tryz.prog kf (#[x.v.val] ++ caps) w' fun e w'' => e = .returned (vb (p x)) ∧ Kp [] w' w'') : Calls Tryz.prog 29 #[.slice s.A s.n s.c, .func (.func kf) #[] caps] w fun e w' => e = .returned (vi (mIdx p s.xs)) ∧ Kp [] w w' := by
 have oks := Sl.rd.ok hs
 have ncs := Sl.ok.nc oks
 have hns : s.n = s.xs.length := rfl
 refine M0 ?_ Tryz.func29
 refine Ml (σ := Nat) (fun i => i ≤ s.n ∧ ∀ j, j < i → p (s.at j) = false) (fun i => s.n - i) (fun _ => []) [8, 7, 0, 1] (fun i => [(8, vI (i : Int))]) (fun _ => []) ?_ 0 ⟨Nat.zero_le _, fun j hj => absurd hj (Nat.not_lt_zero _)⟩
 rintro i ⟨hi, hI⟩ _ on1
 refine Md ((i : Int) < (s.n : Int)) (fun h1 => ?_) (fun h1 => ?_)
 rotate_left
 · refine Mt [.int .i64 (-1)] fun bs w hS => ?_
   refine ⟨?_, hS.kp⟩
   rw [mIdx_none fun j hj => hI j (by omega)]
   rfl
 refine Mi ?_ (pA 14 15 (i : Int) i (rdk hs))
 refine Mv ?_ hcall (fun bs w hS => hf w (s.at i) (List.mem_of_getElem? (Sl.at_some (show i < s.n by omega))) hS.kp)
 refine Mb (p (s.at i)) (fun h2 => ?_) (fun h2 => ?_)
 · refine Mt [.int .i64 (i : Int)] fun bs w hS => ?_
   refine ⟨?_, hS.kp⟩
   rw [mIdx_here (i := i) (by omega) (by assumption) hI]
   rfl
 refine Mi ?_ (pR ((i : Int) + 1))
 exact on1 (i + 1) ⟨by omega, fun j hj => by rcases Nat.lt_succ_iff_lt_or_eq.1 hj with h | h; exact hI j h; subst h; assumption⟩ (by omega)
theorem idx_Kept {B : Nat → Prop} (s : Sl DKept) (p : DKept → Bool) (kf : Nat) (caps : Array Value) (w : World) (hs : s.rd B w) (hcall : ∀ args w, (callFunc kf args).run Tryz.prog w = .ok (.enter kf args) w)
    (hf : ∀ (w' : World) (x : DKept), x ∈ s.xs → Kp [] w w' → Calls Tryz.prog kf (#[x.val] ++ caps) w' fun e w'' => e = .returned (vb (p x)) ∧ Kp [] w' w'') : Calls Tryz.prog 29 #[s.val, .func (.func kf) #[] caps] w fun e w' => e = .returned (vi (mIdx p s.xs)) ∧ Kp [] w w' := by
  have h := idxF_Kept (⟨s.A, s.c, fls s.xs⟩ : Sl (Fl DKept)) (fun x => p x.v) kf caps w hs.fl hcall (fun w' x hx hk => hf w' x.v (by obtain ⟨y, hy, rfl⟩ := List.mem_map.1 hx; exact hy) hk)
  simp only [mIdx_fl, Sl.n, List.length_map] at h
  exact h
theorem delF_Kept (A : Option Addr) (c : Nat) (L : List (Fl DKept)) (p : Fl DKept → Bool) (kf : Nat) (caps : Array Value) (w : World) (hrow : (rowA 95 A c L).p w) (hlt : ∀ b, b ∈ (rowA 95 A c L).fp → b < w.heap.size) (hn : L.length ≤ 1048576) (hcall : ∀ args w, (callFunc kf args).run Tryz.prog w = .ok (.enter kf args) w)
    (hf : ∀ (w' : World) (x : (Fl DKept)), x ∈ L → Kp (rowA 95 A c L).fp w w' → Calls Tryz.prog kf (#[x.v.val] ++ caps) w' fun e w'' => e = .returned (vb (p x)) ∧ Kp [] w' w'') :
    Calls Tryz.prog 27 #[.slice A L.length c, .func (.func kf) #[] caps] w fun e w' => e = .returned (.slice A (L.filter fun x => !p x).length c) ∧ Turned (rowA 95 A c L) w w' (rowA 95 A c (L.filter fun x => !p x)) := by
 have hrok := rowA_rok hrow
 have nc := hrok.2
 refine Mj ?_ Tryz.func27 (WS.start1 w _ hrow (by cases A <;> simp [rowA, rowR]) hlt)
 refine Mp ?_ Tryz.call29 (fun bs w hS => idxF_Kept (⟨A, c, L⟩ : Sl (Fl DKept)) p kf caps w (Rr (B := anyB) (hS.res _ i0) (fun _ _ => trivial) (fun _ _ => trivial)) hcall (fun w' x hx hk => hf w' x hx (hS.kp.step hk (fun i hi => by cases hi))))
 refine Md (mIdx p L = (-1)) (fun h1 => ?_) fun h1 => ?_
 · refine Mt [.slice A L.length c] fun bs w hS => ?_
   have hid : L.filter (fun x => !p x) = L := delF_none (by assumption)
   rw [hid]
   exact ⟨rfl, hS.turned⟩
 obtain ⟨i0, hi1, hi2, hi3, hi4⟩ := delF_some (p := p) h1
 refine Mi ?_ (pR ((mIdx p L) + 1))
 refine Mk 6 ?_ (show (vI ((mIdx p L) + 1)) = vI (((i0 : Int)) + 1) by rw [hi4])
 refine Mk 5 ?_ (show (vI (mIdx p L)) = vI ((i0 : Int)) by rw [hi4])
 refine Ml (σ := Nat × Nat × List (Fl DKept)) (fun ⟨i, j, M⟩ => i < j ∧ j ≤ L.length ∧ M.length = L.length ∧ M.take i = (L.take j).filter (fun x => !p x) ∧ M.drop j = L.drop j) (fun ⟨i, j, M⟩ => L.length - j) (fun ⟨i, j, M⟩ => [rowA 95 A c (M : List (Fl DKept))]) [6, 5, 0, 1] (fun ⟨i, j, M⟩ => [(6, vI (j : Int)), (5, vI (i : Int))]) (fun _ => []) ?_ (⟨i0, i0 + 1, L⟩) ⟨by omega, by omega, rfl, delF_start hi1 hi2 hi3, rfl⟩
 rintro ⟨i, j, M⟩ ⟨h1, h2, hM, hT, hD⟩ _ on1
 refine Md ((j : Int) < (L.length : Int)) (fun h2 => ?_) fun h2 => ?_
 rotate_left
 · refine Mi ?_ (pG [(38, .sl i L.length)] (oc (rfl : (i : Int) = (i : Int)) (oc (rfl : L.length = L.length) (oc ((by omega) : i ≤ L.length) on))))
   refine Mcl i (L.length - i) ?_ (by omega) (by omega)
   refine Mi ?_ (pG [(41, .sl 0 i)] (oc (rfl : 0 = 0) (oc (rfl : (i : Int) = (i : Int)) (oc ((by omega) : i ≤ c) on))))
   refine Mt [.slice A i c] fun bs w hS => ?_
   have hid : M.take i = L.filter (fun x => !p x) := by rw [hT, show j = L.length by omega, List.take_length]
   have hil : (L.filter (fun x => !p x)).length = i := by rw [← hid, List.length_take]; omega
   have hS2 := hS
   rw [hid] at hS2
   refine ⟨?_, hS2.turned⟩
   rw [hil]
   rfl
 refine Mi ?_ (pc (pIo 24 (j : Int) j L.length (.head _)) (pEo 25 j (.head _)))
 refine Mv ?_ hcall (fun bs w hS => hf w (M.getD j default) (by rw [getD_drop hD (by omega)]; exact mem_of_getD (by omega)) hS.kp)
 refine Mbn (p (M.getD j default)) (fun h3 => ?_) fun h3 => ?_
 · refine Mi ?_ (pR ((j : Int) + 1))
   have hjL : M.getD j default = L.getD j default := getD_drop hD (by omega)
   exact on1 ⟨i, j + 1, M⟩ ⟨by omega, by omega, hM, delF_skip (by omega) hT (hjL ▸ by assumption), drop_next hD⟩ (by show L.length - (j + 1) < L.length - j; omega)
 refine Mi ?_ (pIo 33 (i : Int) i L.length (.head _))
 refine Mse i (M.getD j default) ?_ (by omega)
 intro L2 hL2 hl2
 refine Mi ?_ (pc (pR ((i : Int) + 1)) (pR ((j : Int) + 1)))
 have hjL : M.getD j default = L.getD j default := getD_drop hD (by omega)
 exact on1 ⟨i + 1, j + 1, L2⟩ ⟨by omega, by omega, by omega, by rw [hL2]; exact delF_keep h1 (by omega) hM hT (hjL ▸ by assumption) hjL, by rw [hL2]; exact delF_drop h1 hD⟩ (by show L.length - (j + 1) < L.length - j; omega)
theorem del_Kept (A : Option Addr) (c : Nat) (L : List DKept) (p : DKept → Bool) (kf : Nat) (caps : Array Value) (w : World) (hrow : (rowA 95 A c L).p w) (hlt : ∀ b, b ∈ (rowA 95 A c L).fp → b < w.heap.size) (hn : L.length ≤ 1048576) (hcall : ∀ args w, (callFunc kf args).run Tryz.prog w = .ok (.enter kf args) w)
    (hf : ∀ (w' : World) (x : DKept), x ∈ L → Kp (rowA 95 A c L).fp w w' → Calls Tryz.prog kf (#[x.val] ++ caps) w' fun e w'' => e = .returned (vb (p x)) ∧ Kp [] w' w'') :
    Calls Tryz.prog 27 #[.slice A L.length c, .func (.func kf) #[] caps] w fun e w' => e = .returned (.slice A (L.filter fun x => !p x).length c) ∧ Turned (rowA 95 A c L) w w' (rowA 95 A c (L.filter fun x => !p x)) := by
  have h := delF_Kept A c (fls L) (fun x => p x.v) kf caps w (by rw [rowA_fl]; exact hrow) (by rw [rowA_fl]; exact hlt) (by simpa using hn) hcall (fun w' x hx hk => hf w' x.v (by obtain ⟨y, hy, rfl⟩ := List.mem_map.1 hx; exact hy) (by rwa [rowA_fl] at hk))
  have e1 : (fls L).filter (fun x => !(p x.v)) = fls (L.filter fun x => !p x) := fls_filter (fun x => !p x) L
  simp only [e1, rowA_fl, List.length_map] at h
  exact h
theorem clo_session_Ready_2 (x : DKept) (c : DCommand) (b : Nat) (w : World) (hb : (blkR b 49 [vi c.kind, vi c.client, vi c.session, vi c.seq, vi c.acked, vi c.op.kind, vs c.op.a, vs c.op.b, vi c.op.n]).p w) : Calls Tryz.prog 30 #[x.val, .pointer (some (⟨b, 0, none⟩ : Addr))] w fun e w' => e = .returned (vb (decide (x.seq = c.seq))) ∧ Kp [] w w' := by
 refine M0 ?_ Tryz.func30
 refine Mi ?_ (pX 7 [vi c.seq] (fun w hk hr => (blkR_fld (blkR_kp hb hk) 3 1 rfl)))
 exact Mt [vb (decide (x.seq = c.seq))] fun bs w hS => ⟨rfl, hS.kp⟩
theorem clo_session_Ready_1 (x : DKept) (a : Addr) (q : Int) (b : Nat) (w : World) (hb : (blkR b 92 [.pointer (some a)]).p w) (ha : CellsAt w (a.add 2) [vi q]) : Calls Tryz.prog 28 #[x.val, .pointer (some (⟨b, 0, none⟩ : Addr))] w fun e w' => e = .returned (vb (decide (x.seq ≤ q))) ∧ Kp [] w w' := by
 refine M0 ?_ Tryz.func28
 refine Mda 8 [] [] [] Tryz_mixed ?_
 refine Mih ?_ (pc (pX 6 [.pointer (some a)] (fun w hk hr => (blkR_pre (blkR_kp hb hk) 1 rfl))) (pX 9 [vi q] (fun w hk hr => (CellsAt.kp ha hk))))
 exact Mt [vb (decide (x.seq ≤ q))] fun bs w hS => ⟨rfl, hS.kp⟩
theorem session_Ready {B : Nat → Prop} (s : Sl CSession) (n : Int) (c : DCommand) (w : World) (hs : s.rd B w) (ht : inR c.client) (hc : Rds.sub B w c) : Calls Tryz.prog 12 #[s.val, vi n, c.val] w fun e w' => ∃ y : Sl CSession, e = .returned (.tuple #[y.val, ((mReady (s.xs.map CSession.abs) n c).2.1).val, vb (mReady (s.xs.map CSession.abs) n c).2.2.1, vi (mReady (s.xs.map CSession.abs) n c).2.2.2]) ∧ y.xs.map CSession.abs = (mReady (s.xs.map CSession.abs) n c).1 ∧ FreshS w w' y := by
 have oks := Sl.rd.ok hs
 have ncs := Sl.ok.nc oks
 have hns : s.n = s.xs.length := rfl
 have hml : (s.xs.map CSession.abs).length = s.n := by simp
 refine M0 ?_ Tryz.func12
 refine Mp ?_ Tryz.call22 (fun bs w hS => session_Check s n w (Sl.rd.kp hs hS.kp))
 refine Mdn (mSess (s.xs.map CSession.abs) n = 0) (fun h1 => ?_) fun h1 => ?_
 rotate_left
 · refine Mt [vn, vz 0, vb false, vi (mSess (s.xs.map CSession.abs) n)] fun bs w hS => ?_
   have hm := ready_bad (c := c) h1
   refine ⟨Sl.nil, ?_, ?_, hS.outS (Sl.rd_nil _ _)⟩
   · rw [hm] <;> rfl
   · rw [hm] <;> rfl
 obtain ⟨hi0, hi1, hln, hall⟩ := mSess_bd h1
 have hln2 : s.xs.length ≤ 4 := by simpa using hln
 refine Md (n = 1073741824) (fun h2 => ?_) fun h2 => ?_
 · refine Mt [vn, vz 0, vb false, vi 2] fun bs w hS => ?_
   have hm := ready_inv (c := c) h1 (by unfold rInv; omega)
   refine ⟨Sl.nil, ?_, ?_, hS.outS (Sl.rd_nil _ _)⟩
   · rw [hm] <;> rfl
   · rw [hm] <;> rfl
 refine Md (c.seq < 1) (fun h3 => ?_) fun h3 => ?_
 · refine Mt [vn, vz 0, vb false, vi 2] fun bs w hS => ?_
   have hm := ready_inv (c := c) h1 (by unfold rInv; omega)
   refine ⟨Sl.nil, ?_, ?_, hS.outS (Sl.rd_nil _ _)⟩
   · rw [hm] <;> rfl
   · rw [hm] <;> rfl
 refine Md ((1048576 : Int) < c.seq) (fun h4 => ?_) fun h4 => ?_
 · refine Mt [vn, vz 0, vb false, vi 2] fun bs w hS => ?_
   have hm := ready_inv (c := c) h1 (by unfold rInv; omega)
   refine ⟨Sl.nil, ?_, ?_, hS.outS (Sl.rd_nil _ _)⟩
   · rw [hm] <;> rfl
   · rw [hm] <;> rfl
 refine Md (c.acked < 0) (fun h5 => ?_) fun h5 => ?_
 · refine Mt [vn, vz 0, vb false, vi 2] fun bs w hS => ?_
   have hm := ready_inv (c := c) h1 (by unfold rInv; omega)
   refine ⟨Sl.nil, ?_, ?_, hS.outS (Sl.rd_nil _ _)⟩
   · rw [hm] <;> rfl
   · rw [hm] <;> rfl
 refine Md (c.seq ≤ c.acked) (fun h6 => ?_) fun h6 => ?_
 · refine Mt [vn, vz 0, vb false, vi 2] fun bs w hS => ?_
   have hm := ready_inv (c := c) h1 (by unfold rInv; omega)
   refine ⟨Sl.nil, ?_, ?_, hS.outS (Sl.rd_nil _ _)⟩
   · rw [hm] <;> rfl
   · rw [hm] <;> rfl
 refine Mf ?_ Tryz.call24 (fun bs w hS => session_Copy s w (Sl.rd.kp hs hS.kp) (small_sess (by assumption)))
 rintro y1 hF1
 refine m_split2 ?_
 obtain ⟨A1, c1, S1⟩ := y1
 have hF1 : S1.map CSession.abs = s.xs.map CSession.abs := hF1
 refine m_perm (R' := [ownL (keptR 95) S1, rowA 87 A1 c1 (S1 : List CSession)]) (List.Perm.refl _) ?_
 have hnm1 := sess_texts (y := (⟨A1, c1, S1⟩ : Sl CSession)) (hs) hF1
 have hlen1 : S1.length = s.xs.length := by simpa using congrArg List.length hF1
 refine m_know (F := ∀ i, i < S1.length → Rds.ok (S1.getD i default)) (fun bs w hS i hi => Rds.okof (B := anyB) (w := w) (own_elt (hS.res _ i0) hnm1 (mem_of_getD hi))) fun okown1 => ?_
 refine m_know (F := RowOk A1 c1 (S1 : List CSession)) (fun bs w hS => rowA_rok (hS.res _ i1)) fun hrow1 => ?_
 have nchrow1 := hrow1.2
 have hml1 : (S1.map CSession.abs).length = S1.length := by simp
 have hm1 : mSess (S1.map CSession.abs) n = 0 := by rw [hF1]; assumption
 refine Mp ?_ Tryz.call26 (fun bs w hS => session_find (⟨A1, c1, S1⟩ : Sl CSession) c.client w (own_sess (hS.res _ i0) (hS.res _ i1) hnm1) (show S1.length ≤ 1048576 by omega))
 have hbs := bsf_sess (L := S1) (index := n) (t := c.client) (by rw [hF1]; assumption) ht
 have hJb := mIdx_bd (fun x : DSession => decide (x.client = c.client)) (S1.map CSession.abs)
 generalize hJ : mIdx (fun x : DSession => decide (x.client = c.client)) (S1.map CSession.abs) = J at hbs hJb
 have hkl := mBS_le (fun x : CSession => IntKind.i64.wrap (x.client - c.client)) S1
 generalize hk : mBS (fun x : CSession => IntKind.i64.wrap (x.client - c.client)) S1 = k at hbs hkl ⊢
 generalize hf : mBSf (fun x : CSession => IntKind.i64.wrap (x.client - c.client)) S1 = fb at hbs ⊢
 refine Mdr 12 ?_ Tryz_mixed
 refine Mbn fb (fun h7 => ?_) fun h7 => ?_
 rotate_left
 · have h0J := of_decide_eq_false (hbs.1.symm.trans h7)
   refine Mz ?_
   refine Mt [.slice A1 S1.length c1, vz 11, vb false, vi 0] fun bs w hS => ?_
   have hv : ¬ rInv n c := by unfold rInv; omega
   rw [← hF1]
   have hm := ready_none (l := S1.map CSession.abs) (c := c) hm1 hv (by show mIdx _ _ < 0; rw [hJ]; omega)
   refine ⟨⟨A1, c1, S1⟩, ?_, ?_, hS.outS (y := (⟨A1, c1, S1⟩ : Sl CSession)) (out_sessG i1 hS.res (fun x hx => ?_))⟩
   · rw [hm] <;> rfl
   · exact (congrArg Prod.fst hm).symm
   · exact own_in i0 hS.res hnm1 hx
 have hkJ := hbs.2 h7
 subst hkJ
 have hk5 := sess_all hm1 (k := k) (by omega)
 have hk6 : (S1.getD k default).replies.xs.length ≤ 4 := mReplies_len hk5.2.2.2.2
 have hk7 : (S1.getD k default).replies.n = (S1.getD k default).replies.xs.length := rfl
 refine Mih ?_ (pc (pIo 61 (k : Int) k S1.length i1) (pFo 63 k 1 1 i1))
 refine Mz ?_
 refine Mdn ((S1.getD k default).id = c.session) (fun h8 => ?_) fun h8 => ?_
 rotate_left
 · refine Mt [.slice A1 S1.length c1, vz 11, vb false, vi 0] fun bs w hS => ?_
   have hv : ¬ rInv n c := by unfold rInv; omega
   rw [← hF1]
   have hm := ready_other (c := c) hm1 hv (K := k) (by show (mIdx _ _).toNat = _; rw [hJ]; rfl) h8
   refine ⟨⟨A1, c1, S1⟩, ?_, ?_, hS.outS (y := (⟨A1, c1, S1⟩ : Sl CSession)) (out_sessG i1 hS.res (fun x hx => ?_))⟩
   · rw [hm] <;> rfl
   · exact (congrArg Prod.fst hm).symm
   · exact own_in i0 hS.res hnm1 hx
 refine Mi ?_ (pc (pIo 72 (k : Int) k S1.length i1) (pR (n + 1)))
 refine m_f1 ?_
 refine Ms k 3 (⟨(S1.getD k default).client, (S1.getD k default).id, (S1.getD k default).acked, n + 1, (S1.getD k default).replies⟩ : CSession) ?_ (by omega)
 intro L3 hL3 hlL3
 have hgL3 : L3.getD k default = (⟨(S1.getD k default).client, (S1.getD k default).id, (S1.getD k default).acked, n + 1, (S1.getD k default).replies⟩ : CSession) := by rw [hL3]; exact getD_set (by omega)
 have hbL3 : L3 = List.set S1 k (⟨(S1.getD k default).client, (S1.getD k default).id, (S1.getD k default).acked, n + 1, (S1.getD k default).replies⟩ : CSession) := by rw [hL3]
 refine Mdr 7 ?_ Tryz_mixed
 refine Mih ?_ (pFk 83 k 2 1 hgL3 i0)
 refine Mz ?_
 refine Md ((S1.getD k default).acked < c.acked) (fun h9 => ?_) fun h9 => ?_
 rotate_left
 · have hak : kAck (S1.getD k default).abs c = (S1.getD k default).acked := ack_same (d := (S1.getD k default).abs) h9
   have hll : kLeft (S1.getD k default).abs c = (S1.getD k default).replies.xs := left_same (d := (S1.getD k default).abs) hak hk5.2.2.2.2
   refine Mdr 7 ?_ Tryz_mixed
   refine Mih ?_ (pFk 104 k 2 1 hgL3 i0)
   refine Mz ?_
   refine Md (c.seq ≤ (S1.getD k default).acked) (fun h13 => ?_) fun h13 => ?_
   · refine Mt [.slice A1 S1.length c1, vz 12, vb false, vi 0] fun bs w hS => ?_
     have hv : ¬ rInv n c := by unfold rInv; omega
     rw [← hF1]
     have ha := ans_old hak h13
     have hm := ready_one (c := c) hm1 hv (K := k) (by show ¬ mIdx _ _ < 0; rw [hJ]; omega) (by show (mIdx _ _).toNat = _; rw [hJ]; rfl) h8 (kSess_of hak hll) ha
     have hvx := setS_map hbL3
     refine ⟨⟨A1, c1, L3⟩, ?_, ?_, hS.outS (y := (⟨A1, c1, L3⟩ : Sl CSession)) (out_sessG i0 hS.res (fun x hx => ?_))⟩
     · have hll2 : S1.length = L3.length := by rw [hbL3, List.length_set]
       rw [hm]
       exact congrArg (fun q => Ending.returned (.tuple #[.slice A1 q c1, vz 12, vb false, vi 0])) hll2
     · exact Eq.trans hvx (congrArg Prod.fst hm).symm
     · rw [hbL3] at hx
       rcases mem_set hx with hx | hx
       · subst hx; exact own_in (x := (S1.getD k default)) i1 hS.res hnm1 (mem_of_getD (L := S1) (i := k) (by omega))
       · exact own_in i1 hS.res hnm1 hx
   refine Mi ?_ (pFk 111 k 4 1 hgL3 i0)
   refine Mp ?_ Tryz.call29 (fun bs w hS => idx_Kept (S1.getD k default).replies (fun z : DKept => decide (z.seq = c.seq)) 30 #[.pointer (some (adr bs 0 0))] w (own_elt (hS.res _ i1) hnm1 (mem_of_getD (i := k) (by omega))) Tryz.call30 (fun w' z hz hk => clo_session_Ready_2 z c (bs.getD 0 0) w' (show (blkR _ _ _).p w' from (hS.pure hk).loc 0 ⟨49, c.cs⟩ (by kernel_rfl) (by simp))))
   have hIb := mIdx_bd (fun z : DKept => decide (z.seq = c.seq)) (S1.getD k default).replies.xs
   generalize hIx : mIdx (fun z : DKept => decide (z.seq = c.seq)) (S1.getD k default).replies.xs = I at hIb ⊢
   refine Md ((0 : Int) ≤ I) (fun h14 => ?_) fun h14 => ?_
   · refine Mda 13 [] [1] [rowA 87 A1 c1 (L3 : List CSession), ownL (keptR 95) S1] Tryz_mixed ?_
     refine Mih ?_ (pc (pFk 120 k 4 1 hgL3 i0) (pc (pI 122 I I.toNat (s := (S1.getD k default).replies) (fun w hk hr => (own_elt (hr _ i1) hnm1 (mem_of_getD (i := k) (by omega))))) (pF 124 I.toNat 1 3 (s := (S1.getD k default).replies) (fun w hk hr => (own_elt (hr _ i1) hnm1 (mem_of_getD (i := k) (by omega)))))))
     refine Mz ?_
     refine Mt [.slice A1 S1.length c1, ((S1.getD k default).replies.at I.toNat).reply.val, vb false, vi 0] fun bs w hS => ?_
     have hv : ¬ rInv n c := by unfold rInv; omega
     rw [← hF1]
     have ha := ans_kept hak hll (idx_at hIx) h13 h14
     have hm := ready_one (c := c) hm1 hv (K := k) (by show ¬ mIdx _ _ < 0; rw [hJ]; omega) (by show (mIdx _ _).toNat = _; rw [hJ]; rfl) h8 (kSess_of hak hll) ha
     have hvx := setS_map hbL3
     refine ⟨⟨A1, c1, L3⟩, ?_, ?_, hS.outS (y := (⟨A1, c1, L3⟩ : Sl CSession)) (out_sessG i0 hS.res (fun x hx => ?_))⟩
     · have hll2 : S1.length = L3.length := by rw [hbL3, List.length_set]
       rw [hm]
       exact congrArg (fun q => Ending.returned (.tuple #[.slice A1 q c1, ((S1.getD k default).replies.at I.toNat).reply.val, vb false, vi 0])) hll2
     · exact Eq.trans hvx (congrArg Prod.fst hm).symm
     · rw [hbL3] at hx
       rcases mem_set hx with hx | hx
       · subst hx; exact own_in (x := (S1.getD k default)) i1 hS.res hnm1 (mem_of_getD (L := S1) (i := k) (by omega))
       · exact own_in i1 hS.res hnm1 hx
   refine Mdr 8 ?_ Tryz_mixed
   refine Mih ?_ (pc (pFk 130 k 2 1 hgL3 i0) (pR ((S1.getD k default).acked + 4)))
   refine Mz ?_
   refine Md ((S1.getD k default).acked + 4 < c.seq) (fun h15 => ?_) fun h15 => ?_
   rotate_left
   · refine Mt [.slice A1 S1.length c1, vz 0, vb true, vi 0] fun bs w hS => ?_
     have hv : ¬ rInv n c := by unfold rInv; omega
     rw [← hF1]
     have ha := ans_new hak hll (idx_at hIx) h13 h14 h15
     have hm := ready_one (c := c) hm1 hv (K := k) (by show ¬ mIdx _ _ < 0; rw [hJ]; omega) (by show (mIdx _ _).toNat = _; rw [hJ]; rfl) h8 (kSess_of hak hll) ha
     have hvx := setS_map hbL3
     refine ⟨⟨A1, c1, L3⟩, ?_, ?_, hS.outS (y := (⟨A1, c1, L3⟩ : Sl CSession)) (out_sessG i0 hS.res (fun x hx => ?_))⟩
     · have hll2 : S1.length = L3.length := by rw [hbL3, List.length_set]
       rw [hm]
       exact congrArg (fun q => Ending.returned (.tuple #[.slice A1 q c1, vz 0, vb true, vi 0])) hll2
     · exact Eq.trans hvx (congrArg Prod.fst hm).symm
     · rw [hbL3] at hx
       rcases mem_set hx with hx | hx
       · subst hx; exact own_in (x := (S1.getD k default)) i1 hS.res hnm1 (mem_of_getD (L := S1) (i := k) (by omega))
       · exact own_in i1 hS.res hnm1 hx
   refine Mt [.slice A1 S1.length c1, vz 2, vb false, vi 0] fun bs w hS => ?_
   have hv : ¬ rInv n c := by unfold rInv; omega
   rw [← hF1]
   have ha := ans_far hak hll (idx_at hIx) h13 h14 h15
   have hm := ready_one (c := c) hm1 hv (K := k) (by show ¬ mIdx _ _ < 0; rw [hJ]; omega) (by show (mIdx _ _).toNat = _; rw [hJ]; rfl) h8 (kSess_of hak hll) ha
   have hvx := setS_map hbL3
   refine ⟨⟨A1, c1, L3⟩, ?_, ?_, hS.outS (y := (⟨A1, c1, L3⟩ : Sl CSession)) (out_sessG i0 hS.res (fun x hx => ?_))⟩
   · have hll2 : S1.length = L3.length := by rw [hbL3, List.length_set]
     rw [hm]
     exact congrArg (fun q => Ending.returned (.tuple #[.slice A1 q c1, vz 2, vb false, vi 0])) hll2
   · exact Eq.trans hvx (congrArg Prod.fst hm).symm
   · rw [hbL3] at hx
     rcases mem_set hx with hx | hx
     · subst hx; exact own_in (x := (S1.getD k default)) i1 hS.res hnm1 (mem_of_getD (L := S1) (i := k) (by omega))
     · exact own_in i1 hS.res hnm1 hx
 have hak := ack_up (d := (S1.getD k default).abs) (c := c) h9
 have hll := left_more hak
 have hfl := List.length_filter_le (fun z : DKept => !decide (z.seq ≤ c.acked)) (S1.getD k default).replies.xs
 refine Ms k 2 (⟨(S1.getD k default).client, (S1.getD k default).id, c.acked, n + 1, (S1.getD k default).replies⟩ : CSession) ?_ (by omega) (hg := hgL3)
 intro L4 hL4 hlL4
 have hgL4 : L4.getD k default = (⟨(S1.getD k default).client, (S1.getD k default).id, c.acked, n + 1, (S1.getD k default).replies⟩ : CSession) := by rw [hL4]; exact getD_set (by omega)
 have hbL4 : L4 = List.set S1 k (⟨(S1.getD k default).client, (S1.getD k default).id, c.acked, n + 1, (S1.getD k default).replies⟩ : CSession) := by rw [hL4, hbL3, List.set_set]
 refine m_f1 ?_
 refine m_part2 (rowA 95 (S1.getD k default).replies.A (S1.getD k default).replies.c ((S1.getD k default).replies.xs : List DKept)) (ownL (keptR 95) (List.eraseIdx S1 k)) (ownL_get_fp (keptR 95) (i := k) (by omega)) (fun w h => ownL_get_p (keptR 95) (i := k) (by omega) w h) ?_
 refine m_know (F := RowOk (S1.getD k default).replies.A (S1.getD k default).replies.c ((S1.getD k default).replies.xs : List DKept)) (fun bs w hS => rowA_rok (hS.res _ i0)) fun hrowK => ?_
 have nchrowK := hrowK.2
 refine Mda 9 [] [] [ownL (keptR 95) (List.eraseIdx S1 k), rowA 87 A1 c1 (L4 : List CSession)] Tryz_mixed ?_ (hR := (.cons _ (List.Sublist.refl _)))
 refine Mih ?_ (pFk 94 k 4 1 hgL4 i1) (hR := (.cons _ (List.Sublist.refl _)))
 refine Mtu0 ?_ Tryz.call27 (fun bs w hS => del_Kept (S1.getD k default).replies.A (S1.getD k default).replies.c (S1.getD k default).replies.xs (fun z : DKept => decide (z.seq ≤ c.acked)) 28 #[.pointer (some (adr bs 2 0))] w (hS.res _ i0) hS.head1.2.2 (by omega) Tryz.call28 (fun w' x hx hk => clo_session_Ready_1 x ((oad A1).add (k * 5)) c.acked (bs.getD 2 0) w' (show (blkR _ _ _).p w' from hS.blkIn (i := 2) (b := ⟨92, [.v (.pointer (some ((oad A1).add (k * 5))))]⟩) hk (by kernel_rfl) (by simp)) (rowA_fld (i := k) (hS.resIn hk i1) (by omega) 2 1 (by rw [hgL4]; rfl))))
 rintro _ _
 refine Mz ?_
 refine m_f2 ?_
 refine Ms k 4 (⟨(S1.getD k default).client, (S1.getD k default).id, c.acked, n + 1, ⟨(S1.getD k default).replies.A, (S1.getD k default).replies.c, (S1.getD k default).replies.xs.filter fun z : DKept => !decide (z.seq ≤ c.acked)⟩⟩ : CSession) ?_ (by omega) (hg := hgL4)
 intro L6 hL6 hlL6
 have hgL6 : L6.getD k default = (⟨(S1.getD k default).client, (S1.getD k default).id, c.acked, n + 1, ⟨(S1.getD k default).replies.A, (S1.getD k default).replies.c, (S1.getD k default).replies.xs.filter fun z : DKept => !decide (z.seq ≤ c.acked)⟩⟩ : CSession) := by rw [hL6]; exact getD_set (by omega)
 have hbL6 : L6 = List.set S1 k (⟨(S1.getD k default).client, (S1.getD k default).id, c.acked, n + 1, ⟨(S1.getD k default).replies.A, (S1.getD k default).replies.c, (S1.getD k default).replies.xs.filter fun z : DKept => !decide (z.seq ≤ c.acked)⟩⟩ : CSession) := by rw [hL6, hbL4, List.set_set]
 refine Mdr 7 ?_ Tryz_mixed
 refine Mih ?_ (pFk 104 k 2 1 hgL6 i0)
 refine Mz ?_
 refine My false false ?_ (df h6)
 refine Mi ?_ (pFk 111 k 4 1 hgL6 i0)
 refine Mp ?_ Tryz.call29 (fun bs w hS => idx_Kept (⟨(S1.getD k default).replies.A, (S1.getD k default).replies.c, (S1.getD k default).replies.xs.filter fun z : DKept => !decide (z.seq ≤ c.acked)⟩ : Sl DKept) (fun z : DKept => decide (z.seq = c.seq)) 30 #[.pointer (some (adr bs 0 0))] w (Rr (B := anyB) (hS.res _ i1) (fun _ _ => trivial) (fun z hz => hnm1 _ (mem_of_getD (L := S1) (i := k) (by omega)) z (List.mem_filter.1 hz).1)) Tryz.call30 (fun w' z hz hk => clo_session_Ready_2 z c (bs.getD 0 0) w' (show (blkR _ _ _).p w' from (hS.pure hk).loc 0 ⟨49, c.cs⟩ (by kernel_rfl) (by simp))))
 have hIb := mIdx_bd (fun z : DKept => decide (z.seq = c.seq)) ((S1.getD k default).replies.xs.filter fun z : DKept => !decide (z.seq ≤ c.acked))
 generalize hIx : mIdx (fun z : DKept => decide (z.seq = c.seq)) ((S1.getD k default).replies.xs.filter fun z : DKept => !decide (z.seq ≤ c.acked)) = I at hIb ⊢
 refine Md ((0 : Int) ≤ I) (fun h11 => ?_) fun h11 => ?_
 · refine Mda 13 [] [1] [rowA 87 A1 c1 (L6 : List CSession), rowA 95 (S1.getD k default).replies.A (S1.getD k default).replies.c ((S1.getD k default).replies.xs.filter fun z : DKept => !decide (z.seq ≤ c.acked) : List DKept), ownL (keptR 95) (List.eraseIdx S1 k)] Tryz_mixed ?_
   refine Mih ?_ (pc (pFk 120 k 4 1 hgL6 i0) (pc (pIo 122 I I.toNat ((S1.getD k default).replies.xs.filter fun z : DKept => !decide (z.seq ≤ c.acked)).length i1) (pFo 124 I.toNat 1 3 i1)))
   refine Mz ?_
   refine Mt [.slice A1 S1.length c1, (((S1.getD k default).replies.xs.filter fun z : DKept => !decide (z.seq ≤ c.acked)).getD I.toNat default).reply.val, vb false, vi 0] fun bs w hS => ?_
   have hv : ¬ rInv n c := by unfold rInv; omega
   rw [← hF1]
   have ha := ans_kept hak hll (idx_at hIx) h6 h11
   have hm := ready_one (c := c) hm1 hv (K := k) (by show ¬ mIdx _ _ < 0; rw [hJ]; omega) (by show (mIdx _ _).toNat = _; rw [hJ]; rfl) h8 (kSess_of hak hll) ha
   have hvx := setS_map hbL6
   refine ⟨⟨A1, c1, L6⟩, ?_, ?_, hS.outS (y := (⟨A1, c1, L6⟩ : Sl CSession)) (out_sessG i0 hS.res (fun x hx => ?_))⟩
   · have hll2 : S1.length = L6.length := by rw [hbL6, List.length_set]
     rw [hm]
     exact congrArg (fun q => Ending.returned (.tuple #[.slice A1 q c1, (((S1.getD k default).replies.xs.filter fun z : DKept => !decide (z.seq ≤ c.acked)).getD I.toNat default).reply.val, vb false, vi 0])) hll2
   · exact Eq.trans hvx (congrArg Prod.fst hm).symm
   · rw [hbL6] at hx
     rcases mem_set_ne hx with hx | hx
     · subst hx; exact allR_row i1 (hS.res _ i1) (fun z hz => hnm1 _ (mem_of_getD (L := S1) (i := k) (by omega)) z (List.mem_filter.1 hz).1)
     · exact own_in i2 hS.res (fun z hz => hnm1 z (List.mem_of_mem_eraseIdx hz)) hx
 refine Mdr 8 ?_ Tryz_mixed
 refine Mih ?_ (pc (pFk 130 k 2 1 hgL6 i0) (pR (c.acked + 4)))
 refine Mz ?_
 refine Md (c.acked + 4 < c.seq) (fun h12 => ?_) fun h12 => ?_
 rotate_left
 · refine Mt [.slice A1 S1.length c1, vz 0, vb true, vi 0] fun bs w hS => ?_
   have hv : ¬ rInv n c := by unfold rInv; omega
   rw [← hF1]
   have ha := ans_new hak hll (idx_at hIx) h6 h11 h12
   have hm := ready_one (c := c) hm1 hv (K := k) (by show ¬ mIdx _ _ < 0; rw [hJ]; omega) (by show (mIdx _ _).toNat = _; rw [hJ]; rfl) h8 (kSess_of hak hll) ha
   have hvx := setS_map hbL6
   refine ⟨⟨A1, c1, L6⟩, ?_, ?_, hS.outS (y := (⟨A1, c1, L6⟩ : Sl CSession)) (out_sessG i0 hS.res (fun x hx => ?_))⟩
   · have hll2 : S1.length = L6.length := by rw [hbL6, List.length_set]
     rw [hm]
     exact congrArg (fun q => Ending.returned (.tuple #[.slice A1 q c1, vz 0, vb true, vi 0])) hll2
   · exact Eq.trans hvx (congrArg Prod.fst hm).symm
   · rw [hbL6] at hx
     rcases mem_set_ne hx with hx | hx
     · subst hx; exact allR_row i1 (hS.res _ i1) (fun z hz => hnm1 _ (mem_of_getD (L := S1) (i := k) (by omega)) z (List.mem_filter.1 hz).1)
     · exact own_in i2 hS.res (fun z hz => hnm1 z (List.mem_of_mem_eraseIdx hz)) hx
 refine Mt [.slice A1 S1.length c1, vz 2, vb false, vi 0] fun bs w hS => ?_
 have hv : ¬ rInv n c := by unfold rInv; omega
 rw [← hF1]
 have ha := ans_far hak hll (idx_at hIx) h6 h11 h12
 have hm := ready_one (c := c) hm1 hv (K := k) (by show ¬ mIdx _ _ < 0; rw [hJ]; omega) (by show (mIdx _ _).toNat = _; rw [hJ]; rfl) h8 (kSess_of hak hll) ha
 have hvx := setS_map hbL6
 refine ⟨⟨A1, c1, L6⟩, ?_, ?_, hS.outS (y := (⟨A1, c1, L6⟩ : Sl CSession)) (out_sessG i0 hS.res (fun x hx => ?_))⟩
 · have hll2 : S1.length = L6.length := by rw [hbL6, List.length_set]
   rw [hm]
   exact congrArg (fun q => Ending.returned (.tuple #[.slice A1 q c1, vz 2, vb false, vi 0])) hll2
 · exact Eq.trans hvx (congrArg Prod.fst hm).symm
 · rw [hbL6] at hx
   rcases mem_set_ne hx with hx | hx
   · subst hx; exact allR_row i1 (hS.res _ i1) (fun z hz => hnm1 _ (mem_of_getD (L := S1) (i := k) (by omega)) z (List.mem_filter.1 hz).1)
   · exact own_in i2 hS.res (fun z hz => hnm1 z (List.mem_of_mem_eraseIdx hz)) hx
theorem cloneS_ByteArray (A : Option Addr) (n c : Nat) (L : List ByteArray) (w : World) (hl : L.length = n) (hsrc : SrcAt w A n (L.flatMap Lay.cells)) (hb : n ≤ 1048576) : Calls Tryz.prog 116 #[.slice A n c] w fun e w' => ∃ y : Sl ByteArray, e = .returned y.val ∧ y.xs = L ∧ Kp [] w w' ∧ Fresh w w' (rowA 9 y.A y.c y.xs) := by
 refine M0 ?_ Tryz.func116
 refine Mi ?_ (pG [(4, .val (.bool A.isNone))] (oc ((eq_nil Tryz.underlying26) : ∀ w, (do eqGuard .eql 26 (.tmp 3) (.const vn) (.slice A n c) vn; binOp .eql 26 (.slice A n c) vn : Sem Value).run Tryz.prog w = .ok (.bool A.isNone) w) on))
 refine Mb A.isNone (fun h1 => ?_) fun h1 => ?_
 · refine Mt [vn] fun bs w hS => ?_
   have hnil : L = [] := by cases hA : A with | none => rw [hA] at hsrc; have h0 : n = 0 := hsrc; exact List.eq_nil_of_length_eq_zero (by omega) | some a => rw [hA] at h1; cases h1
   exact ⟨Sl.nil, rfl, hnil.symm, hS.kp, rowA_nil 9 w⟩
 refine Mlz ?_ (α := ByteArray) (e := 9)
 intro A1
 refine Ma ?_ (α := ByteArray) (L2 := L) 16 (fun bs w hS => (SrcAt.kp hsrc hS.kp)) (hn2 := hl)
 intro A2 c2
 exact Mt [.slice A2 ([] ++ L).length c2] fun bs w hS => ⟨⟨A2, c2, [] ++ L⟩, rfl, by simp, hS.kp, hS.out1⟩
theorem clone_ByteArray {B : Nat → Prop} (s : Sl ByteArray) (w : World) (hs : s.rd B w) (hb : s.n ≤ 1048576) : Calls Tryz.prog 116 #[s.val] w fun e w' => ∃ y : Sl ByteArray, e = .returned y.val ∧ y.xs = s.xs ∧ Kp [] w w' ∧ Fresh w w' (rowA 9 y.A y.c y.xs) := cloneS_ByteArray s.A s.n s.c s.xs w rfl hs.src hb
theorem log_Cut {B : Nat → Prop} (x : CLog) (n : Int) (w : World) (hx : Rds.sub B w x) : Calls Tryz.prog 138 #[x.val, vi n] w fun e w' => ∃ y : CLog, e = .returned (.tuple #[y.val, vi (mCut x.abs n).2]) ∧ y.abs = (mCut x.abs n).1 ∧ FreshS w w' y := by
 have okx := Rds.okof hx
 have ncx := Sl.ok.nc okx
 have hnx : x.entries.n = x.entries.xs.length := rfl
 have hla : mLast x.abs = x.base + (x.entries.n : Int) := rfl
 have q1 : x.abs.base = x.base := rfl
 have q2 : x.abs.entries = x.entries.xs := rfl
 have hat : ∀ q, x.entries.xs.getD q default = x.entries.at q := fun _ => rfl
 refine M0 ?_ Tryz.func138
 refine Mp ?_ Tryz.call152 (fun bs w hS => log_Check x w (Rds.kp hx hS.kp))
 refine Mdn (mLog x.abs = 0) (fun h1 => ?_) fun h1 => ?_
 rotate_left
 · have hm : mCut x.abs n = (zLog, mLog x.abs) := by grind [mCut]
   exact Me2 hm ⟨0, Sl.nil⟩ rfl fun bs w hS => hS.outS (y := (⟨0, Sl.nil⟩ : CLog)) (Sl.rd_nil _ _)
 obtain ⟨hb1, hb2, hb3, hb4⟩ := mLog_bd h1
 rw [q1] at hb1 hb2
 rw [q2] at hb3
 refine Md (n < x.base) (fun h2 => ?_) fun h2 => ?_
 · have hm : mCut x.abs n = (zLog, 2) := by grind [mCut]
   exact Me2 hm ⟨0, Sl.nil⟩ rfl fun bs w hS => hS.outS (y := (⟨0, Sl.nil⟩ : CLog)) (Sl.rd_nil _ _)
 refine Mp ?_ Tryz.call14 (fun bs w hS => log_Last x w (Rds.kp hx hS.kp) (by first | exact ⟨by omega, by omega, by omega⟩ | omega))
 refine Md (x.base + (x.entries.n : Int) < n) (fun h3 => ?_) fun h3 => ?_
 · have hm : mCut x.abs n = (zLog, 2) := by grind [mCut]
   exact Me2 hm ⟨0, Sl.nil⟩ rfl fun bs w hS => hS.outS (y := (⟨0, Sl.nil⟩ : CLog)) (Sl.rd_nil _ _)
 refine Md ((1073741424 : Int) < n) (fun h4 => ?_) fun h4 => ?_
 · have hm : mCut x.abs n = (zLog, 8) := by grind [mCut]
   exact Me2 hm ⟨0, Sl.nil⟩ rfl fun bs w hS => hS.outS (y := (⟨0, Sl.nil⟩ : CLog)) (Sl.rd_nil _ _)
 refine Mi ?_ (pc (pR (n - x.base)) (pG [(34, .sl (n - x.base).toNat x.entries.n)] (oc ((by omega) : n - x.base = (((n - x.base).toNat : Nat) : Int)) (oc (rfl : x.entries.n = x.entries.n) (oc ((by omega) : (n - x.base).toNat ≤ x.entries.n) on)))))
 refine Mf ?_ (vs := fun bs => [.slice (if x.entries.c = (n - x.base).toNat then x.entries.A else x.entries.A.map (·.add ((n - x.base).toNat * 1))) (x.entries.n - (n - x.base).toNat) (x.entries.c - (n - x.base).toNat)]) Tryz.call116 (fun bs w hS => cloneS_ByteArray _ _ _ (x.entries.xs.drop (n - x.base).toNat) w (show (x.entries.xs.drop (n - x.base).toNat).length = x.entries.n - (n - x.base).toNat from List.length_drop ..) (Sl.rd.srcDrop (s := x.entries) (Rds.kp hx hS.kp) (by omega)) (by omega))
 rintro y1 hF1
 refine Mt [.agg #[vi n, y1.val], vi 0] fun bs w hS => ?_
 have hm : mCut x.abs n = (⟨n, x.entries.xs.drop (n - x.base).toNat⟩, 0) := by grind [mCut]
 have hsz : ∀ z, z ∈ y1.xs → z.size ≤ 9223372036854775807 := fun z hz => Sl.rd.mem (s := x.entries) hx z (List.mem_of_mem_drop (hF1 ▸ hz))
 refine ⟨⟨n, ⟨y1.A, y1.c, y1.xs⟩⟩, ?_, ?_, hS.outS (y := (⟨n, ⟨y1.A, y1.c, y1.xs⟩⟩ : CLog)) (allR_row i0 (hS.res _ i0) hsz)⟩
 · rw [hm]; rfl
 · rw [hm]; simp [CLog.abs, hF1]
theorem snap_text (x s : ByteArray) (b : Nat) (w : World) (hb : (blkR b 125 [vs x]).p w) (hs : s.size ≤ 9223372036854775807) (hx : x.size ≤ 4611686018427387904) : Calls Tryz.prog 46 #[.pointer (some ⟨b, 0, none⟩), vs s] w fun e w' => ∃ _ : Unit, e = .returned (.tuple #[]) ∧ True ∧ Kp [b] w w' ∧ (blkR b 125 [vs (x ++ mTextB s)]).p w' := by
 refine Mj ?_ Tryz.func46 (WS.start1 w _ hb (by simp [blkR]) (blkR_lt hb))
 refine Mp ?_ Tryz.call81 (fun bs w hS => codec_Text _ w (by first | assumption | omega | (simp only [emp_size]; omega)))
 refine Mi ?_ (pc (pBk 14 0 1 i0) (pP (x.size + (mText s).1.size ≤ 9223372036854775807) (by have := mTextB_size s; unfold mTextB at this; omega)))
 refine Msb 0 [vs (x ++ (mText s).1)] ?_
 exact Mt [] fun bs w hS => ⟨(), rfl, trivial, hS.kp, hS.res _ i0⟩
theorem snap_numbers {B : Nat → Prop} (x : ByteArray) (s : Sl Int) (b : Nat) (w : World) (hb : (blkR b 125 [vs x]).p w) (hs : s.rd B w) (hsn : s.n ≤ 1048576) (hx : x.size ≤ 4611686018427387904) : Calls Tryz.prog 45 #[.pointer (some ⟨b, 0, none⟩), s.val] w fun e w' => ∃ _ : Unit, e = .returned (.tuple #[]) ∧ True ∧ Kp [b] w w' ∧ (blkR b 125 [vs (x ++ mNums s.xs)]).p w' := by
 have oks := Sl.rd.ok hs
 have ncs := Sl.ok.nc oks
 have hns : s.n = s.xs.length := rfl
 have hs2 := rd_neblk hs hb
 refine Mj ?_ Tryz.func45 (WS.start1 w _ hb (by simp [blkR]) (blkR_lt hb))
 refine Ml (σ := Nat × ByteArray) (fun ⟨i, u⟩ => i ≤ s.n ∧ u = x ++ mNums (s.xs.take i) ∧ u.size ≤ x.size + 6 * i) (fun ⟨i, u⟩ => s.n - i) (fun ⟨i, u⟩ => [blkR b 125 [vs u]]) [10, 9, 8, 0] (fun ⟨i, u⟩ => [(10, vI (i : Int))]) (fun _ => []) ?_ (⟨0, x⟩) ⟨Nat.zero_le _, (append_emp x).symm, Nat.le_refl _⟩
 rintro ⟨i, u⟩ ⟨hi, hI, hz⟩ _ on1
 have hn6 := mNumber_size (s.at i)
 refine Md ((i : Int) < (s.n : Int)) (fun h1 => ?_) fun h1 => ?_
 rotate_left
 · refine Mt [] fun bs w hS => ?_
   refine ⟨(), rfl, trivial, hS.kp, ?_⟩
   have hu : u = x ++ mNums s.xs := by rw [hI, List.take_of_length_le (by omega)]
   rw [← hu]
   exact hS.res _ i0
 refine Mi ?_ (pA 12 13 (i : Int) i (s := s) (fun w hk hr => (Sl.rd.stay hs2 fun q hq hlt => hk.block q hlt (by simpa [blkR] using hq))))
 refine Mp ?_ Tryz.call80 (fun bs w hS => codec_Number (s.at i) w)
 refine Mi ?_ (pc (pBk 22 0 1 i0) (pP (u.size + (mNumber (s.at i)).1.size ≤ 9223372036854775807)))
 refine Msb 0 [vs (u ++ (mNumber (s.at i)).1)] ?_
 refine Mi ?_ (pR ((i : Int) + 1))
 exact on1 ⟨i + 1, u ++ (mNumber (s.at i)).1⟩ ⟨by show i + 1 ≤ s.n; omega, by rw [hI, ByteArray.append_assoc]; exact congrArg _ (mNums_step (i := i) (l := s.xs) (by omega)), by show (u ++ _).size ≤ x.size + 6 * (i + 1); rw [ByteArray.size_append]; omega⟩ (by show s.n - (i + 1) < s.n - i; omega)
theorem codec_Seal (s : ByteArray) (w : World) (hs : s.size ≤ 9223372036854775807) : Calls Tryz.prog 47 #[vs s] w fun e w' => e = .returned (vs (mSeal s)) ∧ Kp [] w w' := by
 refine M0 ?_ Tryz.func47
 refine Ml (σ := Nat) (fun k => k ≤ s.size) (fun k => s.size - k) (fun _ => []) [8, 7, 4, 3, 0] (fun k => [(8, vI (k : Int)), (4, vI (sealTo s k).2), (3, vI (sealTo s k).1)]) (fun _ => []) ?_ 0 (Nat.zero_le _)
 rintro k hk _ on1
 have hb := sealTo_bd s k
 have hu := (s.data.getD k 0).toNat_lt
 refine Md ((k : Int) < (s.size : Int)) (fun h1 => ?_) fun h1 => ?_
 rotate_left
 · refine Mi ?_ (pc (pP ((0 : Int) ≤ 8)) (pc (pP (8 ≤ (64 : Int))) (pc (pP ((0 : Int) ≤ 8)) (pP (8 ≤ (64 : Int))))))
   refine M1 ?_
   refine Mstl (eS := 5) [((sealTo s k).2 / 2 ^ (8 : Int).toNat) % 256, (sealTo s k).2 % 256, ((sealTo s k).1 / 2 ^ (8 : Int).toNat) % 256, (sealTo s k).1 % 256] ?_
   refine Mt [vs (bstr ([((sealTo s k).2 / 2 ^ (8 : Int).toNat) % 256, (sealTo s k).2 % 256, ((sealTo s k).1 / 2 ^ (8 : Int).toNat) % 256, (sealTo s k).1 % 256]))] fun bs w hS => ?_
   refine ⟨?_, hS.kp⟩
   have e : k = s.size := by omega
   subst e
   simp [retOf, den, mSeal]
 refine Mi ?_ (pc (pG [(14, .sidx k)] (oc (rfl : (k : Int) = (k : Int)) (oc ((by omega) : k < s.size) on))) (pc (pP (0 ≤ ((s.data.getD k 0).toNat : Int))) (pc (pP (((s.data.getD k 0).toNat : Int) ≤ 255)) (pc (pR ((sealTo s k).1 + ((s.data.getD k 0).toNat : Int))) (pc (pP (0 ≤ (sealTo s k).1 + ((s.data.getD k 0).toNat : Int))) (pc (pP ((0 : Int) < 65521)) (pc (pR ((sealTo s k).2 + (((sealTo s k).1 + ((s.data.getD k 0).toNat : Int)) % 65521))) (pc (pP (0 ≤ (sealTo s k).2 + (((sealTo s k).1 + ((s.data.getD k 0).toNat : Int)) % 65521))) (pc (pP ((0 : Int) < 65521)) (pR ((k : Int) + 1)))))))))))
 exact on1 (k + 1) (by omega) (by omega)
theorem snap_Encode {B : Nat → Prop} (s : CState) (w : World) (hs : Rds.sub B w s) : Calls Tryz.prog 19 #[s.val] w fun e w' => e = .returned (.tuple #[vs (mSnap s.abs).1, vi (mSnap s.abs).2]) ∧ Kp [] w w' := by
 have he0 : emp.size = 0 := rfl
 have okx := Rds.okof hs
 have oks := okx.1
 have okp := okx.2.1
 have oke := okx.2.2
 have ncs := Sl.ok.nc oks
 have ncp := Sl.ok.nc okp
 have nce := Sl.ok.nc oke
 have hns : s.locks.n = s.locks.xs.length := rfl
 have hnp : s.pairs.n = s.pairs.xs.length := rfl
 have hne : s.sessions.n = s.sessions.xs.length := rfl
 have hll : s.abs.locks.length = s.locks.n := List.length_map _
 have hlp : s.abs.pairs.length = s.pairs.n := rfl
 have hle : s.abs.sessions.length = s.sessions.n := List.length_map _
 have hal : ∀ q, s.abs.locks.getD q default = (s.locks.at q).abs := fun q => abs_at q
 have hap : ∀ q, s.abs.pairs.getD q default = s.pairs.at q := fun _ => rfl
 have hae : ∀ q, s.abs.sessions.getD q default = (s.sessions.at q).abs := fun q => sabs_at q
 refine M0 ?_ Tryz.func19
 refine Mp ?_ Tryz.call31 (fun bs w hS => machine_Check s w (Rds.kp hs hS.kp))
 refine Mdn (mState s.abs = 0) (fun h1 => ?_) fun h1 => ?_
 rotate_left
 · refine Mt [ve, vi (mState s.abs)] fun bs w hS => ?_
   refine ⟨?_, hS.kp⟩
   unfold mSnap
   rw [if_neg (by assumption)]
   rfl
 have hbd := mState_bd (x := s.abs) (by assumption)
 have hb1 := hbd.1
 have hb2 := hbd.2.1
 have hb3 := hbd.2.2.1
 have hb4 : ∀ q, (s.locks.at q).line.n ≤ 3 := fun q => by
   by_cases hq : q < s.locks.n
   · have := hbd.2.2.2.1 q (by rw [hll]; exact hq); rw [hal] at this; exact this
   · rw [at_out hq]; show 0 ≤ 3; omega
 have hb5 : ∀ q, (s.sessions.at q).replies.n ≤ 4 := fun q => by
   by_cases hq : q < s.sessions.n
   · have := hbd.2.2.2.2 q (by rw [hle]; exact hq); rw [hae] at this; exact this
   · rw [at_out hq]; show 0 ≤ 4; omega
 refine M1 ?_
 have hzn1 := mNums_size [(s.index : Int), ((s.locks.n : Int) : Int)]
 simp only [List.length_cons, List.length_nil] at hzn1
 refine Mo 1 ?_ (vs := fun bs => [.pointer (some (adr bs 1 0)), .slice (some (adr bs 2 0)) 2 2]) (cs' := fun _ => [vs (emp ++ mNums [(s.index : Int), ((s.locks.n : Int) : Int)])]) Tryz.call45 (fun bs w hS hb => snap_numbers emp (⟨some ⟨bs.getD 2 0, 0, none⟩, 2, [(s.index : Int), ((s.locks.n : Int) : Int)]⟩ : Sl Int) (bs.getD 1 0) w hb (rd_local [(s.index : Int), ((s.locks.n : Int) : Int)] (hS.loc 2 ⟨3, [vI s.index, vI (s.locks.n : Int)]⟩ (by kernel_rfl) (by simp)) (by simp)) (by show 2 ≤ 1048576; omega) (by first | omega | (simp only [ByteArray.size_append]; omega)))
 rintro y _
 have hz00 : (emp ++ mNums [(s.index : Int), ((s.locks.n : Int) : Int)]).size ≤ 40 := by first | omega | (simp only [ByteArray.size_append]; omega)
 generalize hu0 : emp ++ mNums [(s.index : Int), ((s.locks.n : Int) : Int)] = z0 at hz00 ⊢
 refine Ml (σ := Nat × ByteArray) (fun ⟨i0, u0⟩ => i0 ≤ s.locks.n ∧ u0 = (s.abs.locks.take i0).foldl lockS z0 ∧ u0.size ≤ 40 + i0 * 5100) (fun ⟨i0, u0⟩ => s.locks.n - i0) (fun _ => []) [32, 31, 30, 5, 1] (fun ⟨i0, u0⟩ => [(32, vI (i0 : Int))]) (fun ⟨i0, u0⟩ => [(1, [vS u0])]) ?_ (⟨0, z0⟩) ⟨Nat.zero_le _, rfl, by show z0.size ≤ 40 + 0 * 5100; omega⟩
 rintro ⟨i0, u0⟩ ⟨hi0, hI0, hz_0⟩ _ on1
 have hb4i := hb4 i0
 have hb4x : (s.locks.at i0).line.xs.length ≤ 3 := hb4 i0
 refine Md ((i0 : Int) < (s.locks.n : Int)) (fun h2 => ?_) fun h2 => ?_
 · refine Mi ?_ (pA 34 35 (i0 : Int) i0 (s := s.locks) (fun w hk hr => (Rds.kp hs hk).1))
   have hzt3 := mTextB_size (s.locks.at i0).name
   refine Mo 1 ?_ Tryz.call46 (fun bs w hS hb => snap_text u0 (s.locks.at i0).name (bs.getD 1 0) w hb (Sl.ok.at (s := s.locks) (i := i0) okx.1 (by omega)).1 (by first | omega | (simp only [ByteArray.size_append]; omega)))
   rintro y _
   refine M1 ?_
   have hzn5 := mNums_size [((s.locks.at i0).holder : Int), ((s.locks.at i0).fence : Int), ((((s.locks.at i0).line.n : Nat) : Int) : Int)]
   simp only [List.length_cons, List.length_nil] at hzn5
   refine Mo 1 ?_ (vs := fun bs => [.pointer (some (adr bs 1 0)), .slice (some (adr bs 4 0)) 3 3]) (cs' := fun _ => [vs (u0 ++ mTextB (s.locks.at i0).name ++ mNums [((s.locks.at i0).holder : Int), ((s.locks.at i0).fence : Int), ((((s.locks.at i0).line.n : Nat) : Int) : Int)])]) Tryz.call45 (fun bs w hS hb => snap_numbers (u0 ++ mTextB (s.locks.at i0).name) (⟨some ⟨bs.getD 4 0, 0, none⟩, 3, [((s.locks.at i0).holder : Int), ((s.locks.at i0).fence : Int), ((((s.locks.at i0).line.n : Nat) : Int) : Int)]⟩ : Sl Int) (bs.getD 1 0) w hb (rd_local [((s.locks.at i0).holder : Int), ((s.locks.at i0).fence : Int), ((((s.locks.at i0).line.n : Nat) : Int) : Int)] (hS.loc 4 ⟨3, [vI (s.locks.at i0).holder, vI (s.locks.at i0).fence, vI (((s.locks.at i0).line.n : Nat) : Int)]⟩ (by kernel_rfl) (by simp)) (by simp)) (by show 3 ≤ 1048576; omega) (by first | omega | (simp only [ByteArray.size_append]; omega)))
   rintro y _
   have hzn7 := mNums_size (s.locks.at i0).line.xs
   refine Mo 1 ?_ Tryz.call45 (fun bs w hS hb => snap_numbers (u0 ++ mTextB (s.locks.at i0).name ++ mNums [((s.locks.at i0).holder : Int), ((s.locks.at i0).fence : Int), ((((s.locks.at i0).line.n : Nat) : Int) : Int)]) (s.locks.at i0).line (bs.getD 1 0) w hb (Sl.rd.sub (s := s.locks) (i := i0) (Rds.kp hs hS.kp).1 (by omega)).2 (by omega) (by first | omega | (simp only [ByteArray.size_append]; omega)))
   rintro y _
   refine Mi ?_ (pR ((i0 : Int) + 1))
   have hst0 : u0 ++ mTextB (s.locks.at i0).name ++ mNums [((s.locks.at i0).holder : Int), ((s.locks.at i0).fence : Int), ((((s.locks.at i0).line.n : Nat) : Int) : Int)] ++ mNums (s.locks.at i0).line.xs = lockS u0 (s.abs.locks.getD i0 default) := by
     rw [hal]; rfl
   have hzz0 : (u0 ++ mTextB (s.locks.at i0).name ++ mNums [((s.locks.at i0).holder : Int), ((s.locks.at i0).fence : Int), ((((s.locks.at i0).line.n : Nat) : Int) : Int)] ++ mNums (s.locks.at i0).line.xs).size ≤ 40 + (i0 + 1) * 5100 := by simp only [ByteArray.size_append]; omega
   exact on1 ⟨i0 + 1, u0 ++ mTextB (s.locks.at i0).name ++ mNums [((s.locks.at i0).holder : Int), ((s.locks.at i0).fence : Int), ((((s.locks.at i0).line.n : Nat) : Int) : Int)] ++ mNums (s.locks.at i0).line.xs⟩ ⟨by show i0 + 1 ≤ s.locks.n; omega, by show _ = (s.abs.locks.take (i0 + 1)).foldl lockS z0; rw [hst0, hI0]; exact (foldl_take (i := i0) _ _ s.abs.locks (by omega)).symm, hzz0⟩ (by show s.locks.n - (i0 + 1) < s.locks.n - i0; omega)
 refine M1 ?_
 have hzn9 := mNums_size [((s.pairs.n : Int) : Int)]
 simp only [List.length_cons, List.length_nil] at hzn9
 refine Mo 1 ?_ (vs := fun bs => [.pointer (some (adr bs 1 0)), .slice (some (adr bs 3 0)) 1 1]) (cs' := fun _ => [vs (u0 ++ mNums [((s.pairs.n : Int) : Int)])]) Tryz.call45 (fun bs w hS hb => snap_numbers u0 (⟨some ⟨bs.getD 3 0, 0, none⟩, 1, [((s.pairs.n : Int) : Int)]⟩ : Sl Int) (bs.getD 1 0) w hb (rd_local [((s.pairs.n : Int) : Int)] (hS.loc 3 ⟨3, [vI (s.pairs.n : Int)]⟩ (by kernel_rfl) (by simp)) (by simp)) (by show 1 ≤ 1048576; omega) (by first | omega | (simp only [ByteArray.size_append]; omega)))
 rintro y _
 have hz01 : (u0 ++ mNums [((s.pairs.n : Int) : Int)]).size ≤ 30000 := by first | omega | (simp only [ByteArray.size_append]; omega)
 generalize hu1 : u0 ++ mNums [((s.pairs.n : Int) : Int)] = z1 at hz01 ⊢
 refine Ml (σ := Nat × ByteArray) (fun ⟨i1, u1⟩ => i1 ≤ s.pairs.n ∧ u1 = (s.pairs.xs.take i1).foldl pairS z1 ∧ u1.size ≤ 30000 + i1 * 10100) (fun ⟨i1, u1⟩ => s.pairs.n - i1) (fun _ => []) [64, 63, 62, 5, 1] (fun ⟨i1, u1⟩ => [(64, vI (i1 : Int))]) (fun ⟨i1, u1⟩ => [(1, [vS u1])]) ?_ (⟨0, z1⟩) ⟨Nat.zero_le _, rfl, by show z1.size ≤ 30000 + 0 * 10100; omega⟩
 rintro ⟨i1, u1⟩ ⟨hi1, hI1, hz_1⟩ _ on2
 refine Md ((i1 : Int) < (s.pairs.n : Int)) (fun h3 => ?_) fun h3 => ?_
 · refine Mi ?_ (pA 66 67 (i1 : Int) i1 (s := s.pairs) (fun w hk hr => (Rds.kp hs hk).2.1))
   have hzt11 := mTextB_size (s.pairs.at i1).name
   refine Mo 1 ?_ Tryz.call46 (fun bs w hS hb => snap_text u1 (s.pairs.at i1).name (bs.getD 1 0) w hb (Sl.ok.at (s := s.pairs) (i := i1) okx.2.1 (by omega)).1 (by first | omega | (simp only [ByteArray.size_append]; omega)))
   rintro y _
   have hzt13 := mTextB_size (s.pairs.at i1).value
   refine Mo 1 ?_ Tryz.call46 (fun bs w hS hb => snap_text (u1 ++ mTextB (s.pairs.at i1).name) (s.pairs.at i1).value (bs.getD 1 0) w hb (Sl.ok.at (s := s.pairs) (i := i1) okx.2.1 (by omega)).2 (by first | omega | (simp only [ByteArray.size_append]; omega)))
   rintro y _
   refine M1 ?_
   have hzn15 := mNums_size [((s.pairs.at i1).version : Int)]
   simp only [List.length_cons, List.length_nil] at hzn15
   refine Mo 1 ?_ (vs := fun bs => [.pointer (some (adr bs 1 0)), .slice (some (adr bs 5 0)) 1 1]) (cs' := fun _ => [vs (u1 ++ mTextB (s.pairs.at i1).name ++ mTextB (s.pairs.at i1).value ++ mNums [((s.pairs.at i1).version : Int)])]) Tryz.call45 (fun bs w hS hb => snap_numbers (u1 ++ mTextB (s.pairs.at i1).name ++ mTextB (s.pairs.at i1).value) (⟨some ⟨bs.getD 5 0, 0, none⟩, 1, [((s.pairs.at i1).version : Int)]⟩ : Sl Int) (bs.getD 1 0) w hb (rd_local [((s.pairs.at i1).version : Int)] (hS.loc 5 ⟨3, [vI (s.pairs.at i1).version]⟩ (by kernel_rfl) (by simp)) (by simp)) (by show 1 ≤ 1048576; omega) (by first | omega | (simp only [ByteArray.size_append]; omega)))
   rintro y _
   refine Mi ?_ (pR ((i1 : Int) + 1))
   have hst1 : u1 ++ mTextB (s.pairs.at i1).name ++ mTextB (s.pairs.at i1).value ++ mNums [((s.pairs.at i1).version : Int)] = pairS u1 (s.pairs.xs.getD i1 default) := by
     rfl
   have hzz1 : (u1 ++ mTextB (s.pairs.at i1).name ++ mTextB (s.pairs.at i1).value ++ mNums [((s.pairs.at i1).version : Int)]).size ≤ 30000 + (i1 + 1) * 10100 := by simp only [ByteArray.size_append]; omega
   exact on2 ⟨i1 + 1, u1 ++ mTextB (s.pairs.at i1).name ++ mTextB (s.pairs.at i1).value ++ mNums [((s.pairs.at i1).version : Int)]⟩ ⟨by show i1 + 1 ≤ s.pairs.n; omega, by show _ = (s.pairs.xs.take (i1 + 1)).foldl pairS z1; rw [hst1, hI1]; exact (foldl_take (i := i1) _ _ s.pairs.xs (by omega)).symm, hzz1⟩ (by show s.pairs.n - (i1 + 1) < s.pairs.n - i1; omega)
 refine M1 ?_
 have hzn17 := mNums_size [((s.sessions.n : Int) : Int)]
 simp only [List.length_cons, List.length_nil] at hzn17
 refine Mo 1 ?_ (vs := fun bs => [.pointer (some (adr bs 1 0)), .slice (some (adr bs 4 0)) 1 1]) (cs' := fun _ => [vs (u1 ++ mNums [((s.sessions.n : Int) : Int)])]) Tryz.call45 (fun bs w hS hb => snap_numbers u1 (⟨some ⟨bs.getD 4 0, 0, none⟩, 1, [((s.sessions.n : Int) : Int)]⟩ : Sl Int) (bs.getD 1 0) w hb (rd_local [((s.sessions.n : Int) : Int)] (hS.loc 4 ⟨3, [vI (s.sessions.n : Int)]⟩ (by kernel_rfl) (by simp)) (by simp)) (by show 1 ≤ 1048576; omega) (by first | omega | (simp only [ByteArray.size_append]; omega)))
 rintro y _
 have hz02 : (u1 ++ mNums [((s.sessions.n : Int) : Int)]).size ≤ 100000 := by first | omega | (simp only [ByteArray.size_append]; omega)
 generalize hu2 : u1 ++ mNums [((s.sessions.n : Int) : Int)] = z2 at hz02 ⊢
 refine Ml (σ := Nat × ByteArray) (fun ⟨i2, u2⟩ => i2 ≤ s.sessions.n ∧ u2 = (s.abs.sessions.take i2).foldl sessS z2 ∧ u2.size ≤ 100000 + i2 * 30000) (fun ⟨i2, u2⟩ => s.sessions.n - i2) (fun _ => []) [91, 90, 89, 5] (fun ⟨i2, u2⟩ => [(91, vI (i2 : Int))]) (fun ⟨i2, u2⟩ => [(1, [vS u2])]) ?_ (⟨0, z2⟩) ⟨Nat.zero_le _, rfl, by show z2.size ≤ 100000 + 0 * 30000; omega⟩
 rintro ⟨i2, u2⟩ ⟨hi2, hI2, hz_2⟩ _ on3
 have hb5i := hb5 i2
 have hnr : (s.sessions.at i2).replies.n = (s.sessions.at i2).replies.xs.length := rfl
 refine Md ((i2 : Int) < (s.sessions.n : Int)) (fun h4 => ?_) fun h4 => ?_
 rotate_left
 · refine Mda 12 [] [] [] Tryz_mixed ?_
   have hzs25 : (mSeal u2).size = 4 := bstr_size _
   refine Mp ?_ (vs := fun bs => [vs u2]) Tryz.call47 (fun bs w hS => codec_Seal _ w (by first | assumption | omega | (simp only [emp_size]; omega)))
   refine Mih ?_ (pP (u2.size + (mSeal u2).size ≤ 9223372036854775807) (by first | omega | (simp only [ByteArray.size_append]; omega)))
   refine Mt [vs (u2 ++ (mSeal u2)), vi 0] fun bs w hS => ?_
   refine ⟨?_, hS.kp⟩
   have hb : u2 = mSnapB s.abs := by
     unfold mSnapB
     rw [hI2, List.take_of_length_le (by omega), ← hu2, hI1, List.take_of_length_le (by omega), ← hu1, hI0, List.take_of_length_le (by omega), ← hu0]
     simp only [emp_append]
     rw [hll, hlp, hle]
     rfl
   unfold mSnap
   rw [if_pos (by assumption), ← hb]
   rfl
 refine Mi ?_ (pA 93 94 (i2 : Int) i2 (s := s.sessions) (fun w hk hr => (Rds.kp hs hk).2.2))
 refine M1 ?_
 have hzn19 := mNums_size [((s.sessions.at i2).client : Int), ((s.sessions.at i2).id : Int), ((s.sessions.at i2).acked : Int), ((s.sessions.at i2).last : Int), ((((s.sessions.at i2).replies.n : Nat) : Int) : Int)]
 simp only [List.length_cons, List.length_nil] at hzn19
 refine Mo 1 ?_ (vs := fun bs => [.pointer (some (adr bs 1 0)), .slice (some (adr bs 6 0)) 5 5]) (cs' := fun _ => [vs (u2 ++ mNums [((s.sessions.at i2).client : Int), ((s.sessions.at i2).id : Int), ((s.sessions.at i2).acked : Int), ((s.sessions.at i2).last : Int), ((((s.sessions.at i2).replies.n : Nat) : Int) : Int)])]) Tryz.call45 (fun bs w hS hb => snap_numbers u2 (⟨some ⟨bs.getD 6 0, 0, none⟩, 5, [((s.sessions.at i2).client : Int), ((s.sessions.at i2).id : Int), ((s.sessions.at i2).acked : Int), ((s.sessions.at i2).last : Int), ((((s.sessions.at i2).replies.n : Nat) : Int) : Int)]⟩ : Sl Int) (bs.getD 1 0) w hb (rd_local [((s.sessions.at i2).client : Int), ((s.sessions.at i2).id : Int), ((s.sessions.at i2).acked : Int), ((s.sessions.at i2).last : Int), ((((s.sessions.at i2).replies.n : Nat) : Int) : Int)] (hS.loc 6 ⟨3, [vI (s.sessions.at i2).client, vI (s.sessions.at i2).id, vI (s.sessions.at i2).acked, vI (s.sessions.at i2).last, vI (((s.sessions.at i2).replies.n : Nat) : Int)]⟩ (by kernel_rfl) (by simp)) (by simp)) (by show 5 ≤ 1048576; omega) (by first | omega | (simp only [ByteArray.size_append]; omega)))
 rintro y _
 have hz03 : (u2 ++ mNums [((s.sessions.at i2).client : Int), ((s.sessions.at i2).id : Int), ((s.sessions.at i2).acked : Int), ((s.sessions.at i2).last : Int), ((((s.sessions.at i2).replies.n : Nat) : Int) : Int)]).size ≤ 100030 + i2 * 30000 := by first | omega | (simp only [ByteArray.size_append]; omega)
 generalize hu3 : u2 ++ mNums [((s.sessions.at i2).client : Int), ((s.sessions.at i2).id : Int), ((s.sessions.at i2).acked : Int), ((s.sessions.at i2).last : Int), ((((s.sessions.at i2).replies.n : Nat) : Int) : Int)] = z3 at hz03 ⊢
 refine Ml (σ := Nat × ByteArray) (fun ⟨i3, u3⟩ => i3 ≤ (s.sessions.at i2).replies.n ∧ u3 = ((s.sessions.at i2).replies.xs.take i3).foldl keptS z3 ∧ u3.size ≤ 100030 + i2 * 30000 + i3 * 5100) (fun ⟨i3, u3⟩ => (s.sessions.at i2).replies.n - i3) (fun _ => []) [112, 111, 110, 91, 90, 89, 5] (fun ⟨i3, u3⟩ => [(112, vI (i3 : Int))]) (fun ⟨i3, u3⟩ => [(1, [vS u3])]) ?_ (⟨0, z3⟩) ⟨Nat.zero_le _, rfl, by show z3.size ≤ 100030 + i2 * 30000 + 0 * 5100; omega⟩
 rintro ⟨i3, u3⟩ ⟨hi3, hI3, hz_3⟩ _ on4
 refine Md ((i3 : Int) < (((s.sessions.at i2).replies.n : Nat) : Int)) (fun h5 => ?_) fun h5 => ?_
 rotate_left
 · refine Mi ?_ (pR ((i2 : Int) + 1))
   have hst2 : u3 = sessS u2 (s.abs.sessions.getD i2 default) := by
     rw [hae, hI3, List.take_of_length_le (by omega), ← hu3]
     rfl
   have hzz2 : (u3).size ≤ 100000 + (i2 + 1) * 30000 := by omega
   exact on3 ⟨i2 + 1, u3⟩ ⟨by show i2 + 1 ≤ s.sessions.n; omega, by show _ = (s.abs.sessions.take (i2 + 1)).foldl sessS z2; rw [hst2, hI2]; exact (foldl_take (i := i2) _ _ s.abs.sessions (by omega)).symm, hzz2⟩ (by show s.sessions.n - (i2 + 1) < s.sessions.n - i2; omega)
 refine Mi ?_ (pA 114 115 (i3 : Int) i3 (s := (s.sessions.at i2).replies) (fun w hk hr => (Sl.rd.sub (s := s.sessions) (i := i2) (Rds.kp hs hk).2.2 (by omega))))
 refine M1 ?_
 have hzn21 := mNums_size [(((s.sessions.at i2).replies.at i3).seq : Int), (((s.sessions.at i2).replies.at i3).reply.code : Int), (((s.sessions.at i2).replies.at i3).reply.n : Int)]
 simp only [List.length_cons, List.length_nil] at hzn21
 refine Mo 1 ?_ (vs := fun bs => [.pointer (some (adr bs 1 0)), .slice (some (adr bs 8 0)) 3 3]) (cs' := fun _ => [vs (u3 ++ mNums [(((s.sessions.at i2).replies.at i3).seq : Int), (((s.sessions.at i2).replies.at i3).reply.code : Int), (((s.sessions.at i2).replies.at i3).reply.n : Int)])]) Tryz.call45 (fun bs w hS hb => snap_numbers u3 (⟨some ⟨bs.getD 8 0, 0, none⟩, 3, [(((s.sessions.at i2).replies.at i3).seq : Int), (((s.sessions.at i2).replies.at i3).reply.code : Int), (((s.sessions.at i2).replies.at i3).reply.n : Int)]⟩ : Sl Int) (bs.getD 1 0) w hb (rd_local [(((s.sessions.at i2).replies.at i3).seq : Int), (((s.sessions.at i2).replies.at i3).reply.code : Int), (((s.sessions.at i2).replies.at i3).reply.n : Int)] (hS.loc 8 ⟨3, [vI ((s.sessions.at i2).replies.at i3).seq, vI ((s.sessions.at i2).replies.at i3).reply.code, vI ((s.sessions.at i2).replies.at i3).reply.n]⟩ (by kernel_rfl) (by simp)) (by simp)) (by show 3 ≤ 1048576; omega) (by first | omega | (simp only [ByteArray.size_append]; omega)))
 rintro y _
 have hzt23 := mTextB_size ((s.sessions.at i2).replies.at i3).reply.text
 refine Mo 1 ?_ Tryz.call46 (fun bs w hS hb => snap_text (u3 ++ mNums [(((s.sessions.at i2).replies.at i3).seq : Int), (((s.sessions.at i2).replies.at i3).reply.code : Int), (((s.sessions.at i2).replies.at i3).reply.n : Int)]) ((s.sessions.at i2).replies.at i3).reply.text (bs.getD 1 0) w hb (Sl.ok.at (s := (s.sessions.at i2).replies) (i := i3) (Sl.ok.at (s := s.sessions) (i := i2) okx.2.2 (by omega)) (by omega)) (by first | omega | (simp only [ByteArray.size_append]; omega)))
 rintro y _
 refine Mi ?_ (pR ((i3 : Int) + 1))
 have hst3 : u3 ++ mNums [(((s.sessions.at i2).replies.at i3).seq : Int), (((s.sessions.at i2).replies.at i3).reply.code : Int), (((s.sessions.at i2).replies.at i3).reply.n : Int)] ++ mTextB ((s.sessions.at i2).replies.at i3).reply.text = keptS u3 ((s.sessions.at i2).replies.xs.getD i3 default) := by
   rfl
 have hzz3 : (u3 ++ mNums [(((s.sessions.at i2).replies.at i3).seq : Int), (((s.sessions.at i2).replies.at i3).reply.code : Int), (((s.sessions.at i2).replies.at i3).reply.n : Int)] ++ mTextB ((s.sessions.at i2).replies.at i3).reply.text).size ≤ 100030 + i2 * 30000 + (i3 + 1) * 5100 := by simp only [ByteArray.size_append]; omega
 exact on4 ⟨i3 + 1, u3 ++ mNums [(((s.sessions.at i2).replies.at i3).seq : Int), (((s.sessions.at i2).replies.at i3).reply.code : Int), (((s.sessions.at i2).replies.at i3).reply.n : Int)] ++ mTextB ((s.sessions.at i2).replies.at i3).reply.text⟩ ⟨by show i3 + 1 ≤ (s.sessions.at i2).replies.n; omega, by show _ = ((s.sessions.at i2).replies.xs.take (i3 + 1)).foldl keptS z3; rw [hst3, hI3]; exact (foldl_take (i := i3) _ _ (s.sessions.at i2).replies.xs (by omega)).symm, hzz3⟩ (by show (s.sessions.at i2).replies.n - (i3 + 1) < (s.sessions.at i2).replies.n - i3; omega)
theorem insR_Session (A : Option Addr) (c : Nat) (L : List CSession) (i : Nat) (ii : Int) (x : CSession) (vb tv : Nat) (w : World) (hrow : (rowA 87 A c L).p w) (hlt : ∀ b, b ∈ (rowA 87 A c L).fp → b < w.heap.size) (ei : ii = (i : Int)) (hi : i ≤ L.length) (hn : L.length ≤ 1048575) (hv : (blkR vb tv (Lay.cells x)).p w) (hvn : vb ∉ (rowA 87 A c L).fp) :
    Calls Tryz.prog 63 #[.slice A L.length c, vi ii, .slice (some (⟨vb, 0, none⟩ : Addr)) 1 1] w fun e w' => ∃ y : Option Addr × Nat, e = .returned (.slice y.1 (L.take i ++ [x] ++ L.drop i).length y.2) ∧ Turned (rowA 87 A c L) w w' (rowA 87 y.1 y.2 (L.take i ++ [x] ++ L.drop i)) := by
 subst ei
 have hrok := rowA_rok hrow
 have nc := hrok.2
 have hvk : ∀ w', Kp (rowA 87 A c L).fp w w' → (blkR vb tv (Lay.cells x)).p w' := fun w' hk => blkR_kpn hv hk hvn
 have hvs : ∀ w', Kp (rowA 87 A c L).fp w w' → SrcAt w' (some (⟨vb, 0, none⟩ : Addr)) 1 ([x].flatMap Lay.cells) := fun w' hk => blkR_src1 (hvk w' hk)
 refine Mj ?_ Tryz.func63 (WS.start1 w _ hrow (by cases A <;> simp [rowA, rowR]) hlt)
 refine Mi ?_ (pG [(12, .sl i L.length)] (oc (rfl : (i : Int) = (i : Int)) (oc (rfl : L.length = L.length) (oc ((by omega) : i ≤ L.length) on))))
 refine Mq 16 false ?_ rfl
 refine Md ((i : Int) = (L.length : Int)) (fun h1 => ?_) fun h1 => ?_
 · refine Ma ?_ (α := CSession) (L2 := [x]) 56 (fun bs w hS => hvs w hS.kp) (h63 := by show L.length + 1 ≤ _; omega) (hb := by show (L.length + 1) * _ ≤ _; omega)
   intro A1 c1
   refine Mt [.slice A1 (L ++ [x]).length c1] fun bs w hS => ?_
   have hid : i = L.length := by omega
   subst hid
   rw [List.take_length, List.drop_length, List.append_nil]
   exact ⟨(A1, c1), rfl, hS.turned⟩
 refine Mi ?_ (pR ((L.length : Int) + 1))
 refine Md ((c : Int) < (L.length : Int) + 1) (fun h2 => ?_) fun h2 => ?_
 · refine Mi ?_ (pc (pG [(34, .sl 0 i)] (oc (rfl : 0 = 0) (oc (rfl : (i : Int) = (i : Int)) (oc ((by omega) : i ≤ c) on)))) (pc (pR ((L.length : Int) + 1)) (pR (((L.length : Int) + 1) - (i : Int)))))
   refine Mapz (α := CSession) 36 3 56 i (L.length + 1 - i) ?_ (((L.length : Int) + 1) - (i : Int)) (by omega) (by omega) hi (by omega) (by omega) (by omega)
   intro g2 c2 zs hc2 hc2m hlen0
   refine Mi ?_ (pG [(43, .sl i (i + (L.length + 1 - i)))] (oc (rfl : (i : Int) = (i : Int)) (oc (rfl : i + (L.length + 1 - i) = i + (L.length + 1 - i)) (oc ((by omega) : i ≤ i + (L.length + 1 - i)) on))))
   refine Mcp (A1 := (if c2 = i then (some (⟨g2, 0, none⟩ : Addr)) else (some (⟨g2, 0, none⟩ : Addr)).map (·.add (i * 5)))) (A2 := (some (⟨vb, 0, none⟩ : Addr))) (n1 := (i + (L.length + 1 - i)) - i) (k := 1) (q := 1) (vs := [x].flatMap Lay.cells) 56 (i * Lay.size CSession) ?_ (by rw [if_neg (by omega)]; show some (Addr.add _ (i * 5)) = _; rw [addr_at]; rfl) (by simp only [Nat.min_def]; split <;> omega) (fun bs w hS => hvs w hS.kp) (by rw [one_len, Nat.one_mul]) (flat_one _) (by rw [one_len]; rw [hlen0]; have h9 := ins_fit (L := L) hi (by omega : L.length + 1 ≤ c2); omega)
   refine Mdr 8 ?_ Tryz_mixed
   refine Mih ?_ (pc (pR ((i : Int) + 1)) (pc (pG [(50, .sl (i + 1) (i + (L.length + 1 - i)))] (oc ((by omega) : (i : Int) + 1 = (((i + 1) : Nat) : Int)) (oc (rfl : i + (L.length + 1 - i) = i + (L.length + 1 - i)) (oc ((by omega) : (i + 1) ≤ i + (L.length + 1 - i)) on)))) (pG [(53, .sl i L.length)] (oc (rfl : (i : Int) = (i : Int)) (oc (rfl : L.length = L.length) (oc ((by omega) : i ≤ L.length) on))))))
   refine Mz ?_
   refine Mcp (A1 := (if c2 = (i + 1) then (some (⟨g2, 0, none⟩ : Addr)) else (some (⟨g2, 0, none⟩ : Addr)).map (·.add ((i + 1) * 5)))) (A2 := (if c = i then A else A.map (·.add (i * 5)))) (n1 := (i + (L.length + 1 - i)) - (i + 1)) (k := L.length - i) (q := (L.length - i)) (vs := (L.drop i).flatMap Lay.cells) 56 (i * Lay.size CSession + Lay.size CSession) ?_ (by rw [if_neg (by omega)]; show some (Addr.add _ ((i + 1) * 5)) = _; rw [addr_at, Nat.succ_mul]; rfl) (by simp only [Nat.min_def]; split <;> omega) (fun bs w hS => rowA_srcDrop (hS.res _ i1) hi) (drop_len L i) (flat_one _) (by rw [setAt_len (by rw [one_len, hlen0]; have h9 := ins_fit (L := L) hi (by omega : L.length + 1 ≤ c2); omega), hlen0]; exact ins_fit hi (by omega))
   refine Mt [.slice (some (⟨g2, 0, none⟩ : Addr)) (i + (L.length + 1 - i)) c2] fun bs w hS => ?_
   have hlen : (L.take i ++ [x] ++ L.drop i).length = L.length + 1 := by simp only [List.length_append, List.length_take, List.length_drop, List.length_cons, List.length_nil]; omega
   have hS2 := hS.weak (rowA 87 (some (⟨g2, 0, none⟩ : Addr)) c2 (L.take i ++ [x] ++ L.drop i)) (List.Sublist.refl _) (fun h => ins_row1 hi (by omega) hlen0 h)
   refine ⟨(some ⟨g2, 0, none⟩, c2), ?_, hS2.turned⟩
   exact congrArg (fun q => Ending.returned (Value.slice (some (⟨g2, 0, none⟩ : Addr)) q c2)) (show i + (L.length + 1 - i) = (L.take i ++ [x] ++ L.drop i).length by rw [hlen]; omega)
 refine m_raw (α := CSession) (by omega) ?_
 intro g zs hA hLc hlen0
 have hvg : vb ≠ g := fun e0 => hvn (by rw [hA]; simp [rowA, rowR, e0])
 refine Mi ?_ (pc (pR ((L.length : Int) + 1)) (pc (pG [(60, .sl 0 (L.length + 1))] (oc (rfl : 0 = 0) (oc ((by omega) : (L.length : Int) + 1 = (((L.length + 1) : Nat) : Int)) (oc ((by omega) : (L.length + 1) ≤ c) on)))) (pc (pR ((i : Int) + 1)) (pG [(66, .sl (i + 1) (L.length + 1))] (oc ((by omega) : (i : Int) + 1 = (((i + 1) : Nat) : Int)) (oc (rfl : (L.length + 1) = (L.length + 1)) (oc ((by omega) : (i + 1) ≤ (L.length + 1)) on)))))))
 refine Mx ?_ (vs := fun _ => [.slice (some (⟨vb, 0, none⟩ : Addr)) 1 1, .slice (if c = (i + 1) then A else A.map (·.add ((i + 1) * 5))) ((L.length + 1) - (i + 1)) (c - (i + 1))]) (v := .bool false) (fun bs w hS => by show (callFunc 89 #[.slice (some (⟨vb, 0, none⟩ : Addr)) 1 1, .slice (if c = (i + 1) then A else A.map (·.add ((i + 1) * 5))) ((L.length + 1) - (i + 1)) (c - (i + 1))]).run Tryz.prog w = _; rw [(show (if c = (i + 1) then A else A.map (·.add ((i + 1) * 5))) = some ⟨g, i * Lay.size CSession + Lay.size CSession, none⟩ from (by rw [if_neg (by omega), hA]; show some (Addr.add _ ((i + 1) * 5)) = _; rw [addr_at, Nat.succ_mul]; rfl)), run_callFunc_extern Tryz.func89 (by kernel_rfl) (by kernel_rfl) (by kernel_rfl) (e := Extern.SlicesOverlaps.overlaps #[36, 36] #[4]) (by kernel_rfl)]; show ((Extern.SlicesOverlaps.overlaps #[36, 36] #[4] #[.slice (some (⟨vb, 0, none⟩ : Addr)) 1 1, .slice (some _) _ _]).run _ w).andThen _ = _; rw [Go.Lib.run_overlaps_apart w 36 4 87 Tryz.underlying36 _ (fun w => sizeOf_run _ _ w (by kernel_rfl)) ⟨vb, 0, none⟩ ⟨g, i * Lay.size CSession + Lay.size CSession, none⟩ 1 1 _ _ hvg _ _ _ _ (blkR_shape (hvk w hS.kp)) (rawR_shape (hS.res _ i0)) (by rw [hlen0]; exact Nat.mul_ne_zero (by omega) (Nat.ne_of_gt Lay.pos)) (blkR_thaw (hvk w hS.kp) 0) (blkR_thaw (hvk w hS.kp) _)]; rfl)
 refine Mq 68 true ?_ rfl
 refine Mdr 8 ?_ Tryz_mixed
 refine Mih ?_ (pc (pR ((i : Int) + 1)) (pc (pG [(73, .sl (i + 1) (L.length + 1))] (oc ((by omega) : (i : Int) + 1 = (((i + 1) : Nat) : Int)) (oc (rfl : (L.length + 1) = (L.length + 1)) (oc ((by omega) : (i + 1) ≤ (L.length + 1)) on)))) (pG [(76, .sl i (L.length + 1))] (oc (rfl : (i : Int) = (i : Int)) (oc (rfl : (L.length + 1) = (L.length + 1)) (oc ((by omega) : i ≤ (L.length + 1)) on))))))
 refine Mz ?_
 refine Mcp (A1 := (if c = (i + 1) then A else A.map (·.add ((i + 1) * 5)))) (A2 := (if c = i then A else A.map (·.add (i * 5)))) (n1 := (L.length + 1) - (i + 1)) (k := (L.length + 1) - i) (q := (L.length - i)) (vs := (L.drop i).flatMap Lay.cells) 56 (i * Lay.size CSession + Lay.size CSession) ?_ (by rw [if_neg (by omega), hA]; show some (Addr.add _ ((i + 1) * 5)) = _; rw [addr_at, Nat.succ_mul]; rfl) (by simp only [Nat.min_def]; split <;> omega) (fun bs w hS => by rw [show (if c = i then A else A.map (·.add (i * 5))) = some ⟨g, i * Lay.size CSession, none⟩ from (by rw [if_neg (by omega), hA]; show some (Addr.add _ (i * 5)) = _; rw [addr_at]; rfl)]; exact raw_srcDrop hi (hS.res _ i0)) (drop_len L i) (flat_one _) (by rw [hlen0]; exact ins_fit hi (by omega))
 refine Mi ?_ (pG [(80, .sl i (L.length + 1))] (oc (rfl : (i : Int) = (i : Int)) (oc (rfl : (L.length + 1) = (L.length + 1)) (oc ((by omega) : i ≤ (L.length + 1)) on))))
 refine Mcp (A1 := (if c = i then A else A.map (·.add (i * 5)))) (A2 := (some (⟨vb, 0, none⟩ : Addr))) (n1 := (L.length + 1) - i) (k := 1) (q := 1) (vs := [x].flatMap Lay.cells) 56 (i * Lay.size CSession) ?_ (by rw [if_neg (by omega), hA]; show some (Addr.add _ (i * 5)) = _; rw [addr_at]; rfl) (by simp only [Nat.min_def]; split <;> omega) (fun bs w hS => hvs w hS.kp) (by rw [one_len, Nat.one_mul]) (flat_one _) (by rw [one_len]; rw [setAt_len (by rw [hlen0]; exact ins_fit hi (by omega)), hlen0]; have h9 := ins_fit (L := L) hi (by omega : L.length + 1 ≤ c); omega)
 refine Mt [.slice A (L.length + 1) c] fun bs w hS => ?_
 have hlen : (L.take i ++ [x] ++ L.drop i).length = L.length + 1 := by simp only [List.length_append, List.length_take, List.length_drop, List.length_cons, List.length_nil]; omega
 have hS2 := hS.weak (rowA 87 (some ⟨g, 0, none⟩) c (L.take i ++ [x] ++ L.drop i)) (List.Sublist.refl _) (fun h => ins_row2 hi (by omega) hlen0 h)
 refine ⟨(some ⟨g, 0, none⟩, c), ?_, hS2.turned⟩
 subst hA
 exact congrArg (fun q => Ending.returned (Value.slice (some (⟨g, 0, none⟩ : Addr)) q c)) (show L.length + 1 = (L.take i ++ [x] ++ L.drop i).length by rw [hlen])
theorem insR_Kept (A : Option Addr) (c : Nat) (L : List DKept) (i : Nat) (ii : Int) (x : DKept) (vb tv : Nat) (w : World) (hrow : (rowA 95 A c L).p w) (hlt : ∀ b, b ∈ (rowA 95 A c L).fp → b < w.heap.size) (ei : ii = (i : Int)) (hi : i ≤ L.length) (hn : L.length ≤ 1048575) (hv : (blkR vb tv (Lay.cells x)).p w) (hvn : vb ∉ (rowA 95 A c L).fp) :
    Calls Tryz.prog 72 #[.slice A L.length c, vi ii, .slice (some (⟨vb, 0, none⟩ : Addr)) 1 1] w fun e w' => ∃ y : Option Addr × Nat, e = .returned (.slice y.1 (L.take i ++ [x] ++ L.drop i).length y.2) ∧ Turned (rowA 95 A c L) w w' (rowA 95 y.1 y.2 (L.take i ++ [x] ++ L.drop i)) := by
 subst ei
 have hrok := rowA_rok hrow
 have nc := hrok.2
 have hvk : ∀ w', Kp (rowA 95 A c L).fp w w' → (blkR vb tv (Lay.cells x)).p w' := fun w' hk => blkR_kpn hv hk hvn
 have hvs : ∀ w', Kp (rowA 95 A c L).fp w w' → SrcAt w' (some (⟨vb, 0, none⟩ : Addr)) 1 ([x].flatMap Lay.cells) := fun w' hk => blkR_src1 (hvk w' hk)
 refine Mj ?_ Tryz.func72 (WS.start1 w _ hrow (by cases A <;> simp [rowA, rowR]) hlt)
 refine Mi ?_ (pG [(12, .sl i L.length)] (oc (rfl : (i : Int) = (i : Int)) (oc (rfl : L.length = L.length) (oc ((by omega) : i ≤ L.length) on))))
 refine Mq 16 false ?_ rfl
 refine Md ((i : Int) = (L.length : Int)) (fun h1 => ?_) fun h1 => ?_
 · refine Ma ?_ (α := DKept) (L2 := [x]) 40 (fun bs w hS => hvs w hS.kp) (h63 := by show L.length + 1 ≤ _; omega) (hb := by show (L.length + 1) * _ ≤ _; omega)
   intro A1 c1
   refine Mt [.slice A1 (L ++ [x]).length c1] fun bs w hS => ?_
   have hid : i = L.length := by omega
   subst hid
   rw [List.take_length, List.drop_length, List.append_nil]
   exact ⟨(A1, c1), rfl, hS.turned⟩
 refine Mi ?_ (pR ((L.length : Int) + 1))
 refine Md ((c : Int) < (L.length : Int) + 1) (fun h2 => ?_) fun h2 => ?_
 · refine Mi ?_ (pc (pG [(34, .sl 0 i)] (oc (rfl : 0 = 0) (oc (rfl : (i : Int) = (i : Int)) (oc ((by omega) : i ≤ c) on)))) (pc (pR ((L.length : Int) + 1)) (pR (((L.length : Int) + 1) - (i : Int)))))
   refine Mapz (α := DKept) 85 3 40 i (L.length + 1 - i) ?_ (((L.length : Int) + 1) - (i : Int)) (by omega) (by omega) hi (by omega) (by omega) (by omega)
   intro g2 c2 zs hc2 hc2m hlen0
   refine Mi ?_ (pG [(43, .sl i (i + (L.length + 1 - i)))] (oc (rfl : (i : Int) = (i : Int)) (oc (rfl : i + (L.length + 1 - i) = i + (L.length + 1 - i)) (oc ((by omega) : i ≤ i + (L.length + 1 - i)) on))))
   refine Mcp (A1 := (if c2 = i then (some (⟨g2, 0, none⟩ : Addr)) else (some (⟨g2, 0, none⟩ : Addr)).map (·.add (i * 4)))) (A2 := (some (⟨vb, 0, none⟩ : Addr))) (n1 := (i + (L.length + 1 - i)) - i) (k := 1) (q := 1) (vs := [x].flatMap Lay.cells) 40 (i * Lay.size DKept) ?_ (by rw [if_neg (by omega)]; show some (Addr.add _ (i * 4)) = _; rw [addr_at]; rfl) (by simp only [Nat.min_def]; split <;> omega) (fun bs w hS => hvs w hS.kp) (by rw [one_len, Nat.one_mul]) (flat_one _) (by rw [one_len]; rw [hlen0]; have h9 := ins_fit (L := L) hi (by omega : L.length + 1 ≤ c2); omega)
   refine Mdr 8 ?_ Tryz_mixed
   refine Mih ?_ (pc (pR ((i : Int) + 1)) (pc (pG [(50, .sl (i + 1) (i + (L.length + 1 - i)))] (oc ((by omega) : (i : Int) + 1 = (((i + 1) : Nat) : Int)) (oc (rfl : i + (L.length + 1 - i) = i + (L.length + 1 - i)) (oc ((by omega) : (i + 1) ≤ i + (L.length + 1 - i)) on)))) (pG [(53, .sl i L.length)] (oc (rfl : (i : Int) = (i : Int)) (oc (rfl : L.length = L.length) (oc ((by omega) : i ≤ L.length) on))))))
   refine Mz ?_
   refine Mcp (A1 := (if c2 = (i + 1) then (some (⟨g2, 0, none⟩ : Addr)) else (some (⟨g2, 0, none⟩ : Addr)).map (·.add ((i + 1) * 4)))) (A2 := (if c = i then A else A.map (·.add (i * 4)))) (n1 := (i + (L.length + 1 - i)) - (i + 1)) (k := L.length - i) (q := (L.length - i)) (vs := (L.drop i).flatMap Lay.cells) 40 (i * Lay.size DKept + Lay.size DKept) ?_ (by rw [if_neg (by omega)]; show some (Addr.add _ ((i + 1) * 4)) = _; rw [addr_at, Nat.succ_mul]; rfl) (by simp only [Nat.min_def]; split <;> omega) (fun bs w hS => rowA_srcDrop (hS.res _ i1) hi) (drop_len L i) (flat_one _) (by rw [setAt_len (by rw [one_len, hlen0]; have h9 := ins_fit (L := L) hi (by omega : L.length + 1 ≤ c2); omega), hlen0]; exact ins_fit hi (by omega))
   refine Mt [.slice (some (⟨g2, 0, none⟩ : Addr)) (i + (L.length + 1 - i)) c2] fun bs w hS => ?_
   have hlen : (L.take i ++ [x] ++ L.drop i).length = L.length + 1 := by simp only [List.length_append, List.length_take, List.length_drop, List.length_cons, List.length_nil]; omega
   have hS2 := hS.weak (rowA 95 (some (⟨g2, 0, none⟩ : Addr)) c2 (L.take i ++ [x] ++ L.drop i)) (List.Sublist.refl _) (fun h => ins_row1 hi (by omega) hlen0 h)
   refine ⟨(some ⟨g2, 0, none⟩, c2), ?_, hS2.turned⟩
   exact congrArg (fun q => Ending.returned (Value.slice (some (⟨g2, 0, none⟩ : Addr)) q c2)) (show i + (L.length + 1 - i) = (L.take i ++ [x] ++ L.drop i).length by rw [hlen]; omega)
 refine m_raw (α := DKept) (by omega) ?_
 intro g zs hA hLc hlen0
 have hvg : vb ≠ g := fun e0 => hvn (by rw [hA]; simp [rowA, rowR, e0])
 refine Mi ?_ (pc (pR ((L.length : Int) + 1)) (pc (pG [(60, .sl 0 (L.length + 1))] (oc (rfl : 0 = 0) (oc ((by omega) : (L.length : Int) + 1 = (((L.length + 1) : Nat) : Int)) (oc ((by omega) : (L.length + 1) ≤ c) on)))) (pc (pR ((i : Int) + 1)) (pG [(66, .sl (i + 1) (L.length + 1))] (oc ((by omega) : (i : Int) + 1 = (((i + 1) : Nat) : Int)) (oc (rfl : (L.length + 1) = (L.length + 1)) (oc ((by omega) : (i + 1) ≤ (L.length + 1)) on)))))))
 refine Mx ?_ (vs := fun _ => [.slice (some (⟨vb, 0, none⟩ : Addr)) 1 1, .slice (if c = (i + 1) then A else A.map (·.add ((i + 1) * 4))) ((L.length + 1) - (i + 1)) (c - (i + 1))]) (v := .bool false) (fun bs w hS => by show (callFunc 99 #[.slice (some (⟨vb, 0, none⟩ : Addr)) 1 1, .slice (if c = (i + 1) then A else A.map (·.add ((i + 1) * 4))) ((L.length + 1) - (i + 1)) (c - (i + 1))]).run Tryz.prog w = _; rw [(show (if c = (i + 1) then A else A.map (·.add ((i + 1) * 4))) = some ⟨g, i * Lay.size DKept + Lay.size DKept, none⟩ from (by rw [if_neg (by omega), hA]; show some (Addr.add _ ((i + 1) * 4)) = _; rw [addr_at, Nat.succ_mul]; rfl)), run_callFunc_extern Tryz.func99 (by kernel_rfl) (by kernel_rfl) (by kernel_rfl) (e := Extern.SlicesOverlaps.overlaps #[85, 85] #[4]) (by kernel_rfl)]; show ((Extern.SlicesOverlaps.overlaps #[85, 85] #[4] #[.slice (some (⟨vb, 0, none⟩ : Addr)) 1 1, .slice (some _) _ _]).run _ w).andThen _ = _; rw [Go.Lib.run_overlaps_apart w 85 4 95 Tryz.underlying85 _ (fun w => sizeOf_run _ _ w (by kernel_rfl)) ⟨vb, 0, none⟩ ⟨g, i * Lay.size DKept + Lay.size DKept, none⟩ 1 1 _ _ hvg _ _ _ _ (blkR_shape (hvk w hS.kp)) (rawR_shape (hS.res _ i0)) (by rw [hlen0]; exact Nat.mul_ne_zero (by omega) (Nat.ne_of_gt Lay.pos)) (blkR_thaw (hvk w hS.kp) 0) (blkR_thaw (hvk w hS.kp) _)]; rfl)
 refine Mq 68 true ?_ rfl
 refine Mdr 8 ?_ Tryz_mixed
 refine Mih ?_ (pc (pR ((i : Int) + 1)) (pc (pG [(73, .sl (i + 1) (L.length + 1))] (oc ((by omega) : (i : Int) + 1 = (((i + 1) : Nat) : Int)) (oc (rfl : (L.length + 1) = (L.length + 1)) (oc ((by omega) : (i + 1) ≤ (L.length + 1)) on)))) (pG [(76, .sl i (L.length + 1))] (oc (rfl : (i : Int) = (i : Int)) (oc (rfl : (L.length + 1) = (L.length + 1)) (oc ((by omega) : i ≤ (L.length + 1)) on))))))
 refine Mz ?_
 refine Mcp (A1 := (if c = (i + 1) then A else A.map (·.add ((i + 1) * 4)))) (A2 := (if c = i then A else A.map (·.add (i * 4)))) (n1 := (L.length + 1) - (i + 1)) (k := (L.length + 1) - i) (q := (L.length - i)) (vs := (L.drop i).flatMap Lay.cells) 40 (i * Lay.size DKept + Lay.size DKept) ?_ (by rw [if_neg (by omega), hA]; show some (Addr.add _ ((i + 1) * 4)) = _; rw [addr_at, Nat.succ_mul]; rfl) (by simp only [Nat.min_def]; split <;> omega) (fun bs w hS => by rw [show (if c = i then A else A.map (·.add (i * 4))) = some ⟨g, i * Lay.size DKept, none⟩ from (by rw [if_neg (by omega), hA]; show some (Addr.add _ (i * 4)) = _; rw [addr_at]; rfl)]; exact raw_srcDrop hi (hS.res _ i0)) (drop_len L i) (flat_one _) (by rw [hlen0]; exact ins_fit hi (by omega))
 refine Mi ?_ (pG [(80, .sl i (L.length + 1))] (oc (rfl : (i : Int) = (i : Int)) (oc (rfl : (L.length + 1) = (L.length + 1)) (oc ((by omega) : i ≤ (L.length + 1)) on))))
 refine Mcp (A1 := (if c = i then A else A.map (·.add (i * 4)))) (A2 := (some (⟨vb, 0, none⟩ : Addr))) (n1 := (L.length + 1) - i) (k := 1) (q := 1) (vs := [x].flatMap Lay.cells) 40 (i * Lay.size DKept) ?_ (by rw [if_neg (by omega), hA]; show some (Addr.add _ (i * 4)) = _; rw [addr_at]; rfl) (by simp only [Nat.min_def]; split <;> omega) (fun bs w hS => hvs w hS.kp) (by rw [one_len, Nat.one_mul]) (flat_one _) (by rw [one_len]; rw [setAt_len (by rw [hlen0]; exact ins_fit hi (by omega)), hlen0]; have h9 := ins_fit (L := L) hi (by omega : L.length + 1 ≤ c); omega)
 refine Mt [.slice A (L.length + 1) c] fun bs w hS => ?_
 have hlen : (L.take i ++ [x] ++ L.drop i).length = L.length + 1 := by simp only [List.length_append, List.length_take, List.length_drop, List.length_cons, List.length_nil]; omega
 have hS2 := hS.weak (rowA 95 (some ⟨g, 0, none⟩) c (L.take i ++ [x] ++ L.drop i)) (List.Sublist.refl _) (fun h => ins_row2 hi (by omega) hlen0 h)
 refine ⟨(some ⟨g, 0, none⟩, c), ?_, hS2.turned⟩
 subst hA
 exact congrArg (fun q => Ending.returned (Value.slice (some (⟨g, 0, none⟩ : Addr)) q c)) (show L.length + 1 = (L.take i ++ [x] ++ L.drop i).length by rw [hlen])
theorem insR_Pair (A : Option Addr) (c : Nat) (L : List DPair) (i : Nat) (ii : Int) (x : DPair) (vb tv : Nat) (w : World) (hrow : (rowA 132 A c L).p w) (hlt : ∀ b, b ∈ (rowA 132 A c L).fp → b < w.heap.size) (ei : ii = (i : Int)) (hi : i ≤ L.length) (hn : L.length ≤ 1048575) (hv : (blkR vb tv (Lay.cells x)).p w) (hvn : vb ∉ (rowA 132 A c L).fp) :
    Calls Tryz.prog 98 #[.slice A L.length c, vi ii, .slice (some (⟨vb, 0, none⟩ : Addr)) 1 1] w fun e w' => ∃ y : Option Addr × Nat, e = .returned (.slice y.1 (L.take i ++ [x] ++ L.drop i).length y.2) ∧ Turned (rowA 132 A c L) w w' (rowA 132 y.1 y.2 (L.take i ++ [x] ++ L.drop i)) := by
 subst ei
 have hrok := rowA_rok hrow
 have nc := hrok.2
 have hvk : ∀ w', Kp (rowA 132 A c L).fp w w' → (blkR vb tv (Lay.cells x)).p w' := fun w' hk => blkR_kpn hv hk hvn
 have hvs : ∀ w', Kp (rowA 132 A c L).fp w w' → SrcAt w' (some (⟨vb, 0, none⟩ : Addr)) 1 ([x].flatMap Lay.cells) := fun w' hk => blkR_src1 (hvk w' hk)
 refine Mj ?_ Tryz.func98 (WS.start1 w _ hrow (by cases A <;> simp [rowA, rowR]) hlt)
 refine Mi ?_ (pG [(12, .sl i L.length)] (oc (rfl : (i : Int) = (i : Int)) (oc (rfl : L.length = L.length) (oc ((by omega) : i ≤ L.length) on))))
 refine Mq 16 false ?_ rfl
 refine Md ((i : Int) = (L.length : Int)) (fun h1 => ?_) fun h1 => ?_
 · refine Ma ?_ (α := DPair) (L2 := [x]) 40 (fun bs w hS => hvs w hS.kp) (h63 := by show L.length + 1 ≤ _; omega) (hb := by show (L.length + 1) * _ ≤ _; omega)
   intro A1 c1
   refine Mt [.slice A1 (L ++ [x]).length c1] fun bs w hS => ?_
   have hid : i = L.length := by omega
   subst hid
   rw [List.take_length, List.drop_length, List.append_nil]
   exact ⟨(A1, c1), rfl, hS.turned⟩
 refine Mi ?_ (pR ((L.length : Int) + 1))
 refine Md ((c : Int) < (L.length : Int) + 1) (fun h2 => ?_) fun h2 => ?_
 · refine Mi ?_ (pc (pG [(34, .sl 0 i)] (oc (rfl : 0 = 0) (oc (rfl : (i : Int) = (i : Int)) (oc ((by omega) : i ≤ c) on)))) (pc (pR ((L.length : Int) + 1)) (pR (((L.length : Int) + 1) - (i : Int)))))
   refine Mapz (α := DPair) 35 3 40 i (L.length + 1 - i) ?_ (((L.length : Int) + 1) - (i : Int)) (by omega) (by omega) hi (by omega) (by omega) (by omega)
   intro g2 c2 zs hc2 hc2m hlen0
   refine Mi ?_ (pG [(43, .sl i (i + (L.length + 1 - i)))] (oc (rfl : (i : Int) = (i : Int)) (oc (rfl : i + (L.length + 1 - i) = i + (L.length + 1 - i)) (oc ((by omega) : i ≤ i + (L.length + 1 - i)) on))))
   refine Mcp (A1 := (if c2 = i then (some (⟨g2, 0, none⟩ : Addr)) else (some (⟨g2, 0, none⟩ : Addr)).map (·.add (i * 3)))) (A2 := (some (⟨vb, 0, none⟩ : Addr))) (n1 := (i + (L.length + 1 - i)) - i) (k := 1) (q := 1) (vs := [x].flatMap Lay.cells) 40 (i * Lay.size DPair) ?_ (by rw [if_neg (by omega)]; show some (Addr.add _ (i * 3)) = _; rw [addr_at]; rfl) (by simp only [Nat.min_def]; split <;> omega) (fun bs w hS => hvs w hS.kp) (by rw [one_len, Nat.one_mul]) (flat_one _) (by rw [one_len]; rw [hlen0]; have h9 := ins_fit (L := L) hi (by omega : L.length + 1 ≤ c2); omega)
   refine Mdr 8 ?_ Tryz_mixed
   refine Mih ?_ (pc (pR ((i : Int) + 1)) (pc (pG [(50, .sl (i + 1) (i + (L.length + 1 - i)))] (oc ((by omega) : (i : Int) + 1 = (((i + 1) : Nat) : Int)) (oc (rfl : i + (L.length + 1 - i) = i + (L.length + 1 - i)) (oc ((by omega) : (i + 1) ≤ i + (L.length + 1 - i)) on)))) (pG [(53, .sl i L.length)] (oc (rfl : (i : Int) = (i : Int)) (oc (rfl : L.length = L.length) (oc ((by omega) : i ≤ L.length) on))))))
   refine Mz ?_
   refine Mcp (A1 := (if c2 = (i + 1) then (some (⟨g2, 0, none⟩ : Addr)) else (some (⟨g2, 0, none⟩ : Addr)).map (·.add ((i + 1) * 3)))) (A2 := (if c = i then A else A.map (·.add (i * 3)))) (n1 := (i + (L.length + 1 - i)) - (i + 1)) (k := L.length - i) (q := (L.length - i)) (vs := (L.drop i).flatMap Lay.cells) 40 (i * Lay.size DPair + Lay.size DPair) ?_ (by rw [if_neg (by omega)]; show some (Addr.add _ ((i + 1) * 3)) = _; rw [addr_at, Nat.succ_mul]; rfl) (by simp only [Nat.min_def]; split <;> omega) (fun bs w hS => rowA_srcDrop (hS.res _ i1) hi) (drop_len L i) (flat_one _) (by rw [setAt_len (by rw [one_len, hlen0]; have h9 := ins_fit (L := L) hi (by omega : L.length + 1 ≤ c2); omega), hlen0]; exact ins_fit hi (by omega))
   refine Mt [.slice (some (⟨g2, 0, none⟩ : Addr)) (i + (L.length + 1 - i)) c2] fun bs w hS => ?_
   have hlen : (L.take i ++ [x] ++ L.drop i).length = L.length + 1 := by simp only [List.length_append, List.length_take, List.length_drop, List.length_cons, List.length_nil]; omega
   have hS2 := hS.weak (rowA 132 (some (⟨g2, 0, none⟩ : Addr)) c2 (L.take i ++ [x] ++ L.drop i)) (List.Sublist.refl _) (fun h => ins_row1 hi (by omega) hlen0 h)
   refine ⟨(some ⟨g2, 0, none⟩, c2), ?_, hS2.turned⟩
   exact congrArg (fun q => Ending.returned (Value.slice (some (⟨g2, 0, none⟩ : Addr)) q c2)) (show i + (L.length + 1 - i) = (L.take i ++ [x] ++ L.drop i).length by rw [hlen]; omega)
 refine m_raw (α := DPair) (by omega) ?_
 intro g zs hA hLc hlen0
 have hvg : vb ≠ g := fun e0 => hvn (by rw [hA]; simp [rowA, rowR, e0])
 refine Mi ?_ (pc (pR ((L.length : Int) + 1)) (pc (pG [(60, .sl 0 (L.length + 1))] (oc (rfl : 0 = 0) (oc ((by omega) : (L.length : Int) + 1 = (((L.length + 1) : Nat) : Int)) (oc ((by omega) : (L.length + 1) ≤ c) on)))) (pc (pR ((i : Int) + 1)) (pG [(66, .sl (i + 1) (L.length + 1))] (oc ((by omega) : (i : Int) + 1 = (((i + 1) : Nat) : Int)) (oc (rfl : (L.length + 1) = (L.length + 1)) (oc ((by omega) : (i + 1) ≤ (L.length + 1)) on)))))))
 refine Mx ?_ (vs := fun _ => [.slice (some (⟨vb, 0, none⟩ : Addr)) 1 1, .slice (if c = (i + 1) then A else A.map (·.add ((i + 1) * 3))) ((L.length + 1) - (i + 1)) (c - (i + 1))]) (v := .bool false) (fun bs w hS => by show (callFunc 127 #[.slice (some (⟨vb, 0, none⟩ : Addr)) 1 1, .slice (if c = (i + 1) then A else A.map (·.add ((i + 1) * 3))) ((L.length + 1) - (i + 1)) (c - (i + 1))]).run Tryz.prog w = _; rw [(show (if c = (i + 1) then A else A.map (·.add ((i + 1) * 3))) = some ⟨g, i * Lay.size DPair + Lay.size DPair, none⟩ from (by rw [if_neg (by omega), hA]; show some (Addr.add _ ((i + 1) * 3)) = _; rw [addr_at, Nat.succ_mul]; rfl)), run_callFunc_extern Tryz.func127 (by kernel_rfl) (by kernel_rfl) (by kernel_rfl) (e := Extern.SlicesOverlaps.overlaps #[35, 35] #[4]) (by kernel_rfl)]; show ((Extern.SlicesOverlaps.overlaps #[35, 35] #[4] #[.slice (some (⟨vb, 0, none⟩ : Addr)) 1 1, .slice (some _) _ _]).run _ w).andThen _ = _; rw [Go.Lib.run_overlaps_apart w 35 4 132 Tryz.underlying35 _ (fun w => sizeOf_run _ _ w (by kernel_rfl)) ⟨vb, 0, none⟩ ⟨g, i * Lay.size DPair + Lay.size DPair, none⟩ 1 1 _ _ hvg _ _ _ _ (blkR_shape (hvk w hS.kp)) (rawR_shape (hS.res _ i0)) (by rw [hlen0]; exact Nat.mul_ne_zero (by omega) (Nat.ne_of_gt Lay.pos)) (blkR_thaw (hvk w hS.kp) 0) (blkR_thaw (hvk w hS.kp) _)]; rfl)
 refine Mq 68 true ?_ rfl
 refine Mdr 8 ?_ Tryz_mixed
 refine Mih ?_ (pc (pR ((i : Int) + 1)) (pc (pG [(73, .sl (i + 1) (L.length + 1))] (oc ((by omega) : (i : Int) + 1 = (((i + 1) : Nat) : Int)) (oc (rfl : (L.length + 1) = (L.length + 1)) (oc ((by omega) : (i + 1) ≤ (L.length + 1)) on)))) (pG [(76, .sl i (L.length + 1))] (oc (rfl : (i : Int) = (i : Int)) (oc (rfl : (L.length + 1) = (L.length + 1)) (oc ((by omega) : i ≤ (L.length + 1)) on))))))
 refine Mz ?_
 refine Mcp (A1 := (if c = (i + 1) then A else A.map (·.add ((i + 1) * 3)))) (A2 := (if c = i then A else A.map (·.add (i * 3)))) (n1 := (L.length + 1) - (i + 1)) (k := (L.length + 1) - i) (q := (L.length - i)) (vs := (L.drop i).flatMap Lay.cells) 40 (i * Lay.size DPair + Lay.size DPair) ?_ (by rw [if_neg (by omega), hA]; show some (Addr.add _ ((i + 1) * 3)) = _; rw [addr_at, Nat.succ_mul]; rfl) (by simp only [Nat.min_def]; split <;> omega) (fun bs w hS => by rw [show (if c = i then A else A.map (·.add (i * 3))) = some ⟨g, i * Lay.size DPair, none⟩ from (by rw [if_neg (by omega), hA]; show some (Addr.add _ (i * 3)) = _; rw [addr_at]; rfl)]; exact raw_srcDrop hi (hS.res _ i0)) (drop_len L i) (flat_one _) (by rw [hlen0]; exact ins_fit hi (by omega))
 refine Mi ?_ (pG [(80, .sl i (L.length + 1))] (oc (rfl : (i : Int) = (i : Int)) (oc (rfl : (L.length + 1) = (L.length + 1)) (oc ((by omega) : i ≤ (L.length + 1)) on))))
 refine Mcp (A1 := (if c = i then A else A.map (·.add (i * 3)))) (A2 := (some (⟨vb, 0, none⟩ : Addr))) (n1 := (L.length + 1) - i) (k := 1) (q := 1) (vs := [x].flatMap Lay.cells) 40 (i * Lay.size DPair) ?_ (by rw [if_neg (by omega), hA]; show some (Addr.add _ (i * 3)) = _; rw [addr_at]; rfl) (by simp only [Nat.min_def]; split <;> omega) (fun bs w hS => hvs w hS.kp) (by rw [one_len, Nat.one_mul]) (flat_one _) (by rw [one_len]; rw [setAt_len (by rw [hlen0]; exact ins_fit hi (by omega)), hlen0]; have h9 := ins_fit (L := L) hi (by omega : L.length + 1 ≤ c); omega)
 refine Mt [.slice A (L.length + 1) c] fun bs w hS => ?_
 have hlen : (L.take i ++ [x] ++ L.drop i).length = L.length + 1 := by simp only [List.length_append, List.length_take, List.length_drop, List.length_cons, List.length_nil]; omega
 have hS2 := hS.weak (rowA 132 (some ⟨g, 0, none⟩) c (L.take i ++ [x] ++ L.drop i)) (List.Sublist.refl _) (fun h => ins_row2 hi (by omega) hlen0 h)
 refine ⟨(some ⟨g, 0, none⟩, c), ?_, hS2.turned⟩
 subst hA
 exact congrArg (fun q => Ending.returned (Value.slice (some (⟨g, 0, none⟩ : Addr)) q c)) (show L.length + 1 = (L.take i ++ [x] ++ L.drop i).length by rw [hlen])
theorem insR_Lock (A : Option Addr) (c : Nat) (L : List CLock) (i : Nat) (ii : Int) (x : CLock) (vb tv : Nat) (w : World) (hrow : (rowA 129 A c L).p w) (hlt : ∀ b, b ∈ (rowA 129 A c L).fp → b < w.heap.size) (ei : ii = (i : Int)) (hi : i ≤ L.length) (hn : L.length ≤ 1048575) (hv : (blkR vb tv (Lay.cells x)).p w) (hvn : vb ∉ (rowA 129 A c L).fp) :
    Calls Tryz.prog 95 #[.slice A L.length c, vi ii, .slice (some (⟨vb, 0, none⟩ : Addr)) 1 1] w fun e w' => ∃ y : Option Addr × Nat, e = .returned (.slice y.1 (L.take i ++ [x] ++ L.drop i).length y.2) ∧ Turned (rowA 129 A c L) w w' (rowA 129 y.1 y.2 (L.take i ++ [x] ++ L.drop i)) := by
 subst ei
 have hrok := rowA_rok hrow
 have nc := hrok.2
 have hvk : ∀ w', Kp (rowA 129 A c L).fp w w' → (blkR vb tv (Lay.cells x)).p w' := fun w' hk => blkR_kpn hv hk hvn
 have hvs : ∀ w', Kp (rowA 129 A c L).fp w w' → SrcAt w' (some (⟨vb, 0, none⟩ : Addr)) 1 ([x].flatMap Lay.cells) := fun w' hk => blkR_src1 (hvk w' hk)
 refine Mj ?_ Tryz.func95 (WS.start1 w _ hrow (by cases A <;> simp [rowA, rowR]) hlt)
 refine Mi ?_ (pG [(12, .sl i L.length)] (oc (rfl : (i : Int) = (i : Int)) (oc (rfl : L.length = L.length) (oc ((by omega) : i ≤ L.length) on))))
 refine Mq 16 false ?_ rfl
 refine Md ((i : Int) = (L.length : Int)) (fun h1 => ?_) fun h1 => ?_
 · refine Ma ?_ (α := CLock) (L2 := [x]) 56 (fun bs w hS => hvs w hS.kp) (h63 := by show L.length + 1 ≤ _; omega) (hb := by show (L.length + 1) * _ ≤ _; omega)
   intro A1 c1
   refine Mt [.slice A1 (L ++ [x]).length c1] fun bs w hS => ?_
   have hid : i = L.length := by omega
   subst hid
   rw [List.take_length, List.drop_length, List.append_nil]
   exact ⟨(A1, c1), rfl, hS.turned⟩
 refine Mi ?_ (pR ((L.length : Int) + 1))
 refine Md ((c : Int) < (L.length : Int) + 1) (fun h2 => ?_) fun h2 => ?_
 · refine Mi ?_ (pc (pG [(34, .sl 0 i)] (oc (rfl : 0 = 0) (oc (rfl : (i : Int) = (i : Int)) (oc ((by omega) : i ≤ c) on)))) (pc (pR ((L.length : Int) + 1)) (pR (((L.length : Int) + 1) - (i : Int)))))
   refine Mapz (α := CLock) 34 3 56 i (L.length + 1 - i) ?_ (((L.length : Int) + 1) - (i : Int)) (by omega) (by omega) hi (by omega) (by omega) (by omega)
   intro g2 c2 zs hc2 hc2m hlen0
   refine Mi ?_ (pG [(43, .sl i (i + (L.length + 1 - i)))] (oc (rfl : (i : Int) = (i : Int)) (oc (rfl : i + (L.length + 1 - i) = i + (L.length + 1 - i)) (oc ((by omega) : i ≤ i + (L.length + 1 - i)) on))))
   refine Mcp (A1 := (if c2 = i then (some (⟨g2, 0, none⟩ : Addr)) else (some (⟨g2, 0, none⟩ : Addr)).map (·.add (i * 4)))) (A2 := (some (⟨vb, 0, none⟩ : Addr))) (n1 := (i + (L.length + 1 - i)) - i) (k := 1) (q := 1) (vs := [x].flatMap Lay.cells) 56 (i * Lay.size CLock) ?_ (by rw [if_neg (by omega)]; show some (Addr.add _ (i * 4)) = _; rw [addr_at]; rfl) (by simp only [Nat.min_def]; split <;> omega) (fun bs w hS => hvs w hS.kp) (by rw [one_len, Nat.one_mul]) (flat_one _) (by rw [one_len]; rw [hlen0]; have h9 := ins_fit (L := L) hi (by omega : L.length + 1 ≤ c2); omega)
   refine Mdr 8 ?_ Tryz_mixed
   refine Mih ?_ (pc (pR ((i : Int) + 1)) (pc (pG [(50, .sl (i + 1) (i + (L.length + 1 - i)))] (oc ((by omega) : (i : Int) + 1 = (((i + 1) : Nat) : Int)) (oc (rfl : i + (L.length + 1 - i) = i + (L.length + 1 - i)) (oc ((by omega) : (i + 1) ≤ i + (L.length + 1 - i)) on)))) (pG [(53, .sl i L.length)] (oc (rfl : (i : Int) = (i : Int)) (oc (rfl : L.length = L.length) (oc ((by omega) : i ≤ L.length) on))))))
   refine Mz ?_
   refine Mcp (A1 := (if c2 = (i + 1) then (some (⟨g2, 0, none⟩ : Addr)) else (some (⟨g2, 0, none⟩ : Addr)).map (·.add ((i + 1) * 4)))) (A2 := (if c = i then A else A.map (·.add (i * 4)))) (n1 := (i + (L.length + 1 - i)) - (i + 1)) (k := L.length - i) (q := (L.length - i)) (vs := (L.drop i).flatMap Lay.cells) 56 (i * Lay.size CLock + Lay.size CLock) ?_ (by rw [if_neg (by omega)]; show some (Addr.add _ ((i + 1) * 4)) = _; rw [addr_at, Nat.succ_mul]; rfl) (by simp only [Nat.min_def]; split <;> omega) (fun bs w hS => rowA_srcDrop (hS.res _ i1) hi) (drop_len L i) (flat_one _) (by rw [setAt_len (by rw [one_len, hlen0]; have h9 := ins_fit (L := L) hi (by omega : L.length + 1 ≤ c2); omega), hlen0]; exact ins_fit hi (by omega))
   refine Mt [.slice (some (⟨g2, 0, none⟩ : Addr)) (i + (L.length + 1 - i)) c2] fun bs w hS => ?_
   have hlen : (L.take i ++ [x] ++ L.drop i).length = L.length + 1 := by simp only [List.length_append, List.length_take, List.length_drop, List.length_cons, List.length_nil]; omega
   have hS2 := hS.weak (rowA 129 (some (⟨g2, 0, none⟩ : Addr)) c2 (L.take i ++ [x] ++ L.drop i)) (List.Sublist.refl _) (fun h => ins_row1 hi (by omega) hlen0 h)
   refine ⟨(some ⟨g2, 0, none⟩, c2), ?_, hS2.turned⟩
   exact congrArg (fun q => Ending.returned (Value.slice (some (⟨g2, 0, none⟩ : Addr)) q c2)) (show i + (L.length + 1 - i) = (L.take i ++ [x] ++ L.drop i).length by rw [hlen]; omega)
 refine m_raw (α := CLock) (by omega) ?_
 intro g zs hA hLc hlen0
 have hvg : vb ≠ g := fun e0 => hvn (by rw [hA]; simp [rowA, rowR, e0])
 refine Mi ?_ (pc (pR ((L.length : Int) + 1)) (pc (pG [(60, .sl 0 (L.length + 1))] (oc (rfl : 0 = 0) (oc ((by omega) : (L.length : Int) + 1 = (((L.length + 1) : Nat) : Int)) (oc ((by omega) : (L.length + 1) ≤ c) on)))) (pc (pR ((i : Int) + 1)) (pG [(66, .sl (i + 1) (L.length + 1))] (oc ((by omega) : (i : Int) + 1 = (((i + 1) : Nat) : Int)) (oc (rfl : (L.length + 1) = (L.length + 1)) (oc ((by omega) : (i + 1) ≤ (L.length + 1)) on)))))))
 refine Mx ?_ (vs := fun _ => [.slice (some (⟨vb, 0, none⟩ : Addr)) 1 1, .slice (if c = (i + 1) then A else A.map (·.add ((i + 1) * 4))) ((L.length + 1) - (i + 1)) (c - (i + 1))]) (v := .bool false) (fun bs w hS => by show (callFunc 123 #[.slice (some (⟨vb, 0, none⟩ : Addr)) 1 1, .slice (if c = (i + 1) then A else A.map (·.add ((i + 1) * 4))) ((L.length + 1) - (i + 1)) (c - (i + 1))]).run Tryz.prog w = _; rw [(show (if c = (i + 1) then A else A.map (·.add ((i + 1) * 4))) = some ⟨g, i * Lay.size CLock + Lay.size CLock, none⟩ from (by rw [if_neg (by omega), hA]; show some (Addr.add _ ((i + 1) * 4)) = _; rw [addr_at, Nat.succ_mul]; rfl)), run_callFunc_extern Tryz.func123 (by kernel_rfl) (by kernel_rfl) (by kernel_rfl) (e := Extern.SlicesOverlaps.overlaps #[34, 34] #[4]) (by kernel_rfl)]; show ((Extern.SlicesOverlaps.overlaps #[34, 34] #[4] #[.slice (some (⟨vb, 0, none⟩ : Addr)) 1 1, .slice (some _) _ _]).run _ w).andThen _ = _; rw [Go.Lib.run_overlaps_apart w 34 4 129 Tryz.underlying34 _ (fun w => sizeOf_run _ _ w (by kernel_rfl)) ⟨vb, 0, none⟩ ⟨g, i * Lay.size CLock + Lay.size CLock, none⟩ 1 1 _ _ hvg _ _ _ _ (blkR_shape (hvk w hS.kp)) (rawR_shape (hS.res _ i0)) (by rw [hlen0]; exact Nat.mul_ne_zero (by omega) (Nat.ne_of_gt Lay.pos)) (blkR_thaw (hvk w hS.kp) 0) (blkR_thaw (hvk w hS.kp) _)]; rfl)
 refine Mq 68 true ?_ rfl
 refine Mdr 8 ?_ Tryz_mixed
 refine Mih ?_ (pc (pR ((i : Int) + 1)) (pc (pG [(73, .sl (i + 1) (L.length + 1))] (oc ((by omega) : (i : Int) + 1 = (((i + 1) : Nat) : Int)) (oc (rfl : (L.length + 1) = (L.length + 1)) (oc ((by omega) : (i + 1) ≤ (L.length + 1)) on)))) (pG [(76, .sl i (L.length + 1))] (oc (rfl : (i : Int) = (i : Int)) (oc (rfl : (L.length + 1) = (L.length + 1)) (oc ((by omega) : i ≤ (L.length + 1)) on))))))
 refine Mz ?_
 refine Mcp (A1 := (if c = (i + 1) then A else A.map (·.add ((i + 1) * 4)))) (A2 := (if c = i then A else A.map (·.add (i * 4)))) (n1 := (L.length + 1) - (i + 1)) (k := (L.length + 1) - i) (q := (L.length - i)) (vs := (L.drop i).flatMap Lay.cells) 56 (i * Lay.size CLock + Lay.size CLock) ?_ (by rw [if_neg (by omega), hA]; show some (Addr.add _ ((i + 1) * 4)) = _; rw [addr_at, Nat.succ_mul]; rfl) (by simp only [Nat.min_def]; split <;> omega) (fun bs w hS => by rw [show (if c = i then A else A.map (·.add (i * 4))) = some ⟨g, i * Lay.size CLock, none⟩ from (by rw [if_neg (by omega), hA]; show some (Addr.add _ (i * 4)) = _; rw [addr_at]; rfl)]; exact raw_srcDrop hi (hS.res _ i0)) (drop_len L i) (flat_one _) (by rw [hlen0]; exact ins_fit hi (by omega))
 refine Mi ?_ (pG [(80, .sl i (L.length + 1))] (oc (rfl : (i : Int) = (i : Int)) (oc (rfl : (L.length + 1) = (L.length + 1)) (oc ((by omega) : i ≤ (L.length + 1)) on))))
 refine Mcp (A1 := (if c = i then A else A.map (·.add (i * 4)))) (A2 := (some (⟨vb, 0, none⟩ : Addr))) (n1 := (L.length + 1) - i) (k := 1) (q := 1) (vs := [x].flatMap Lay.cells) 56 (i * Lay.size CLock) ?_ (by rw [if_neg (by omega), hA]; show some (Addr.add _ (i * 4)) = _; rw [addr_at]; rfl) (by simp only [Nat.min_def]; split <;> omega) (fun bs w hS => hvs w hS.kp) (by rw [one_len, Nat.one_mul]) (flat_one _) (by rw [one_len]; rw [setAt_len (by rw [hlen0]; exact ins_fit hi (by omega)), hlen0]; have h9 := ins_fit (L := L) hi (by omega : L.length + 1 ≤ c); omega)
 refine Mt [.slice A (L.length + 1) c] fun bs w hS => ?_
 have hlen : (L.take i ++ [x] ++ L.drop i).length = L.length + 1 := by simp only [List.length_append, List.length_take, List.length_drop, List.length_cons, List.length_nil]; omega
 have hS2 := hS.weak (rowA 129 (some ⟨g, 0, none⟩) c (L.take i ++ [x] ++ L.drop i)) (List.Sublist.refl _) (fun h => ins_row2 hi (by omega) hlen0 h)
 refine ⟨(some ⟨g, 0, none⟩, c), ?_, hS2.turned⟩
 subst hA
 exact congrArg (fun q => Ending.returned (Value.slice (some (⟨g, 0, none⟩ : Addr)) q c)) (show L.length + 1 = (L.take i ++ [x] ++ L.drop i).length by rw [hlen])
theorem pair_find_1 (x : DPair) (t : ByteArray) (w : World) : Calls Tryz.prog 126 #[x.val, vs t] w fun e w' => e = .returned (vi (cmpS x.name t)) ∧ Kp [] w w' := by
 refine M0 ?_ Tryz.func126
 refine Mp ?_ Tryz.call93 (fun bs w hS => strings_Compare x.name t w)
 exact Mt [vi (cmpS x.name t)] fun bs w hS => ⟨rfl, hS.kp⟩
theorem bs_pair_find_1 {B : Nat → Prop} (s : Sl DPair) (t : ByteArray) (w : World) (hs : s.rd B w) (hn : s.n ≤ 1048576) : Calls Tryz.prog 125 #[s.val, vs t, .func (.func 126) #[] #[]] w fun e w' => e = .returned (.tuple #[vi (mBS (fun x : DPair => cmpS x.name t) s.xs : Nat), vb (mBSf (fun x : DPair => cmpS x.name t) s.xs)]) ∧ Kp [] w w' := by
 have oks := Sl.rd.ok hs
 have ncs := Sl.ok.nc oks
 have hns : s.n = s.xs.length := rfl
 refine Mj ?_ Tryz.func125 (WS.start w)
 refine Ml (σ := Nat × Nat × Nat) (fun ⟨i, j, f⟩ => i ≤ j ∧ j ≤ s.n ∧ j - i ≤ f ∧ mBS (fun x : DPair => cmpS x.name t) s.xs = bsGo (fun j => decide (cmpS (s.at j).name t < 0)) f i j) (fun ⟨i, j, f⟩ => f) (fun _ => []) [10, 9, 8, 0, 1, 2] (fun ⟨i, j, f⟩ => [(10, vI (j : Int)), (9, vI (i : Int))]) (fun _ => []) ?_ (⟨0, s.n, s.n⟩) ⟨Nat.zero_le _, Nat.le_refl _, Nat.le_refl _, rfl⟩
 rintro ⟨i, j, f⟩ ⟨h1, h2, h3, hI⟩ _ on1
 have hdiv : ((i : Int) + (j : Int)) / 2 = (((i + j) / 2 : Nat) : Int) := by omega
 refine Md ((i : Int) < (j : Int)) (fun h1 => ?_) fun h1 => ?_
 rotate_left
 · refine Md ((i : Int) < (s.n : Int)) (fun h3 => ?_) fun h3 => ?_
   rotate_left
   · refine Mt [vi (i : Int), vb false] fun bs w hS => ?_
     have hij : i = j := by omega
     subst hij
     have hr : mBS (fun x : DPair => cmpS x.name t) s.xs = i := by rw [hI]; exact bsGo_end _ _ _ _ (Nat.le_refl _)
     refine ⟨?_, hS.kp⟩
     have hr2 : mBSf (fun x : DPair => cmpS x.name t) s.xs = false := by
       unfold mBSf; rw [hr]
       rw [decide_eq_false (show ¬ i < s.xs.length by omega)]; rfl
     rw [hr, hr2]
     rfl
   refine Mi ?_ (pA 43 44 (i : Int) i (rdk hs))
   refine Mp ?_ Tryz.call126 (fun bs w hS => pair_find_1 (s.at i) t w)
   refine Mt [vi (i : Int), vb (decide (cmpS (s.at i).name t = 0))] fun bs w hS => ?_
   have hij : i = j := by omega
   subst hij
   have hr : mBS (fun x : DPair => cmpS x.name t) s.xs = i := by rw [hI]; exact bsGo_end _ _ _ _ (Nat.le_refl _)
   refine ⟨?_, hS.kp⟩
   have hr2 : mBSf (fun x : DPair => cmpS x.name t) s.xs = (decide (cmpS (s.at i).name t = 0)) := by
     unfold mBSf; rw [hr]
     rw [decide_eq_true (show i < s.xs.length by omega)]; rfl
   rw [hr, hr2]
   rfl
 refine Mi ?_ (pc (pR ((i : Int) + (j : Int))) (pc (pG [(21, .val (.int .u64 ((i : Int) + (j : Int))))] (oc ((conv_i64_u64 Tryz.underlying3 Tryz.underlying175 (by omega) (by omega)) : ∀ w, (convert 3 175 (vi ((i : Int) + (j : Int))) : Sem Value).run Tryz.prog w = .ok (.int .u64 ((i : Int) + (j : Int))) w) on)) (pc (pG [(22, .val (.int .u64 (((i : Int) + (j : Int)) / 2)))] (oc (shr_u64 : ∀ w, (do eqGuard .shr 175 (.tmp 21) (.const (.int .u64 1)) (.int .u64 ((i : Int) + (j : Int))) (.int .u64 1); binOp .shr 175 (.int .u64 ((i : Int) + (j : Int))) (.int .u64 1) : Sem Value).run Tryz.prog w = .ok (.int .u64 (((i : Int) + (j : Int)) / 2)) w) on)) (pc (pG [(23, .val (vi (((i : Int) + (j : Int)) / 2)))] (oc ((conv_u64_i64 Tryz.underlying175 Tryz.underlying3 (by omega) (by omega)) : ∀ w, (convert 175 3 (.int .u64 (((i : Int) + (j : Int)) / 2)) : Sem Value).run Tryz.prog w = .ok (vi (((i : Int) + (j : Int)) / 2)) w) on)) (pA 27 28 (((i : Int) + (j : Int)) / 2) (((i : Int) + (j : Int)) / 2).toNat (rdk hs))))))
 refine Mp ?_ Tryz.call126 (fun bs w hS => pair_find_1 (s.at (((i : Int) + (j : Int)) / 2).toNat) t w)
 refine Md (cmpS (s.at (((i : Int) + (j : Int)) / 2).toNat).name t < 0) (fun h2 => ?_) fun h2 => ?_
 rotate_left
 · have hf1 : f = (f - 1) + 1 := by omega
   rw [hf1] at hI
   have hI2 := hI.trans (bsGo_down (by omega) (decide_eq_false (by assumption)))
   exact on1 ⟨i, (i + j) / 2, f - 1⟩ ⟨by omega, by omega, by omega, hI2⟩ (by show f - 1 < f; omega)
 refine Mi ?_ (pR ((((i : Int) + (j : Int)) / 2) + 1))
 have hf1 : f = (f - 1) + 1 := by omega
 rw [hf1] at hI
 have hI2 := hI.trans (bsGo_up (by omega) (decide_eq_true (by assumption)))
 exact on1 ⟨(i + j) / 2 + 1, j, f - 1⟩ ⟨by omega, by omega, by omega, hI2⟩ (by show f - 1 < f; omega)
theorem pair_find {B : Nat → Prop} (s : Sl DPair) (t : ByteArray) (w : World) (hs : s.rd B w) (hn : s.n ≤ 1048576) : Calls Tryz.prog 97 #[s.val, vs t] w fun e w' => e = .returned (.tuple #[vi (mBS (fun x : DPair => cmpS x.name t) s.xs : Nat), vb (mBSf (fun x : DPair => cmpS x.name t) s.xs)]) ∧ Kp [] w w' := by
 have oks := Sl.rd.ok hs
 have ncs := Sl.ok.nc oks
 have hns : s.n = s.xs.length := rfl
 refine M0 ?_ Tryz.func97
 refine Mp ?_ Tryz.call125 (fun bs w hS => bs_pair_find_1 s t w (Sl.rd.kp hs hS.kp) (by omega))
 exact Mt [vi ((mBS (fun x : DPair => cmpS x.name t) s.xs : Nat) : Int), vb (mBSf (fun x : DPair => cmpS x.name t) s.xs)] fun bs w hS => ⟨rfl, hS.kp⟩
theorem clone_Pair {B : Nat → Prop} (s : Sl DPair) (w : World) (hs : s.rd B w) (hb : s.n ≤ 1048576) : Calls Tryz.prog 59 #[s.val] w fun e w' => ∃ y : Sl DPair, e = .returned y.val ∧ y.xs = s.xs ∧ Kp [] w w' ∧ Fresh w w' (rowA 132 y.A y.c y.xs) := by
 have oks := Sl.rd.ok hs
 have ncs := Sl.ok.nc oks
 have hns : s.n = s.xs.length := rfl
 refine M0 ?_ Tryz.func59
 refine Mi ?_ (pG [(4, .val (.bool s.A.isNone))] (oc ((eq_nil Tryz.underlying35) : ∀ w, (do eqGuard .eql 35 (.tmp 3) (.const vn) s.val vn; binOp .eql 35 s.val vn : Sem Value).run Tryz.prog w = .ok (.bool s.A.isNone) w) on))
 refine Mb s.A.isNone (fun h1 => ?_) fun h1 => ?_
 · refine Mt [vn] fun bs w hS => ?_
   have hnil : s.xs = [] := Sl.ok.empty oks (by cases h : s.A <;> simp_all)
   exact ⟨Sl.nil, rfl, hnil.symm, hS.kp, rowA_nil 132 w⟩
 refine Mlz ?_ (α := DPair) (e := 132)
 intro A1
 refine Ma ?_ (α := DPair) (L2 := s.xs) 40 (fun bs w hS => Sl.rd.src (s := s) (Sl.rd.kp hs hS.kp))
 intro A2 c2
 exact Mt [.slice A2 ([] ++ s.xs).length c2] fun bs w hS => ⟨⟨A2, c2, [] ++ s.xs⟩, rfl, by simp, hS.kp, hS.out1⟩
end Go.Proofs.YtbjakddkfgjkaaaGreatDoor.W
