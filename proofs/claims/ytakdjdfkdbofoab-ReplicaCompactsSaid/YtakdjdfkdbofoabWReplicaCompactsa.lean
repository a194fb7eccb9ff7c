/-
  The functions that the law ReplicaCompacts reaches, walked: each returns what its model says.
  Conditions: those that each theorem states.
-/
import Derived.Test.YtakdjdfkdbofoabFe
import Derived.Test.YtakdjdfkdbofoabChecked
set_option linter.unusedVariables false
set_option linter.unusedSimpArgs false
set_option maxRecDepth 100000
set_option maxHeartbeats 2000000
namespace Go.Proofs.Ytakdjdfkdbofoab.W
open Go.Proofs.Ytakdjdfkdbofoab.Fw Go.RowKit
attribute [local irreducible] JM nx

theorem Try_mixed : Try.prog.follows .mixedOrders = true := by kernel_rfl
theorem laid : laidOutB Try.prog = true := by kernel_rfl

theorem ref_In (n lo hi : Int) (w : World) : Calls Try.prog 56 #[vi n, vi lo, vi hi] w fun e w' => e = .returned (vb (inB n lo hi)) ∧ Kp [] w w' := by
 refine M0 ?_ Try.func56
 refine Md (lo ≤ n) (fun h1 => ?_) fun h1 => ?_
 rotate_left
 · exact Mt [vb false] fun bs w hS => ⟨by simp [retOf, den, inB, h1], hS.kp⟩
 exact Mt [vb (decide (n ≤ hi))] fun bs w hS => ⟨by simp [retOf, den, inB, h1], hS.kp⟩

theorem lock_Name1 (c : UInt8) (w : World) : Calls Try.prog 97 #[.int .u8 (c.toNat : Int)] w fun e w' => e = .returned (vb (nameBad c)) ∧ Kp [] w w' := by
 refine M0 ?_ Try.func97
 refine Md ((c.toNat : Int) < 97) (fun h1 => ?_) fun h1 => ?_
 · exact Mt [vb true] fun bs w hS => ⟨by simp [retOf, den, nameBad, h1], hS.kp⟩
 exact Mt [vb (decide ((122 : Int) < (c.toNat : Int)))] fun bs w hS => ⟨by simp [retOf, den, nameBad, h1], hS.kp⟩

theorem idx_bytes {B : Nat → Prop} (s : Sl UInt8) (w : World) (hs : s.rd B w) : Calls Try.prog 137 #[s.val, .func (.func 97) #[] #[]] w fun e w' => e = .returned (vi (mIdx nameBad s.xs)) ∧ Kp [] w w' := by
 have oks := Sl.rd.ok hs
 have ncs := Sl.ok.nc oks
 have hns : s.n = s.xs.length := rfl
 refine Mj ?_ Try.func137 (WS.start w)
 refine Ml (σ := Nat) (fun i => i ≤ s.n ∧ ∀ j, j < i → nameBad (s.at j) = false) (fun i => s.n - i) (fun _ => []) [8, 7, 0, 1] (fun i => [(8, vI (i : Int))]) (fun _ => []) ?_ 0 ⟨Nat.zero_le _, fun j hj => absurd hj (Nat.not_lt_zero _)⟩
 rintro i ⟨hi, hI⟩ _ on1
 refine Md ((i : Int) < (s.n : Int)) (fun h1 => ?_) fun h1 => ?_
 rotate_left
 · exact Me0 (-1) (by rw [mIdx_none fun j hj => hI j (by omega)])
 refine Mi ?_ (pA 14 15 (i : Int) i (rdk hs))
 refine Mp ?_ Try.call97 (fun bs w hS => lock_Name1 (s.at i) w)
 refine Mb (nameBad (s.at i)) (fun h2 => ?_) fun h2 => ?_
 · exact Me0 (i : Int) (by rw [mIdx_here (by omega) (by assumption) hI])
 refine Mi ?_ (pR ((i : Int) + 1))
 exact on1 (i + 1) ⟨by omega, fun j hj => by rcases Nat.lt_succ_iff_lt_or_eq.1 hj with h | h; exact hI j h; subst h; assumption⟩ (by omega)

theorem has_bytes {B : Nat → Prop} (s : Sl UInt8) (w : World) (hs : s.rd B w) : Calls Try.prog 96 #[s.val, .func (.func 97) #[] #[]] w fun e w' => e = .returned (vb (s.xs.any nameBad)) ∧ Kp [] w w' := by
 have oks := Sl.rd.ok hs
 have ncs := Sl.ok.nc oks
 have hns : s.n = s.xs.length := rfl
 refine Mj ?_ Try.func96 (WS.start w)
 refine Mp ?_ Try.call137 (fun bs w hS => idx_bytes _ w (Sl.rd.kp hs hS.kp))
 exact Meb (decide ((0 : Int) ≤ mIdx nameBad s.xs)) (by simp only [retOf, den, List.map_cons, List.map_nil, mIdx_nonneg])

theorem lock_Name (s : ByteArray) (w : World) (hs : s.size ≤ 9223372036854775807) : Calls Try.prog 43 #[vs s] w fun e w' => e = .returned (vb (mName s)) ∧ Kp [] w w' := by
 refine M0 ?_ Try.func43
 refine Mdn (s = emp) (fun h1 => ?_) fun h1 => ?_
 · exact Meb false (by simp [retOf, den, mName, *])
 refine Md ((s.size : Int) ≤ 6) (fun h2 => ?_) fun h2 => ?_
 rotate_left
 · exact Meb false (by simp [retOf, den, mName, *])
 refine Msy ?_ (e := 5) (by unfold maxLen; omega)
 rintro fp1 y1 hF1 hok1
 refine Mp ?_ Try.call96 (fun bs w hS => has_bytes _ w (hS.res _ i0))
 exact Meb (!(y1.xs.any nameBad)) (by simp [retOf, den, mName, *])

theorem ref_NameMay (s : ByteArray) (w : World) (hs : s.size ≤ 9223372036854775807) : Calls Try.prog 48 #[vs s] w fun e w' => e = .returned (vb (mName s)) ∧ Kp [] w w' := by
 refine M0 ?_ Try.func48
 refine Ml (σ := Nat) (fun i => i ≤ s.size ∧ ∀ j, j < i → nameBad (s.data.getD j 0) = false) (fun i => s.size - i) (fun _ => []) [3, 0] (fun i => [(3, vI (i : Int))]) (fun _ => []) ?_ 0 ⟨Nat.zero_le _, fun j hj => absurd hj (Nat.not_lt_zero _)⟩
 rintro i ⟨hi, hI⟩ _ on1
 have hu := (s.data.getD i 0).toNat_lt
 refine Md ((i : Int) < (s.size : Int)) (fun h1 => ?_) fun h1 => ?_
 rotate_left
 · refine Mp ?_ Try.call56 (fun bs w hS => ref_In (s.size : Int) 1 6 w)
   exact Meb (inB (s.size : Int) 1 6) (by simp only [retOf, den, List.map_cons, List.map_nil, mName_good fun j hj => hI j (by omega)])
 refine Mi ?_ (pc (pG [(12, .sidx i)] (oc (rfl : (i : Int) = (i : Int)) (oc ((by omega) : i < s.size) on))) (pc (pP (0 ≤ ((s.data.getD i 0).toNat : Int))) (pP (((s.data.getD i 0).toNat : Int) ≤ 255))))
 refine Mp ?_ Try.call56 (fun bs w hS => ref_In ((s.data.getD i 0).toNat : Int) 97 122 w)
 refine Mbn (inB ((s.data.getD i 0).toNat : Int) 97 122) (fun h2 => ?_) fun h2 => ?_
 rotate_left
 · refine Mt [vb false] fun bs w hS => ?_
   clear on1
   refine ⟨?_, hS.kp⟩
   rw [mName_bad (i := i) (by omega) (by simp only [inB, nameBad, Bool.and_eq_false_iff, Bool.or_eq_true, decide_eq_true_eq, decide_eq_false_iff_not] at *; omega)]
   rfl
 refine Mi ?_ (pR ((i : Int) + 1))
 exact on1 (i + 1) ⟨by omega, fun j hj => by rcases Nat.lt_succ_iff_lt_or_eq.1 hj with h | h; exact hI j h; subst h; simp only [inB, nameBad, Bool.and_eq_true, Bool.or_eq_false_iff, decide_eq_true_eq, decide_eq_false_iff_not] at *; omega⟩ (by omega)

theorem codec_Number (n : Int) (w : World) : Calls Try.prog 154 #[vi n] w fun e w' => e = .returned (.tuple #[vs (mNumber n).1, vi (mNumber n).2]) ∧ Kp [] w w' := by
 refine M0 ?_ Try.func154
 refine Md (n < 0) (fun h1 => ?_) fun h1 => ?_
 · exact Mt [ve, vi 2] fun bs w hS => ⟨by simp [retOf, den, mNumber, h1], hS.kp⟩
 refine Md ((1099511627776 : Int) < n) (fun h2 => ?_) fun h2 => ?_
 · exact Mt [ve, vi 2] fun bs w hS => ⟨by simp [retOf, den, mNumber, h1, h2], hS.kp⟩
 refine m_row 5 1 ?_
 refine Ml (σ := List Int × Int × Nat × Option Addr × Nat) (fun ⟨done, m, f, A, c⟩ => NumIn n done m f) (fun ⟨done, m, f, A, c⟩ => f) (fun ⟨done, m, f, A, c⟩ => [rowR 5 1 A done.length c (done.map (Value.int .u8))]) [4, 0] (fun ⟨done, m, f, A, c⟩ => [(4, .v (.slice A done.length c)), (0, vI m)]) (fun _ => []) ?_ (⟨[], n, 5, none, 0⟩) (NumIn.start (by omega) (by omega))
 rintro ⟨done, m, f, A, c⟩ hI _ on1
 have hlo := hI.lo
 have hhi := hI.hi
 have hlen := hI.len
 refine Md ((128 : Int) ≤ m) (fun h3 => ?_) fun h3 => ?_
 · refine M1 ?_
   refine Mar 1 [.int .u8 ((bits .or .i64 (bits .and .i64 m 127) 128) % 256)] ?_ (k := 1)
   intro A1 c1
   refine Mi ?_ (pc (pP ((0 : Int) ≤ 7)) (pP (7 ≤ (64 : Int))))
   have hst := hI.step h3
   exact on1 ⟨done ++ [128 + m % 128], m / 128, f - 1, A1, c1⟩ hst.2 (by have := hst.1; show f - 1 < f; omega) (hp := (by simp only [List.length_append, List.length_cons, List.length_nil]; kernel_rfl)) (hR := (by rw [byte_or m hlo hhi]; simp))
 refine M1 ?_
 refine Mar 1 [.int .u8 (m % 256)] ?_ (k := 1)
 intro A2 c2
 refine Mst (eS := 5) (A := A2) (n := done.length + 1) (c := c2) (done ++ [m % 256]) ?_ (fun bs w hS => ?_) (hn := by first | rfl | simp)
 rotate_left
 · obtain ⟨g, hg, hc⟩ := row_cells (e := 5) (size := 1) (A := A2) (n := done.length + 1) (c := c2) (xs := done.map (Value.int .u8) ++ [.int .u8 (m % 256)]) hS (by simp) (by omega)
   subst hg
   exact ⟨⟨g, 0, none⟩, rfl, by simpa using hc⟩
 refine Mt [vs (bstr (done ++ [m % 256])), vi 0] fun bs w hS => ?_
 have e1 : m % 256 = m := by omega
 have e2 := hI.done (by omega)
 refine ⟨?_, hS.kp⟩
 simp only [retOf, den, List.map_cons, List.map_nil, mNumber, e1, e2]
 rw [if_neg (by omega)]

theorem ref_NumberBytes (n : Int) (w : World) : Calls Try.prog 156 #[vi n] w fun e w' => e = .returned (.tuple #[vs (mNumber n).1, vi (mNumber n).2]) ∧ Kp [] w w' := by
 refine M0 ?_ Try.func156
 refine Mp ?_ Try.call56 (fun bs w hS => ref_In n 0 1099511627776 w)
 refine Mbn (inB n 0 1099511627776) (fun h1 => ?_) fun h1 => ?_
 rotate_left
 · refine Mt [ve, vi 2] fun bs w hS => ?_
   simp [inB] at h1
   exact ⟨by simp only [retOf, den, List.map_cons, List.map_nil, mNumber]; rw [if_pos (by omega)], hS.kp⟩
 refine Ml (σ := List Int × Int × Nat) (fun ⟨done, m, f⟩ => NumIn n done m f) (fun ⟨done, m, f⟩ => f) (fun _ => []) [4, 0] (fun ⟨done, m, f⟩ => [(4, vS (bstr done)), (0, vI m)]) (fun _ => []) ?_ (⟨[], n, 5⟩) (NumIn.start (by simp [inB] at h1; omega) (by simp [inB] at h1; omega))
 rintro ⟨done, m, f⟩ hI _ on1
 have hlo := hI.lo
 have hhi := hI.hi
 have hlen := hI.len
 refine Md ((128 : Int) ≤ m) (fun h2 => ?_) fun h2 => ?_
 rotate_left
 · refine M1 ?_
   refine Mstl (eS := 5) [m % 256] ?_
   refine Mi ?_ (pP ((bstr done).size + (bstr ([m % 256])).size ≤ 9223372036854775807) (by simp only [bstr_size, List.length_cons, List.length_nil]; omega))
   refine Mt [vs ((bstr done) ++ (bstr ([m % 256]))), vi 0] fun bs w hS => ?_
   have e1 : m % 256 = m := by omega
   have e2 := hI.done (by omega)
   simp [inB] at h1
   refine ⟨?_, hS.kp⟩
   simp only [retOf, den, List.map_cons, List.map_nil, mNumber, e1, bstr_append, e2]
   rw [if_neg (by omega)]
 refine Mi ?_ (pc (pP (0 ≤ m)) (pc (pP ((0 : Int) < 128)) (pR ((128 : Int) + (m % 128)))))
 refine M1 ?_
 refine Mstl (eS := 5) [((128 : Int) + (m % 128)) % 256] ?_
 refine Mi ?_ (pc (pP ((bstr done).size + (bstr ([((128 : Int) + (m % 128)) % 256])).size ≤ 9223372036854775807) (by simp only [bstr_size, List.length_cons, List.length_nil]; omega)) (pc (pP (0 ≤ m)) (pc (pP (m ≤ 9223372036854775807)) (pP ((0 : Int) < 128)))))
 have hst := hI.step h2
 exact on1 ⟨done ++ [128 + m % 128], m / 128, f - 1⟩ hst.2 (by have := hst.1; show f - 1 < f; omega) (hp := (by try dsimp only; rw [show bstr (done ++ [128 + m % 128]) = bstr done ++ bstr [((128 : Int) + (m % 128)) % 256] by rw [bstr_append, show ((128 : Int) + m % 128) % 256 = 128 + m % 128 by omega]]; kernel_rfl))

theorem codec_Text (s : ByteArray) (w : World) (hs : s.size ≤ 9223372036854775807) : Calls Try.prog 155 #[vs s] w fun e w' => e = .returned (.tuple #[vs (mText s).1, vi (mText s).2]) ∧ Kp [] w w' := by
 refine M0 ?_ Try.func155
 refine Md ((5000 : Int) < (s.size : Int)) (fun h1 => ?_) fun h1 => ?_
 · refine Mt [ve, vi 1] fun bs w hS => ?_
   refine ⟨?_, hS.kp⟩
   simp only [retOf, den, List.map_cons, List.map_nil, mText]
   first | rw [if_pos (by omega)] | rw [if_neg (by omega)]
 refine Mp ?_ Try.call154 (fun bs w hS => codec_Number (s.size : Int) w)
 refine Mi ?_ (pP ((mNumber (s.size : Int)).1.size + s.size ≤ 9223372036854775807) (by have := mNumber_size (s.size : Int); omega))
 refine Mt [vs ((mNumber (s.size : Int)).1 ++ s), vi 0] fun bs w hS => ?_
 refine ⟨?_, hS.kp⟩
 simp only [retOf, den, List.map_cons, List.map_nil, mText]
 first | rw [if_pos (by omega)] | rw [if_neg (by omega)]

theorem ref_TextBytes (s : ByteArray) (w : World) (hs : s.size ≤ 9223372036854775807) : Calls Try.prog 157 #[vs s] w fun e w' => e = .returned (.tuple #[vs (mText s).1, vi (mText s).2]) ∧ Kp [] w w' := by
 refine M0 ?_ Try.func157
 refine Md ((5000 : Int) < (s.size : Int)) (fun h1 => ?_) fun h1 => ?_
 · refine Mt [ve, vi 1] fun bs w hS => ?_
   refine ⟨?_, hS.kp⟩
   simp only [retOf, den, List.map_cons, List.map_nil, mText]
   first | rw [if_pos (by omega)] | rw [if_neg (by omega)]
 refine Mp ?_ Try.call156 (fun bs w hS => ref_NumberBytes (s.size : Int) w)
 refine Mi ?_ (pP ((mNumber (s.size : Int)).1.size + s.size ≤ 9223372036854775807) (by have := mNumber_size (s.size : Int); omega))
 refine Mt [vs ((mNumber (s.size : Int)).1 ++ s), vi 0] fun bs w hS => ?_
 refine ⟨?_, hS.kp⟩
 simp only [retOf, den, List.map_cons, List.map_nil, mText]
 first | rw [if_pos (by omega)] | rw [if_neg (by omega)]

theorem codec_ReadNumber (s : ByteArray) (w : World) (hs : s.size ≤ 9223372036854775807) : Calls Try.prog 145 #[vs s] w fun e w' => e = .returned (.tuple #[vi (mRead s).1, vs (mRead s).2.1, vi (mRead s).2.2]) ∧ Kp [] w w' := by
 refine M0 ?_ Try.func145
 refine Ml (σ := Nat × Int) (fun ⟨i, n⟩ => RdIn s i n) (fun ⟨i, n⟩ => 6 - i) (fun _ => []) [6, 5, 0] (fun ⟨i, n⟩ => [(6, vI (i : Int)), (5, vI n)]) (fun _ => []) ?_ (⟨0, 0⟩) (RdIn.start s)
 rintro ⟨i, n⟩ hI _ on1
 have hle := hI.le
 have hsz := hI.sz
 have hlo := hI.lo
 have hhi := hI.hi
 have hu := (s.data.getD i 0).toNat_lt
 have hbt := and127_bd (s.data.getD i 0)
 refine Md ((i : Int) < 6) (fun h1 => ?_) (fun h1 => ?_)
 rotate_left
 · refine Mt [.int .i64 0, .string emp, .int .i64 4] fun bs w hS => ?_
   refine ⟨?_, hS.kp⟩
   rw [hI.out (by omega)]
   simp only [retOf, den, List.map_cons, List.map_nil]
 refine Md ((i : Int) = (s.size : Int)) (fun h2 => ?_) fun h2 => ?_
 · refine Mt [vi 0, ve, vi 5] fun bs w hS => ?_
   refine ⟨?_, hS.kp⟩
   rw [hI.short (by omega) (by omega)]
   simp only [retOf, den, List.map_cons, List.map_nil]
 refine Mi ?_ (pc (pG [(18, .sidx i)] (oc (rfl : (i : Int) = (i : Int)) (oc ((by omega) : i < s.size) on))) (pc (pP (0 ≤ (bits .and .u8 ((s.data.getD i 0).toNat : Int) 127))) (pc (pP ((bits .and .u8 ((s.data.getD i 0).toNat : Int) 127) ≤ 255)) (pc (pR ((7 : Int) * (i : Int))) (pc (pP ((0 : Int) ≤ (7 : Int) * (i : Int))) (pc (pP ((7 : Int) * (i : Int) ≤ (64 : Int))) (pG [(27, .sidx i)] (oc (rfl : (i : Int) = (i : Int)) (oc ((by omega) : i < s.size) on)))))))))
 refine Md ((128 : Int) ≤ ((s.data.getD i 0).toNat : Int)) (fun h3 => ?_) fun h3 => ?_
 · refine Mi ?_ (pR ((i : Int) + 1))
   exact on1 ⟨i + 1, bits .or .i64 n (IntKind.i64.wrap ((bits .and .u8 ((s.data.getD i 0).toNat : Int) 127) * 2 ^ ((7 : Int) * (i : Int) : Int).toNat))⟩ (by show RdIn s (i + 1) _; rw [or_shift s i n hI.lo hI.hi (by omega)]; exact hI.step (by omega) (by omega) (by omega)) (by show 6 - (i + 1) < 6 - i; omega)
 refine Mi ?_ (pG [(31, .sidx i)] (oc (rfl : (i : Int) = (i : Int)) (oc ((by omega) : i < s.size) on)))
 refine Md (((s.data.getD i 0).toNat : Int) = 0) (fun h4 => ?_) fun h4 => ?_
 rotate_left
 · refine Md ((1099511627776 : Int) < bits .or .i64 n (IntKind.i64.wrap ((bits .and .u8 ((s.data.getD i 0).toNat : Int) 127) * 2 ^ ((7 : Int) * (i : Int) : Int).toNat))) (fun h7 => ?_) fun h7 => ?_
   · refine Mt [.int .i64 0, .string emp, .int .i64 4] fun bs w hS => ?_
     refine ⟨?_, hS.kp⟩
     have hor := or_shift s i n hI.lo hI.hi (by omega)
     try rw [hor] at h7
     try rw [hor]
     rw [hI.last (by omega) (by omega) (by omega), if_pos (by omega)]
     simp only [retOf, den, List.map_cons, List.map_nil]
   refine Mda 8 [] [] [] Try_mixed ?_
   refine Mih ?_ (pc (pR ((i : Int) + 1)) (pG [(45, .sl (i + 1) s.size)] (oc ((by omega) : (i : Int) + 1 = (((i + 1) : Nat) : Int)) (oc (rfl : s.size = s.size) (oc ((by omega) : (i + 1) ≤ s.size) on)))))
   refine Mt [vi (bits .or .i64 n (IntKind.i64.wrap ((bits .and .u8 ((s.data.getD i 0).toNat : Int) 127) * 2 ^ ((7 : Int) * (i : Int) : Int).toNat))), vs (s.extract (i + 1) s.size), vi 0] fun bs w hS => ?_
   refine ⟨?_, hS.kp⟩
   have hor := or_shift s i n hI.lo hI.hi (by omega)
   try rw [hor] at h7
   try rw [hor]
   rw [hI.last (by omega) (by omega) (by omega), if_neg (by omega)]
   simp only [retOf, den, List.map_cons, List.map_nil]
 refine Md ((0 : Int) < (i : Int)) (fun h5 => ?_) fun h5 => ?_
 · refine Mt [.int .i64 0, .string emp, .int .i64 4] fun bs w hS => ?_
   refine ⟨?_, hS.kp⟩
   have hor := or_shift s i n hI.lo hI.hi (by omega)
   try rw [hor] at h5
   try rw [hor]
   rw [hI.last (by omega) (by omega) (by omega), if_pos (by omega)]
   simp only [retOf, den, List.map_cons, List.map_nil]
 refine Md ((1099511627776 : Int) < bits .or .i64 n (IntKind.i64.wrap ((bits .and .u8 ((s.data.getD i 0).toNat : Int) 127) * 2 ^ ((7 : Int) * (i : Int) : Int).toNat))) (fun h6 => ?_) fun h6 => ?_
 · refine Mt [.int .i64 0, .string emp, .int .i64 4] fun bs w hS => ?_
   refine ⟨?_, hS.kp⟩
   have hor := or_shift s i n hI.lo hI.hi (by omega)
   try rw [hor] at h6
   try rw [hor]
   rw [hI.last (by omega) (by omega) (by omega), if_pos (by omega)]
   simp only [retOf, den, List.map_cons, List.map_nil]
 refine Mda 8 [] [] [] Try_mixed ?_
 refine Mih ?_ (pc (pR ((i : Int) + 1)) (pG [(45, .sl (i + 1) s.size)] (oc ((by omega) : (i : Int) + 1 = (((i + 1) : Nat) : Int)) (oc (rfl : s.size = s.size) (oc ((by omega) : (i + 1) ≤ s.size) on)))))
 refine Mt [vi (bits .or .i64 n (IntKind.i64.wrap ((bits .and .u8 ((s.data.getD i 0).toNat : Int) 127) * 2 ^ ((7 : Int) * (i : Int) : Int).toNat))), vs (s.extract (i + 1) s.size), vi 0] fun bs w hS => ?_
 refine ⟨?_, hS.kp⟩
 have hor := or_shift s i n hI.lo hI.hi (by omega)
 try rw [hor] at h6
 try rw [hor]
 rw [hI.last (by omega) (by omega) (by omega), if_neg (by omega)]
 simp only [retOf, den, List.map_cons, List.map_nil]

theorem ref_NumberOf (s : ByteArray) (w : World) (hs : s.size ≤ 9223372036854775807) : Calls Try.prog 121 #[vs s] w fun e w' => e = .returned (.tuple #[vi (mRead s).1, vs (mRead s).2.1, vi (mRead s).2.2]) ∧ Kp [] w w' := by
 refine M0 ?_ Try.func121
 refine Ml (σ := Nat × Int) (fun ⟨i, n⟩ => RdIn s i n) (fun ⟨i, n⟩ => 6 - i) (fun _ => []) [7, 6, 5, 0] (fun ⟨i, n⟩ => [(7, vI (i : Int)), (6, vI ((128 : Int) ^ i)), (5, vI n)]) (fun _ => []) ?_ (⟨0, 0⟩) (RdIn.start s)
 rintro ⟨i, n⟩ hI _ on1
 have hle := hI.le
 have hsz := hI.sz
 have hlo := hI.lo
 have hhi := hI.hi
 have hu := (s.data.getD i 0).toNat_lt
 have hbt := unit_bd (s.data.getD i 0) i hle
 refine Md ((i : Int) < 6) (fun h1 => ?_) (fun h1 => ?_)
 rotate_left
 · refine Mt [.int .i64 0, .string emp, .int .i64 4] fun bs w hS => ?_
   refine ⟨?_, hS.kp⟩
   rw [hI.out (by omega)]
   simp only [retOf, den, List.map_cons, List.map_nil]
 refine Md ((s.size : Int) ≤ (i : Int)) (fun h2 => ?_) fun h2 => ?_
 · refine Mt [vi 0, ve, vi 5] fun bs w hS => ?_
   refine ⟨?_, hS.kp⟩
   rw [hI.short (by omega) (by omega)]
   simp only [retOf, den, List.map_cons, List.map_nil]
 refine Mi ?_ (pc (pG [(20, .sidx i)] (oc (rfl : (i : Int) = (i : Int)) (oc ((by omega) : i < s.size) on))) (pc (pP (0 ≤ ((s.data.getD i 0).toNat : Int))) (pc (pP (((s.data.getD i 0).toNat : Int) ≤ 255)) (pc (pP (0 ≤ ((s.data.getD i 0).toNat : Int))) (pc (pP ((0 : Int) < 128)) (pc (pR (((128 : Int) ^ i) * (((s.data.getD i 0).toNat : Int) % 128))) (pc (pR (n + (((128 : Int) ^ i) * (((s.data.getD i 0).toNat : Int) % 128)))) (pc (pR (((128 : Int) ^ i) * 128)) (pG [(29, .sidx i)] (oc (rfl : (i : Int) = (i : Int)) (oc ((by omega) : i < s.size) on)))))))))))
 refine Md (((s.data.getD i 0).toNat : Int) < 128) (fun h3 => ?_) fun h3 => ?_
 rotate_left
 · refine Mi ?_ (pR ((i : Int) + 1))
   exact on1 ⟨i + 1, n + (((128 : Int) ^ i) * (((s.data.getD i 0).toNat : Int) % 128))⟩ (hI.step (by omega) (by omega) (by omega)) (by show 6 - (i + 1) < 6 - i; omega) (hp := (by simp only [Int.pow_succ]; kernel_rfl))
 refine Md ((0 : Int) < (i : Int)) (fun h4 => ?_) fun h4 => ?_
 rotate_left
 · refine Md ((1099511627776 : Int) < n + (((128 : Int) ^ i) * (((s.data.getD i 0).toNat : Int) % 128))) (fun h7 => ?_) fun h7 => ?_
   · refine Mt [.int .i64 0, .string emp, .int .i64 4] fun bs w hS => ?_
     refine ⟨?_, hS.kp⟩
     rw [hI.last (by omega) (by omega) (by omega), if_pos (by omega)]
     simp only [retOf, den, List.map_cons, List.map_nil]
   refine Mda 8 [] [] [] Try_mixed ?_
   refine Mih ?_ (pc (pR ((i : Int) + 1)) (pG [(47, .sl (i + 1) s.size)] (oc ((by omega) : (i : Int) + 1 = (((i + 1) : Nat) : Int)) (oc (rfl : s.size = s.size) (oc ((by omega) : (i + 1) ≤ s.size) on)))))
   refine Mt [vi (n + (((128 : Int) ^ i) * (((s.data.getD i 0).toNat : Int) % 128))), vs (s.extract (i + 1) s.size), vi 0] fun bs w hS => ?_
   refine ⟨?_, hS.kp⟩
   rw [hI.last (by omega) (by omega) (by omega), if_neg (by omega)]
   simp only [retOf, den, List.map_cons, List.map_nil]
 refine Mi ?_ (pG [(36, .sidx i)] (oc (rfl : (i : Int) = (i : Int)) (oc ((by omega) : i < s.size) on)))
 refine Md (((s.data.getD i 0).toNat : Int) = 0) (fun h5 => ?_) fun h5 => ?_
 · refine Mt [.int .i64 0, .string emp, .int .i64 4] fun bs w hS => ?_
   refine ⟨?_, hS.kp⟩
   rw [hI.last (by omega) (by omega) (by omega), if_pos (by omega)]
   simp only [retOf, den, List.map_cons, List.map_nil]
 refine Md ((1099511627776 : Int) < n + (((128 : Int) ^ i) * (((s.data.getD i 0).toNat : Int) % 128))) (fun h6 => ?_) fun h6 => ?_
 · refine Mt [.int .i64 0, .string emp, .int .i64 4] fun bs w hS => ?_
   refine ⟨?_, hS.kp⟩
   rw [hI.last (by omega) (by omega) (by omega), if_pos (by omega)]
   simp only [retOf, den, List.map_cons, List.map_nil]
 refine Mda 8 [] [] [] Try_mixed ?_
 refine Mih ?_ (pc (pR ((i : Int) + 1)) (pG [(47, .sl (i + 1) s.size)] (oc ((by omega) : (i : Int) + 1 = (((i + 1) : Nat) : Int)) (oc (rfl : s.size = s.size) (oc ((by omega) : (i + 1) ≤ s.size) on)))))
 refine Mt [vi (n + (((128 : Int) ^ i) * (((s.data.getD i 0).toNat : Int) % 128))), vs (s.extract (i + 1) s.size), vi 0] fun bs w hS => ?_
 refine ⟨?_, hS.kp⟩
 rw [hI.last (by omega) (by omega) (by omega), if_neg (by omega)]
 simp only [retOf, den, List.map_cons, List.map_nil]

theorem codec_ReadText (s : ByteArray) (w : World) (hs : s.size ≤ 9223372036854775807) : Calls Try.prog 146 #[vs s] w fun e w' => e = .returned (.tuple #[vs (mTell s).1, vs (mTell s).2.1, vi (mTell s).2.2]) ∧ Kp [] w w' := by
 have hb := mRead_bd s
 refine M0 ?_ Try.func146
 refine Mp ?_ Try.call145 (fun bs w hS => codec_ReadNumber _ w (by first | assumption | omega | (simp only [emp_size]; omega)))
 refine Mdn ((mRead s).2.2 = 0) (fun h1 => ?_) fun h1 => ?_
 rotate_left
 · refine Mt [ve, ve, vi (mRead s).2.2] fun bs w hS => ?_
   refine ⟨?_, hS.kp⟩
   simp only [retOf, den, List.map_cons, List.map_nil]
   grind [mTell]
 refine Md ((5000 : Int) < (mRead s).1) (fun h2 => ?_) fun h2 => ?_
 · refine Mt [ve, ve, vi 1] fun bs w hS => ?_
   refine ⟨?_, hS.kp⟩
   simp only [retOf, den, List.map_cons, List.map_nil]
   grind [mTell]
 refine Md (((mRead s).2.1.size : Int) < (mRead s).1) (fun h3 => ?_) fun h3 => ?_
 · refine Mt [ve, ve, vi 5] fun bs w hS => ?_
   refine ⟨?_, hS.kp⟩
   simp only [retOf, den, List.map_cons, List.map_nil]
   grind [mTell]
 refine Mda 9 [] [] [] Try_mixed ?_
 refine Mih ?_ (pc (pG [(25, .sl 0 (mRead s).1.toNat)] (oc (rfl : 0 = 0) (oc ((by omega) : (mRead s).1 = (((mRead s).1.toNat : Nat) : Int)) (oc ((by omega) : (mRead s).1.toNat ≤ (mRead s).2.1.size) on)))) (pG [(28, .sl (mRead s).1.toNat (mRead s).2.1.size)] (oc ((by omega) : (mRead s).1 = (((mRead s).1.toNat : Nat) : Int)) (oc (rfl : (mRead s).2.1.size = (mRead s).2.1.size) (oc ((by omega) : (mRead s).1.toNat ≤ (mRead s).2.1.size) on)))))
 refine Mt [vs ((mRead s).2.1.extract 0 (mRead s).1.toNat), vs ((mRead s).2.1.extract (mRead s).1.toNat (mRead s).2.1.size), vi 0] fun bs w hS => ?_
 refine ⟨?_, hS.kp⟩
 simp only [retOf, den, List.map_cons, List.map_nil]
 grind [mTell]

theorem ref_TextOf (s : ByteArray) (w : World) (hs : s.size ≤ 9223372036854775807) : Calls Try.prog 122 #[vs s] w fun e w' => e = .returned (.tuple #[vs (mTell s).1, vs (mTell s).2.1, vi (mTell s).2.2]) ∧ Kp [] w w' := by
 have hb := mRead_bd s
 refine M0 ?_ Try.func122
 refine Mp ?_ Try.call121 (fun bs w hS => ref_NumberOf _ w (by first | assumption | omega | (simp only [emp_size]; omega)))
 refine Md ((mRead s).2.2 = 0) (fun h1 => ?_) fun h1 => ?_
 rotate_left
 · refine My false false ?_ (df h1)
   refine My false true ?_ (df h1)
   refine Mt [ve, ve, vi (mRead s).2.2] fun bs w hS => ?_
   refine ⟨?_, hS.kp⟩
   simp only [retOf, den, List.map_cons, List.map_nil]
   grind [mTell]
 refine Md ((5000 : Int) < (mRead s).1) (fun h2 => ?_) fun h2 => ?_
 · refine Mq 22 false ?_ rfl
   refine Mq 29 true ?_ rfl
   refine Mt [ve, ve, vi 1] fun bs w hS => ?_
   refine ⟨?_, hS.kp⟩
   simp only [retOf, den, List.map_cons, List.map_nil]
   grind [mTell]
 refine My true false ?_ (dt h1)
 refine Md (((mRead s).2.1.size : Int) < (mRead s).1) (fun h4 => ?_) fun h4 => ?_
 · refine Mq 29 true ?_ rfl
   refine Mt [ve, ve, vi 5] fun bs w hS => ?_
   refine ⟨?_, hS.kp⟩
   simp only [retOf, den, List.map_cons, List.map_nil]
   grind [mTell]
 refine My true true ?_ (dt h1)
 refine Mda 9 [] [] [] Try_mixed ?_
 refine Mih ?_ (pc (pG [(33, .sl 0 (mRead s).1.toNat)] (oc (rfl : 0 = 0) (oc ((by omega) : (mRead s).1 = (((mRead s).1.toNat : Nat) : Int)) (oc ((by omega) : (mRead s).1.toNat ≤ (mRead s).2.1.size) on)))) (pG [(36, .sl (mRead s).1.toNat (mRead s).2.1.size)] (oc ((by omega) : (mRead s).1 = (((mRead s).1.toNat : Nat) : Int)) (oc (rfl : (mRead s).2.1.size = (mRead s).2.1.size) (oc ((by omega) : (mRead s).1.toNat ≤ (mRead s).2.1.size) on)))))
 refine Mt [vs ((mRead s).2.1.extract 0 (mRead s).1.toNat), vs ((mRead s).2.1.extract (mRead s).1.toNat (mRead s).2.1.size), vi 0] fun bs w hS => ?_
 refine ⟨?_, hS.kp⟩
 simp only [retOf, den, List.map_cons, List.map_nil]
 grind [mTell]

theorem command_CheckOp {B : Nat → Prop} (x : DOp) (w : World) (hx : Rds.sub B w x) : Calls Try.prog 147 #[x.val] w fun e w' => e = .returned (vi (mOp x)) ∧ Kp [] w w' := by
 have okx := Rds.okof hx
 refine M0 ?_ Try.func147
 refine Md (x.kind < 1) (fun h1 => ?_) fun h1 => ?_
 · exact Me0 3 (by grind [mOp])
 refine Md ((6 : Int) < x.kind) (fun h2 => ?_) fun h2 => ?_
 · exact Me0 3 (by grind [mOp])
 refine Mp ?_ Try.call43 (fun bs w hS => lock_Name _ w okx.1)
 refine Mbn (mName x.a) (fun h3 => ?_) fun h3 => ?_
 rotate_left
 · exact Me0 4 (by grind [mOp])
 refine Mdn (x.kind = 5) (fun h4 => ?_) fun h4 => ?_
 · refine Md ((12 : Int) < (x.b.size : Int)) (fun h5 => ?_) fun h5 => ?_
   · exact Me0 1 (by grind [mOp])
   refine My true false ?_ (dt h4)
   refine Md (x.n < 1) (fun h7 => ?_) fun h7 => ?_
   · exact Me0 2 (by grind [mOp])
   refine Md ((1073741824 : Int) < x.n) (fun h8 => ?_) fun h8 => ?_
   · exact Me0 2 (by grind [mOp])
   refine My true true ?_ (dt h4)
   exact Me0 0 (by grind [mOp])
 refine Mdn (x.b = emp) (fun h10 => ?_) fun h10 => ?_
 rotate_left
 · exact Me0 4 (by grind [mOp])
 have hzh10 : x.b.size = 0 := by rw [h10]; rfl
 refine Md ((12 : Int) < (x.b.size : Int)) (fun h11 => ?_) fun h11 => ?_
 · exact Me0 1 (by grind [mOp])
 refine My false false ?_ (df h4)
 refine My false true ?_ (df h4)
 refine Mdn (x.n = 0) (fun h14 => ?_) fun h14 => ?_
 · exact Me0 0 (by grind [mOp])
 exact Me0 2 (by grind [mOp])

theorem ref_OpFault {B : Nat → Prop} (x : DOp) (w : World) (hx : Rds.sub B w x) : Calls Try.prog 148 #[x.val] w fun e w' => e = .returned (vi (mOp x)) ∧ Kp [] w w' := by
 have okx := Rds.okof hx
 refine M0 ?_ Try.func148
 refine Mp ?_ Try.call56 (fun bs w hS => ref_In x.kind 1 6 w)
 refine Mbn (inB x.kind 1 6) (fun h1 => ?_) fun h1 => ?_
 rotate_left
 · simp only [iT, iF] at h1
   exact Me0 3 (by grind [mOp])
 simp only [iT, iF] at h1
 refine Mp ?_ Try.call48 (fun bs w hS => ref_NameMay _ w okx.1)
 refine Mbn (mName x.a) (fun h2 => ?_) fun h2 => ?_
 rotate_left
 · exact Me0 4 (by grind [mOp])
 refine Mdn (x.b = emp) (fun h3 => ?_) fun h3 => ?_
 rotate_left
 · refine Mdn (x.kind = 5) (fun h8 => ?_) fun h8 => ?_
   rotate_left
   · exact Me0 4 (by grind [mOp])
   refine Md ((12 : Int) < (x.b.size : Int)) (fun h9 => ?_) fun h9 => ?_
   · exact Me0 1 (by grind [mOp])
   refine My true false ?_ (dt h8)
   refine Mp ?_ Try.call56 (fun bs w hS => ref_In x.n 1 1073741824 w)
   refine Mbn (inB x.n 1 1073741824) (fun h11 => ?_) fun h11 => ?_
   · simp only [iT, iF] at h11
     exact Me0 0 (by grind [mOp])
   simp only [iT, iF] at h11
   exact Me0 2 (by grind [mOp])
 have hzh3 : x.b.size = 0 := by rw [h3]; rfl
 refine Md ((12 : Int) < (x.b.size : Int)) (fun h4 => ?_) fun h4 => ?_
 · exact Me0 1 (by grind [mOp])
 refine Md (x.kind = 5) (fun h5 => ?_) fun h5 => ?_
 rotate_left
 · refine Mdn (x.n = 0) (fun h7 => ?_) fun h7 => ?_
   · exact Me0 0 (by grind [mOp])
   exact Me0 2 (by grind [mOp])
 refine Mp ?_ Try.call56 (fun bs w hS => ref_In x.n 1 1073741824 w)
 refine Mbn (inB x.n 1 1073741824) (fun h6 => ?_) fun h6 => ?_
 · simp only [iT, iF] at h6
   exact Me0 0 (by grind [mOp])
 simp only [iT, iF] at h6
 exact Me0 2 (by grind [mOp])

theorem command_Check {B : Nat → Prop} (x : DCommand) (w : World) (hx : Rds.sub B w x) : Calls Try.prog 120 #[x.val] w fun e w' => e = .returned (vi (mCmd x)) ∧ Kp [] w w' := by
 have okx := Rds.okof hx
 refine M0 ?_ Try.func120
 refine Md (x.kind < 1) (fun h1 => ?_) fun h1 => ?_
 · exact Me0 3 (by grind [mCmd])
 refine Md ((3 : Int) < x.kind) (fun h2 => ?_) fun h2 => ?_
 · exact Me0 3 (by grind [mCmd])
 refine Md (x.client < 1) (fun h3 => ?_) fun h3 => ?_
 · exact Me0 2 (by grind [mCmd])
 refine Md ((9 : Int) < x.client) (fun h4 => ?_) fun h4 => ?_
 · exact Me0 2 (by grind [mCmd])
 refine Mdn (x.kind = 2) (fun h5 => ?_) fun h5 => ?_
 rotate_left
 · refine Mdn (x.session = 0) (fun h12 => ?_) fun h12 => ?_
   rotate_left
   · exact Me0 4 (by grind [mCmd])
   refine Mdn (x.seq = 0) (fun h13 => ?_) fun h13 => ?_
   rotate_left
   · exact Me0 4 (by grind [mCmd])
   refine Mdn (x.acked = 0) (fun h14 => ?_) fun h14 => ?_
   rotate_left
   · exact Me0 4 (by grind [mCmd])
   refine Mi ?_ (pG [(39, .val (vb (!((decide (x.op.kind = 0)) && ((decide (x.op.a = emp)) && ((decide (x.op.b = emp)) && ((decide (x.op.n = 0)) && true)))))))] (oc ((neq_agg (by kernel_rfl) (by kernel_rfl)) : ∀ w, (do eqGuard .neq 112 (.tmp 37) (.tmp 38) x.op.val (.agg #[vi 0, ve, ve, vi 0]); binOp .neq 112 x.op.val (.agg #[vi 0, ve, ve, vi 0]) : Sem Value).run Try.prog w = .ok (vb (!((decide (x.op.kind = 0)) && ((decide (x.op.a = emp)) && ((decide (x.op.b = emp)) && ((decide (x.op.n = 0)) && true)))))) w) on))
   refine Mbn ((decide (x.op.kind = 0)) && ((decide (x.op.a = emp)) && ((decide (x.op.b = emp)) && ((decide (x.op.n = 0)) && true)))) (fun h15 => ?_) fun h15 => ?_
   · simp only [Bool.and_eq_true, decide_eq_true_eq, and_true] at h15
     exact Me0 0 (by grind [mCmd])
   rw [Bool.eq_false_iff] at h15
   simp only [ne_eq, Bool.and_eq_true, decide_eq_true_eq, and_true] at h15
   exact Me0 4 (by grind [mCmd])
 refine Md (x.session < 1) (fun h6 => ?_) fun h6 => ?_
 · exact Me0 2 (by grind [mCmd])
 refine Md ((1073741824 : Int) < x.session) (fun h7 => ?_) fun h7 => ?_
 · exact Me0 2 (by grind [mCmd])
 refine Md (x.seq < 1) (fun h8 => ?_) fun h8 => ?_
 · exact Me0 2 (by grind [mCmd])
 refine Md ((1048576 : Int) < x.seq) (fun h9 => ?_) fun h9 => ?_
 · exact Me0 2 (by grind [mCmd])
 refine Md (x.acked < 0) (fun h10 => ?_) fun h10 => ?_
 · exact Me0 2 (by grind [mCmd])
 refine Md (x.seq ≤ x.acked) (fun h11 => ?_) fun h11 => ?_
 · exact Me0 2 (by grind [mCmd])
 refine Mp ?_ Try.call147 (fun bs w hS => command_CheckOp (B := anyB) x.op w ⟨okx.1, okx.2⟩)
 exact Me0 (mOp x.op) (by grind [mCmd])

theorem ref_CommandFault {B : Nat → Prop} (x : DCommand) (w : World) (hx : Rds.sub B w x) : Calls Try.prog 123 #[x.val] w fun e w' => e = .returned (vi (mCmd x)) ∧ Kp [] w w' := by
 have okx := Rds.okof hx
 refine M0 ?_ Try.func123
 refine Mp ?_ Try.call56 (fun bs w hS => ref_In x.kind 1 3 w)
 refine Mbn (inB x.kind 1 3) (fun h1 => ?_) fun h1 => ?_
 rotate_left
 · simp only [iT, iF] at h1
   exact Me0 3 (by grind [mCmd])
 simp only [iT, iF] at h1
 refine Mp ?_ Try.call56 (fun bs w hS => ref_In x.client 1 9 w)
 refine Mbn (inB x.client 1 9) (fun h2 => ?_) fun h2 => ?_
 rotate_left
 · simp only [iT, iF] at h2
   exact Me0 2 (by grind [mCmd])
 simp only [iT, iF] at h2
 refine Md (x.kind = 2) (fun h3 => ?_) fun h3 => ?_
 · refine Mp ?_ Try.call56 (fun bs w hS => ref_In x.session 1 1073741824 w)
   refine Mbn (inB x.session 1 1073741824) (fun h4 => ?_) fun h4 => ?_
   rotate_left
   · simp only [iT, iF] at h4
     exact Me0 2 (by grind [mCmd])
   simp only [iT, iF] at h4
   refine Mp ?_ Try.call56 (fun bs w hS => ref_In x.seq 1 1048576 w)
   refine Mbn (inB x.seq 1 1048576) (fun h5 => ?_) fun h5 => ?_
   rotate_left
   · simp only [iT, iF] at h5
     exact Me0 2 (by grind [mCmd])
   simp only [iT, iF] at h5
   refine Mi ?_ (pR (x.seq - 1))
   refine Mp ?_ Try.call56 (fun bs w hS => ref_In x.acked 0 (x.seq - 1) w)
   refine Mbn (inB x.acked 0 (x.seq - 1)) (fun h6 => ?_) fun h6 => ?_
   rotate_left
   · simp only [iT, iF] at h6
     exact Me0 2 (by grind [mCmd])
   simp only [iT, iF] at h6
   refine Mp ?_ Try.call148 (fun bs w hS => ref_OpFault (B := anyB) x.op w ⟨okx.1, okx.2⟩)
   exact Me0 (mOp x.op) (by grind [mCmd])
 refine Mdn (x.session = 0) (fun h7 => ?_) fun h7 => ?_
 rotate_left
 · exact Me0 4 (by grind [mCmd])
 refine Mdn (x.seq = 0) (fun h8 => ?_) fun h8 => ?_
 rotate_left
 · exact Me0 4 (by grind [mCmd])
 refine Mdn (x.acked = 0) (fun h9 => ?_) fun h9 => ?_
 rotate_left
 · exact Me0 4 (by grind [mCmd])
 refine Mdn (x.op.kind = 0) (fun h10 => ?_) fun h10 => ?_
 rotate_left
 · exact Me0 4 (by grind [mCmd])
 refine Mdn (x.op.a = emp) (fun h11 => ?_) fun h11 => ?_
 rotate_left
 · exact Me0 4 (by grind [mCmd])
 have hzh11 : x.op.a.size = 0 := by rw [h11]; rfl
 refine Mdn (x.op.b = emp) (fun h12 => ?_) fun h12 => ?_
 rotate_left
 · exact Me0 4 (by grind [mCmd])
 have hzh12 : x.op.b.size = 0 := by rw [h12]; rfl
 refine Mdn (x.op.n = 0) (fun h13 => ?_) fun h13 => ?_
 · exact Me0 0 (by grind [mCmd])
 exact Me0 4 (by grind [mCmd])

theorem command_body (c : DCommand) (b : Nat) (t : ByteArray) (w : World) (hb : (blkR b 114 [vi c.kind, vi c.client, vi c.session, vi c.seq, vi c.acked, vi c.op.kind, vs c.op.a, vs c.op.b, vi c.op.n]).p w) (ht : t.size ≤ 9223372036854775807) (hc : Rds.ok c) : Calls Try.prog 119 #[.pointer (some ⟨b, 0, none⟩), vs t] w fun e w' => ∃ y : DCommand, e = .returned (.tuple #[vs (mBody c t).2.1, vi (mBody c t).2.2]) ∧ (((mBody c t).2.2 = 0 → y = (mBody c t).1) ∧ Rds.ok y) ∧ Kp [b] w w' ∧ (blkR b 114 [vi y.kind, vi y.client, vi y.session, vi y.seq, vi y.acked, vi y.op.kind, vs y.op.a, vs y.op.b, vi y.op.n]).p w' := by
 refine Mj ?_ Try.func119 (WS.start1 w _ hb (by simp [blkR]) (blkR_lt hb))
 refine Mdr 20 ?_ Try_mixed
 refine M1 ?_
 refine Mz ?_
 refine Mun 6 fun _ on1 => ?_
 refine Mq 32 true ?_ rfl
 refine Mi ?_ (pG [(33, .idx default 0)] (oc (rfl : (0 : Int) = ((0 : Nat) : Int)) (oc ((by omega) : 0 < 5) on)))
 refine Mp ?_ (vs := fun bs => [vs t]) Try.call145 (fun bs w hS => codec_ReadNumber _ w (by first | assumption | omega | (simp only [emp_size]; omega)))
 have hzr1 := mRead_bd t
 generalize hr1 : mRead t = r1 at hzr1 ⊢
 refine Msb 2 [vi c.kind, vi c.client, vi r1.1, vi c.seq, vi c.acked, vi c.op.kind, vs c.op.a, vs c.op.b, vi c.op.n] ?_
 refine Mdn (r1.2.2 = 0) (fun h1 => ?_) fun h1 => ?_
 rotate_left
 · refine Mt [ve, vi r1.2.2] fun bs w hS => ?_
   have hm : mBody c t = (c, emp, r1.2.2) := by grind [mBody]
   exact ⟨(⟨c.kind, c.client, r1.1, c.seq, c.acked, ⟨c.op.kind, c.op.a, c.op.b, c.op.n⟩⟩ : DCommand), by rw [hm]; rfl, ⟨fun h0 => absurd h0 (by rw [hm]; exact h1), ⟨hc.1, hc.2⟩⟩, hS.kp, hS.res _ i0⟩
 refine Mi ?_ (pR (1))
 refine on1 5 (J := ?_)
 refine Mq 32 true ?_ rfl
 refine Mi ?_ (pG [(33, .idx default 1)] (oc (rfl : (1 : Int) = ((1 : Nat) : Int)) (oc ((by omega) : 1 < 5) on)))
 refine Mp ?_ (vs := fun bs => [vs r1.2.1]) Try.call145 (fun bs w hS => codec_ReadNumber _ w (by first | assumption | omega | (simp only [emp_size]; omega)))
 have hzr2 := mRead_bd r1.2.1
 generalize hr2 : mRead r1.2.1 = r2 at hzr2 ⊢
 refine Msb 3 [vi c.kind, vi c.client, vi r1.1, vi r2.1, vi c.acked, vi c.op.kind, vs c.op.a, vs c.op.b, vi c.op.n] ?_
 refine Mdn (r2.2.2 = 0) (fun h2 => ?_) fun h2 => ?_
 rotate_left
 · refine Mt [ve, vi r2.2.2] fun bs w hS => ?_
   have hm : mBody c t = (c, emp, r2.2.2) := by grind [mBody]
   exact ⟨(⟨c.kind, c.client, r1.1, r2.1, c.acked, ⟨c.op.kind, c.op.a, c.op.b, c.op.n⟩⟩ : DCommand), by rw [hm]; rfl, ⟨fun h0 => absurd h0 (by rw [hm]; exact h2), ⟨hc.1, hc.2⟩⟩, hS.kp, hS.res _ i0⟩
 refine Mi ?_ (pR (2))
 refine on1 4 (J := ?_)
 refine Mq 32 true ?_ rfl
 refine Mi ?_ (pG [(33, .idx default 2)] (oc (rfl : (2 : Int) = ((2 : Nat) : Int)) (oc ((by omega) : 2 < 5) on)))
 refine Mp ?_ (vs := fun bs => [vs r2.2.1]) Try.call145 (fun bs w hS => codec_ReadNumber _ w (by first | assumption | omega | (simp only [emp_size]; omega)))
 have hzr3 := mRead_bd r2.2.1
 generalize hr3 : mRead r2.2.1 = r3 at hzr3 ⊢
 refine Msb 4 [vi c.kind, vi c.client, vi r1.1, vi r2.1, vi r3.1, vi c.op.kind, vs c.op.a, vs c.op.b, vi c.op.n] ?_
 refine Mdn (r3.2.2 = 0) (fun h3 => ?_) fun h3 => ?_
 rotate_left
 · refine Mt [ve, vi r3.2.2] fun bs w hS => ?_
   have hm : mBody c t = (c, emp, r3.2.2) := by grind [mBody]
   exact ⟨(⟨c.kind, c.client, r1.1, r2.1, r3.1, ⟨c.op.kind, c.op.a, c.op.b, c.op.n⟩⟩ : DCommand), by rw [hm]; rfl, ⟨fun h0 => absurd h0 (by rw [hm]; exact h3), ⟨hc.1, hc.2⟩⟩, hS.kp, hS.res _ i0⟩
 refine Mi ?_ (pR (3))
 refine on1 3 (J := ?_)
 refine Mq 32 true ?_ rfl
 refine Mi ?_ (pG [(33, .idx default 3)] (oc (rfl : (3 : Int) = ((3 : Nat) : Int)) (oc ((by omega) : 3 < 5) on)))
 refine Mp ?_ (vs := fun bs => [vs r3.2.1]) Try.call145 (fun bs w hS => codec_ReadNumber _ w (by first | assumption | omega | (simp only [emp_size]; omega)))
 have hzr4 := mRead_bd r3.2.1
 generalize hr4 : mRead r3.2.1 = r4 at hzr4 ⊢
 refine Msb 5 [vi c.kind, vi c.client, vi r1.1, vi r2.1, vi r3.1, vi r4.1, vs c.op.a, vs c.op.b, vi c.op.n] ?_
 refine Mdn (r4.2.2 = 0) (fun h4 => ?_) fun h4 => ?_
 rotate_left
 · refine Mt [ve, vi r4.2.2] fun bs w hS => ?_
   have hm : mBody c t = (c, emp, r4.2.2) := by grind [mBody]
   exact ⟨(⟨c.kind, c.client, r1.1, r2.1, r3.1, ⟨r4.1, c.op.a, c.op.b, c.op.n⟩⟩ : DCommand), by rw [hm]; rfl, ⟨fun h0 => absurd h0 (by rw [hm]; exact h4), ⟨hc.1, hc.2⟩⟩, hS.kp, hS.res _ i0⟩
 refine Mi ?_ (pR (4))
 refine on1 2 (J := ?_)
 refine Mq 32 true ?_ rfl
 refine Mi ?_ (pG [(33, .idx default 4)] (oc (rfl : (4 : Int) = ((4 : Nat) : Int)) (oc ((by omega) : 4 < 5) on)))
 refine Mp ?_ (vs := fun bs => [vs r4.2.1]) Try.call145 (fun bs w hS => codec_ReadNumber _ w (by first | assumption | omega | (simp only [emp_size]; omega)))
 have hzr5 := mRead_bd r4.2.1
 generalize hr5 : mRead r4.2.1 = r5 at hzr5 ⊢
 refine Msb 8 [vi c.kind, vi c.client, vi r1.1, vi r2.1, vi r3.1, vi r4.1, vs c.op.a, vs c.op.b, vi r5.1] ?_
 refine Mdn (r5.2.2 = 0) (fun h5 => ?_) fun h5 => ?_
 rotate_left
 · refine Mt [ve, vi r5.2.2] fun bs w hS => ?_
   have hm : mBody c t = (c, emp, r5.2.2) := by grind [mBody]
   exact ⟨(⟨c.kind, c.client, r1.1, r2.1, r3.1, ⟨r4.1, c.op.a, c.op.b, r5.1⟩⟩ : DCommand), by rw [hm]; rfl, ⟨fun h0 => absurd h0 (by rw [hm]; exact h5), ⟨hc.1, hc.2⟩⟩, hS.kp, hS.res _ i0⟩
 refine Mi ?_ (pR (5))
 refine on1 1 (J := ?_)
 refine Mq 32 false ?_ rfl
 refine Mdr 11 ?_ Try_mixed
 refine M1 ?_
 refine Mz ?_
 refine Mun 3 fun _ on2 => ?_
 refine Mq 58 true ?_ rfl
 refine Mi ?_ (pG [(59, .idx default 0)] (oc (rfl : (0 : Int) = ((0 : Nat) : Int)) (oc ((by omega) : 0 < 2) on)))
 refine Mp ?_ (vs := fun bs => [vs r5.2.1]) Try.call146 (fun bs w hS => codec_ReadText _ w (by first | assumption | omega | (simp only [emp_size]; omega)))
 have hzr6 := mTell_bd r5.2.1
 generalize hr6 : mTell r5.2.1 = r6 at hzr6 ⊢
 refine Msb 6 [vi c.kind, vi c.client, vi r1.1, vi r2.1, vi r3.1, vi r4.1, vs r6.1, vs c.op.b, vi r5.1] ?_
 refine Mdn (r6.2.2 = 0) (fun h6 => ?_) fun h6 => ?_
 rotate_left
 · refine Mt [ve, vi r6.2.2] fun bs w hS => ?_
   have hm : mBody c t = (c, emp, r6.2.2) := by grind [mBody]
   exact ⟨(⟨c.kind, c.client, r1.1, r2.1, r3.1, ⟨r4.1, r6.1, c.op.b, r5.1⟩⟩ : DCommand), by rw [hm]; rfl, ⟨fun h0 => absurd h0 (by rw [hm]; exact h6), ⟨(show r6.1.size ≤ 9223372036854775807 by omega), hc.2⟩⟩, hS.kp, hS.res _ i0⟩
 refine Mi ?_ (pR (1))
 refine on2 2 (J := ?_)
 refine Mq 58 true ?_ rfl
 refine Mi ?_ (pG [(59, .idx default 1)] (oc (rfl : (1 : Int) = ((1 : Nat) : Int)) (oc ((by omega) : 1 < 2) on)))
 refine Mp ?_ (vs := fun bs => [vs r6.2.1]) Try.call146 (fun bs w hS => codec_ReadText _ w (by first | assumption | omega | (simp only [emp_size]; omega)))
 have hzr7 := mTell_bd r6.2.1
 generalize hr7 : mTell r6.2.1 = r7 at hzr7 ⊢
 refine Msb 7 [vi c.kind, vi c.client, vi r1.1, vi r2.1, vi r3.1, vi r4.1, vs r6.1, vs r7.1, vi r5.1] ?_
 refine Mdn (r7.2.2 = 0) (fun h7 => ?_) fun h7 => ?_
 rotate_left
 · refine Mt [ve, vi r7.2.2] fun bs w hS => ?_
   have hm : mBody c t = (c, emp, r7.2.2) := by grind [mBody]
   exact ⟨(⟨c.kind, c.client, r1.1, r2.1, r3.1, ⟨r4.1, r6.1, r7.1, r5.1⟩⟩ : DCommand), by rw [hm]; rfl, ⟨fun h0 => absurd h0 (by rw [hm]; exact h7), ⟨(show r6.1.size ≤ 9223372036854775807 by omega), (show r7.1.size ≤ 9223372036854775807 by omega)⟩⟩, hS.kp, hS.res _ i0⟩
 refine Mi ?_ (pR (2))
 refine on2 1 (J := ?_)
 refine Mq 58 false ?_ rfl
 refine Mt [vs r7.2.1, vi 0] fun bs w hS => ?_
 have hm : mBody c t = ((⟨c.kind, c.client, r1.1, r2.1, r3.1, ⟨r4.1, r6.1, r7.1, r5.1⟩⟩ : DCommand), r7.2.1, 0) := by grind [mBody]
 exact ⟨(⟨c.kind, c.client, r1.1, r2.1, r3.1, ⟨r4.1, r6.1, r7.1, r5.1⟩⟩ : DCommand), by rw [hm]; rfl, ⟨fun _ => by rw [hm], ⟨(show r6.1.size ≤ 9223372036854775807 by omega), (show r7.1.size ≤ 9223372036854775807 by omega)⟩⟩, hS.kp, hS.res _ i0⟩

theorem command_Decode (s : ByteArray) (w : World) (hs : s.size ≤ 9223372036854775807) : Calls Try.prog 79 #[vs s] w fun e w' => e = .returned (.tuple #[(mDecode s).1.val, vi (mDecode s).2]) ∧ Kp [] w w' := by
 have hu0 := (s.data.getD 0 0).toNat_lt
 have hu1 := (s.data.getD 1 0).toNat_lt
 have hex : (s.extract 2 s.size).size ≤ s.size := by simp
 refine M0 ?_ Try.func79
 refine Md ((5000 : Int) < (s.size : Int)) (fun h1 => ?_) fun h1 => ?_
 · refine Mt [vC, vi 1] fun bs w hS => ?_
   refine ⟨?_, hS.kp⟩
   have hm : mDecode s = ((⟨0, 0, 0, 0, 0, ⟨0, emp, emp, 0⟩⟩ : DCommand), 1) := by
     have hk : (cmd0 s).kind = ((s.data.getD 0 0).toNat : Int) := rfl
     unfold mDecode
     repeat (first | rw [if_pos (by omega)] | rw [if_neg (by omega)])
     rfl
   rw [hm]
   rfl
 refine Md ((s.size : Int) < 2) (fun h2 => ?_) fun h2 => ?_
 · refine Mt [vC, vi 5] fun bs w hS => ?_
   refine ⟨?_, hS.kp⟩
   have hm : mDecode s = ((⟨0, 0, 0, 0, 0, ⟨0, emp, emp, 0⟩⟩ : DCommand), 5) := by
     have hk : (cmd0 s).kind = ((s.data.getD 0 0).toNat : Int) := rfl
     unfold mDecode
     repeat (first | rw [if_pos (by omega)] | rw [if_neg (by omega)])
     rfl
   rw [hm]
   rfl
 refine Mda 8 [] [] [] Try_mixed ?_
 refine Mih ?_ (pc (pG [(16, .sidx 0)] (oc (rfl : (0 : Int) = ((0 : Nat) : Int)) (oc ((by omega) : 0 < s.size) on))) (pc (pP (0 ≤ ((s.data.getD 0 0).toNat : Int))) (pc (pP (((s.data.getD 0 0).toNat : Int) ≤ 255)) (pc (pG [(19, .sidx 1)] (oc (rfl : (1 : Int) = ((1 : Nat) : Int)) (oc ((by omega) : 1 < s.size) on))) (pc (pP (0 ≤ ((s.data.getD 1 0).toNat : Int))) (pP (((s.data.getD 1 0).toNat : Int) ≤ 255)))))))
 refine Mi ?_ (pG [(23, .sl 2 s.size)] (oc (rfl : (2 : Int) = ((2 : Nat) : Int)) (oc (rfl : s.size = s.size) (oc ((by omega) : 2 ≤ s.size) on))))
 refine Md (((s.data.getD 0 0).toNat : Int) = 2) (fun h3 => ?_) fun h3 => ?_
 rotate_left
 · refine Mdn ((s.extract 2 s.size) = emp) (fun h7 => ?_) fun h7 => ?_
   rotate_left
   · refine Mt [vC, vi 4] fun bs w hS => ?_
     refine ⟨?_, hS.kp⟩
     have hm : mDecode s = ((⟨0, 0, 0, 0, 0, ⟨0, emp, emp, 0⟩⟩ : DCommand), 4) := by
       have hk : (cmd0 s).kind = ((s.data.getD 0 0).toNat : Int) := rfl
       unfold mDecode
       repeat (first | rw [if_pos (by omega)] | rw [if_neg (by omega)])
       all_goals (simp only [mFin, cmd0, zOp, h7, ne_eq, not_true_eq_false, not_false_eq_true, if_true, if_false, reduceIte]; try rfl)
     rw [hm]
     rfl
   have hzh7 : (s.extract 2 s.size).size = 0 := by rw [h7]; rfl
   refine Mp ?_ Try.call120 (fun bs w hS => command_Check (B := anyB) (⟨((s.data.getD 0 0).toNat : Int), ((s.data.getD 1 0).toNat : Int), 0, 0, 0, ⟨0, emp, emp, 0⟩⟩ : DCommand) w ⟨(show emp.size ≤ 9223372036854775807 from (by first | assumption | omega | (simp only [emp_size]; omega))), (show emp.size ≤ 9223372036854775807 from (by first | assumption | omega | (simp only [emp_size]; omega)))⟩)
   refine Mdn (mCmd (⟨((s.data.getD 0 0).toNat : Int), ((s.data.getD 1 0).toNat : Int), 0, 0, 0, ⟨0, emp, emp, 0⟩⟩ : DCommand) = 0) (fun h8 => ?_) fun h8 => ?_
   · refine Mt [.agg #[vi ((s.data.getD 0 0).toNat : Int), vi ((s.data.getD 1 0).toNat : Int), vi 0, vi 0, vi 0, vi 0, ve, ve, vi 0], vi 0] fun bs w hS => ?_
     refine ⟨?_, hS.kp⟩
     have hm : mDecode s = ((⟨((s.data.getD 0 0).toNat : Int), ((s.data.getD 1 0).toNat : Int), 0, 0, 0, ⟨0, emp, emp, 0⟩⟩ : DCommand), 0) := by
       have hk : (cmd0 s).kind = ((s.data.getD 0 0).toNat : Int) := rfl
       unfold mDecode
       repeat (first | rw [if_pos (by omega)] | rw [if_neg (by omega)])
       all_goals (simp only [mFin, cmd0, zOp, h7, h8, ne_eq, not_true_eq_false, not_false_eq_true, if_true, if_false, reduceIte]; try rfl)
     rw [hm]
     rfl
   refine Mt [vC, vi (mCmd (⟨((s.data.getD 0 0).toNat : Int), ((s.data.getD 1 0).toNat : Int), 0, 0, 0, ⟨0, emp, emp, 0⟩⟩ : DCommand))] fun bs w hS => ?_
   refine ⟨?_, hS.kp⟩
   have hm : mDecode s = ((⟨0, 0, 0, 0, 0, ⟨0, emp, emp, 0⟩⟩ : DCommand), mCmd (⟨((s.data.getD 0 0).toNat : Int), ((s.data.getD 1 0).toNat : Int), 0, 0, 0, ⟨0, emp, emp, 0⟩⟩ : DCommand)) := by
     have hk : (cmd0 s).kind = ((s.data.getD 0 0).toNat : Int) := rfl
     unfold mDecode
     repeat (first | rw [if_pos (by omega)] | rw [if_neg (by omega)])
     all_goals (simp only [mFin, cmd0, zOp, h7, h8, ne_eq, not_true_eq_false, not_false_eq_true, if_true, if_false, reduceIte]; try rfl)
   rw [hm]
   rfl
 refine Mo 1 ?_ Try.call119 (fun bs w hS hb => command_body (⟨((s.data.getD 0 0).toNat : Int), ((s.data.getD 1 0).toNat : Int), 0, 0, 0, ⟨0, emp, emp, 0⟩⟩ : DCommand) (bs.getD 1 0) (s.extract 2 s.size) w hb (by first | assumption | omega | (simp only [emp_size]; omega)) ⟨(by simp [emp_size]), (by simp [emp_size])⟩)
 rintro y1 ⟨hF1, hG1⟩
 generalize hbd : mBody (⟨((s.data.getD 0 0).toNat : Int), ((s.data.getD 1 0).toNat : Int), 0, 0, 0, ⟨0, emp, emp, 0⟩⟩ : DCommand) (s.extract 2 s.size) = bd at hF1 ⊢
 refine Mdn (bd.2.2 = 0) (fun h4 => ?_) fun h4 => ?_
 rotate_left
 · refine Mt [vC, vi bd.2.2] fun bs w hS => ?_
   refine ⟨?_, hS.kp⟩
   have hm : mDecode s = ((⟨0, 0, 0, 0, 0, ⟨0, emp, emp, 0⟩⟩ : DCommand), bd.2.2) := by
     have hk : (cmd0 s).kind = ((s.data.getD 0 0).toNat : Int) := rfl
     unfold mDecode
     repeat (first | rw [if_pos (by omega)] | rw [if_neg (by omega)])
     rw [show mBody (cmd0 s) (s.extract 2 s.size) = bd from hbd]
     all_goals (simp only [mFin, cmd0, zOp, h4, ne_eq, not_true_eq_false, not_false_eq_true, if_true, if_false, reduceIte]; try rfl)
   rw [hm]
   rfl
 refine Mdn (bd.2.1 = emp) (fun h5 => ?_) fun h5 => ?_
 rotate_left
 · refine Mt [vC, vi 4] fun bs w hS => ?_
   refine ⟨?_, hS.kp⟩
   have hm : mDecode s = ((⟨0, 0, 0, 0, 0, ⟨0, emp, emp, 0⟩⟩ : DCommand), 4) := by
     have hk : (cmd0 s).kind = ((s.data.getD 0 0).toNat : Int) := rfl
     unfold mDecode
     repeat (first | rw [if_pos (by omega)] | rw [if_neg (by omega)])
     rw [show mBody (cmd0 s) (s.extract 2 s.size) = bd from hbd]
     have hbz : bd.2.2 = 0 := by assumption
     all_goals (simp only [mFin, cmd0, zOp, ← hF1 hbz, h4, h5, ne_eq, not_true_eq_false, not_false_eq_true, if_true, if_false, reduceIte]; try rfl)
   rw [hm]
   rfl
 have hzh5 : bd.2.1.size = 0 := by rw [h5]; rfl
 refine Mp ?_ Try.call120 (fun bs w hS => command_Check (B := anyB) y1 w hG1)
 refine Mdn (mCmd y1 = 0) (fun h6 => ?_) fun h6 => ?_
 rotate_left
 · refine Mt [vC, vi (mCmd y1)] fun bs w hS => ?_
   refine ⟨?_, hS.kp⟩
   have hm : mDecode s = ((⟨0, 0, 0, 0, 0, ⟨0, emp, emp, 0⟩⟩ : DCommand), mCmd y1) := by
     have hk : (cmd0 s).kind = ((s.data.getD 0 0).toNat : Int) := rfl
     unfold mDecode
     repeat (first | rw [if_pos (by omega)] | rw [if_neg (by omega)])
     rw [show mBody (cmd0 s) (s.extract 2 s.size) = bd from hbd]
     have hbz : bd.2.2 = 0 := by assumption
     all_goals (simp only [mFin, cmd0, zOp, ← hF1 hbz, h4, h5, h6, ne_eq, not_true_eq_false, not_false_eq_true, if_true, if_false, reduceIte]; try rfl)
   rw [hm]
   rfl
 refine Mt [y1.val, vi 0] fun bs w hS => ?_
 refine ⟨?_, hS.kp⟩
 have hm : mDecode s = ((⟨y1.kind, y1.client, y1.session, y1.seq, y1.acked, ⟨y1.op.kind, y1.op.a, y1.op.b, y1.op.n⟩⟩ : DCommand), 0) := by
   have hk : (cmd0 s).kind = ((s.data.getD 0 0).toNat : Int) := rfl
   unfold mDecode
   repeat (first | rw [if_pos (by omega)] | rw [if_neg (by omega)])
   rw [show mBody (cmd0 s) (s.extract 2 s.size) = bd from hbd]
   have hbz : bd.2.2 = 0 := by assumption
   all_goals (simp only [mFin, cmd0, zOp, ← hF1 hbz, h4, h5, h6, ne_eq, not_true_eq_false, not_false_eq_true, if_true, if_false, reduceIte]; try rfl)
 rw [hm]
 rfl

theorem ref_CommandOf (s : ByteArray) (w : World) (hs : s.size ≤ 9223372036854775807) : Calls Try.prog 82 #[vs s] w fun e w' => e = .returned (.tuple #[(mDecode s).1.val, vi (mDecode s).2]) ∧ Kp [] w w' := by
 have hu0 := (s.data.getD 0 0).toNat_lt
 have hu1 := (s.data.getD 1 0).toNat_lt
 have hex : (s.extract 2 s.size).size ≤ s.size := by simp
 refine M0 ?_ Try.func82
 refine Md ((5000 : Int) < (s.size : Int)) (fun h1 => ?_) fun h1 => ?_
 · refine Mt [vC, vi 1] fun bs w hS => ?_
   refine ⟨?_, hS.kp⟩
   have hm : mDecode s = ((⟨0, 0, 0, 0, 0, ⟨0, emp, emp, 0⟩⟩ : DCommand), 1) := by
     have hk : (cmd0 s).kind = ((s.data.getD 0 0).toNat : Int) := rfl
     unfold mDecode
     repeat (first | rw [if_pos (by omega)] | rw [if_neg (by omega)])
     rfl
   rw [hm]
   rfl
 refine Md ((s.size : Int) < 2) (fun h2 => ?_) fun h2 => ?_
 · refine Mt [vC, vi 5] fun bs w hS => ?_
   refine ⟨?_, hS.kp⟩
   have hm : mDecode s = ((⟨0, 0, 0, 0, 0, ⟨0, emp, emp, 0⟩⟩ : DCommand), 5) := by
     have hk : (cmd0 s).kind = ((s.data.getD 0 0).toNat : Int) := rfl
     unfold mDecode
     repeat (first | rw [if_pos (by omega)] | rw [if_neg (by omega)])
     rfl
   rw [hm]
   rfl
 refine Mda 8 [] [] [] Try_mixed ?_
 refine Mih ?_ (pc (pG [(27, .sidx 0)] (oc (rfl : (0 : Int) = ((0 : Nat) : Int)) (oc ((by omega) : 0 < s.size) on))) (pc (pP (0 ≤ ((s.data.getD 0 0).toNat : Int))) (pc (pP (((s.data.getD 0 0).toNat : Int) ≤ 255)) (pc (pG [(30, .sidx 1)] (oc (rfl : (1 : Int) = ((1 : Nat) : Int)) (oc ((by omega) : 1 < s.size) on))) (pc (pP (0 ≤ ((s.data.getD 1 0).toNat : Int))) (pP (((s.data.getD 1 0).toNat : Int) ≤ 255)))))))
 refine Mi ?_ (pG [(34, .sl 2 s.size)] (oc (rfl : (2 : Int) = ((2 : Nat) : Int)) (oc (rfl : s.size = s.size) (oc ((by omega) : 2 ≤ s.size) on))))
 refine Md (((s.data.getD 0 0).toNat : Int) = 2) (fun h3 => ?_) fun h3 => ?_
 rotate_left
 · refine Mdn ((s.extract 2 s.size) = emp) (fun h13 => ?_) fun h13 => ?_
   rotate_left
   · refine Mt [vC, vi 4] fun bs w hS => ?_
     refine ⟨?_, hS.kp⟩
     have hm : mDecode s = ((⟨0, 0, 0, 0, 0, ⟨0, emp, emp, 0⟩⟩ : DCommand), 4) := by
       have hk : (cmd0 s).kind = ((s.data.getD 0 0).toNat : Int) := rfl
       unfold mDecode
       repeat (first | rw [if_pos (by omega)] | rw [if_neg (by omega)])
       all_goals (simp only [mFin, mBody, cmd0, zOp, h13, ne_eq, not_true_eq_false, not_false_eq_true, if_true, if_false, reduceIte]; try rfl)
     rw [hm]
     rfl
   have hzh13 : (s.extract 2 s.size).size = 0 := by rw [h13]; rfl
   refine Mp ?_ Try.call123 (fun bs w hS => ref_CommandFault (B := anyB) (⟨((s.data.getD 0 0).toNat : Int), ((s.data.getD 1 0).toNat : Int), 0, 0, 0, ⟨0, emp, emp, 0⟩⟩ : DCommand) w ⟨(show emp.size ≤ 9223372036854775807 from (by first | assumption | omega | (simp only [emp_size]; omega))), (show emp.size ≤ 9223372036854775807 from (by first | assumption | omega | (simp only [emp_size]; omega)))⟩)
   refine Mdn (mCmd (⟨((s.data.getD 0 0).toNat : Int), ((s.data.getD 1 0).toNat : Int), 0, 0, 0, ⟨0, emp, emp, 0⟩⟩ : DCommand) = 0) (fun h14 => ?_) fun h14 => ?_
   · refine Mt [.agg #[vi ((s.data.getD 0 0).toNat : Int), vi ((s.data.getD 1 0).toNat : Int), vi 0, vi 0, vi 0, vi 0, ve, ve, vi 0], vi 0] fun bs w hS => ?_
     refine ⟨?_, hS.kp⟩
     have hm : mDecode s = ((⟨((s.data.getD 0 0).toNat : Int), ((s.data.getD 1 0).toNat : Int), 0, 0, 0, ⟨0, emp, emp, 0⟩⟩ : DCommand), 0) := by
       have hk : (cmd0 s).kind = ((s.data.getD 0 0).toNat : Int) := rfl
       unfold mDecode
       repeat (first | rw [if_pos (by omega)] | rw [if_neg (by omega)])
       all_goals (simp only [mFin, mBody, cmd0, zOp, h13, h14, ne_eq, not_true_eq_false, not_false_eq_true, if_true, if_false, reduceIte]; try rfl)
     rw [hm]
     rfl
   refine Mt [vC, vi (mCmd (⟨((s.data.getD 0 0).toNat : Int), ((s.data.getD 1 0).toNat : Int), 0, 0, 0, ⟨0, emp, emp, 0⟩⟩ : DCommand))] fun bs w hS => ?_
   refine ⟨?_, hS.kp⟩
   have hm : mDecode s = ((⟨0, 0, 0, 0, 0, ⟨0, emp, emp, 0⟩⟩ : DCommand), mCmd (⟨((s.data.getD 0 0).toNat : Int), ((s.data.getD 1 0).toNat : Int), 0, 0, 0, ⟨0, emp, emp, 0⟩⟩ : DCommand)) := by
     have hk : (cmd0 s).kind = ((s.data.getD 0 0).toNat : Int) := rfl
     unfold mDecode
     repeat (first | rw [if_pos (by omega)] | rw [if_neg (by omega)])
     all_goals (simp only [mFin, mBody, cmd0, zOp, h13, h14, ne_eq, not_true_eq_false, not_false_eq_true, if_true, if_false, reduceIte]; try rfl)
   rw [hm]
   rfl
 refine Mun 6 fun _ on1 => ?_
 refine Mq 39 true ?_ rfl
 refine Mp ?_ (vs := fun bs => [vs (s.extract 2 s.size)]) Try.call121 (fun bs w hS => ref_NumberOf _ w (by first | assumption | omega | (simp only [emp_size]; omega)))
 have hzr1 := mRead_bd (s.extract 2 s.size)
 generalize hr1 : mRead (s.extract 2 s.size) = r1 at hzr1 ⊢
 refine Mdn (r1.2.2 = 0) (fun h4 => ?_) fun h4 => ?_
 rotate_left
 · refine Mt [vC, vi r1.2.2] fun bs w hS => ?_
   refine ⟨?_, hS.kp⟩
   have hm : mDecode s = ((⟨0, 0, 0, 0, 0, ⟨0, emp, emp, 0⟩⟩ : DCommand), r1.2.2) := by
     have hk : (cmd0 s).kind = ((s.data.getD 0 0).toNat : Int) := rfl
     unfold mDecode
     repeat (first | rw [if_pos (by omega)] | rw [if_neg (by omega)])
     all_goals (simp only [mFin, mBody, cmd0, zOp, hr1, h4, ne_eq, not_true_eq_false, not_false_eq_true, if_true, if_false, reduceIte]; try rfl)
   rw [hm]
   rfl
 refine Mi ?_ (pc (pG [(54, .idx default 0)] (oc (rfl : (0 : Int) = ((0 : Nat) : Int)) (oc ((by omega) : 0 < 5) on))) (pR (1)))
 refine on1 5 (J := ?_)
 refine Mq 39 true ?_ rfl
 refine Mp ?_ (vs := fun bs => [vs r1.2.1]) Try.call121 (fun bs w hS => ref_NumberOf _ w (by first | assumption | omega | (simp only [emp_size]; omega)))
 have hzr2 := mRead_bd r1.2.1
 generalize hr2 : mRead r1.2.1 = r2 at hzr2 ⊢
 refine Mdn (r2.2.2 = 0) (fun h5 => ?_) fun h5 => ?_
 rotate_left
 · refine Mt [vC, vi r2.2.2] fun bs w hS => ?_
   refine ⟨?_, hS.kp⟩
   have hm : mDecode s = ((⟨0, 0, 0, 0, 0, ⟨0, emp, emp, 0⟩⟩ : DCommand), r2.2.2) := by
     have hk : (cmd0 s).kind = ((s.data.getD 0 0).toNat : Int) := rfl
     unfold mDecode
     repeat (first | rw [if_pos (by omega)] | rw [if_neg (by omega)])
     all_goals (simp only [mFin, mBody, cmd0, zOp, hr1, hr2, h4, h5, ne_eq, not_true_eq_false, not_false_eq_true, if_true, if_false, reduceIte]; try rfl)
   rw [hm]
   rfl
 refine Mi ?_ (pc (pG [(54, .idx default 1)] (oc (rfl : (1 : Int) = ((1 : Nat) : Int)) (oc ((by omega) : 1 < 5) on))) (pR (2)))
 refine on1 4 (J := ?_)
 refine Mq 39 true ?_ rfl
 refine Mp ?_ (vs := fun bs => [vs r2.2.1]) Try.call121 (fun bs w hS => ref_NumberOf _ w (by first | assumption | omega | (simp only [emp_size]; omega)))
 have hzr3 := mRead_bd r2.2.1
 generalize hr3 : mRead r2.2.1 = r3 at hzr3 ⊢
 refine Mdn (r3.2.2 = 0) (fun h6 => ?_) fun h6 => ?_
 rotate_left
 · refine Mt [vC, vi r3.2.2] fun bs w hS => ?_
   refine ⟨?_, hS.kp⟩
   have hm : mDecode s = ((⟨0, 0, 0, 0, 0, ⟨0, emp, emp, 0⟩⟩ : DCommand), r3.2.2) := by
     have hk : (cmd0 s).kind = ((s.data.getD 0 0).toNat : Int) := rfl
     unfold mDecode
     repeat (first | rw [if_pos (by omega)] | rw [if_neg (by omega)])
     all_goals (simp only [mFin, mBody, cmd0, zOp, hr1, hr2, hr3, h4, h5, h6, ne_eq, not_true_eq_false, not_false_eq_true, if_true, if_false, reduceIte]; try rfl)
   rw [hm]
   rfl
 refine Mi ?_ (pc (pG [(54, .idx default 2)] (oc (rfl : (2 : Int) = ((2 : Nat) : Int)) (oc ((by omega) : 2 < 5) on))) (pR (3)))
 refine on1 3 (J := ?_)
 refine Mq 39 true ?_ rfl
 refine Mp ?_ (vs := fun bs => [vs r3.2.1]) Try.call121 (fun bs w hS => ref_NumberOf _ w (by first | assumption | omega | (simp only [emp_size]; omega)))
 have hzr4 := mRead_bd r3.2.1
 generalize hr4 : mRead r3.2.1 = r4 at hzr4 ⊢
 refine Mdn (r4.2.2 = 0) (fun h7 => ?_) fun h7 => ?_
 rotate_left
 · refine Mt [vC, vi r4.2.2] fun bs w hS => ?_
   refine ⟨?_, hS.kp⟩
   have hm : mDecode s = ((⟨0, 0, 0, 0, 0, ⟨0, emp, emp, 0⟩⟩ : DCommand), r4.2.2) := by
     have hk : (cmd0 s).kind = ((s.data.getD 0 0).toNat : Int) := rfl
     unfold mDecode
     repeat (first | rw [if_pos (by omega)] | rw [if_neg (by omega)])
     all_goals (simp only [mFin, mBody, cmd0, zOp, hr1, hr2, hr3, hr4, h4, h5, h6, h7, ne_eq, not_true_eq_false, not_false_eq_true, if_true, if_false, reduceIte]; try rfl)
   rw [hm]
   rfl
 refine Mi ?_ (pc (pG [(54, .idx default 3)] (oc (rfl : (3 : Int) = ((3 : Nat) : Int)) (oc ((by omega) : 3 < 5) on))) (pR (4)))
 refine on1 2 (J := ?_)
 refine Mq 39 true ?_ rfl
 refine Mp ?_ (vs := fun bs => [vs r4.2.1]) Try.call121 (fun bs w hS => ref_NumberOf _ w (by first | assumption | omega | (simp only [emp_size]; omega)))
 have hzr5 := mRead_bd r4.2.1
 generalize hr5 : mRead r4.2.1 = r5 at hzr5 ⊢
 refine Mdn (r5.2.2 = 0) (fun h8 => ?_) fun h8 => ?_
 rotate_left
 · refine Mt [vC, vi r5.2.2] fun bs w hS => ?_
   refine ⟨?_, hS.kp⟩
   have hm : mDecode s = ((⟨0, 0, 0, 0, 0, ⟨0, emp, emp, 0⟩⟩ : DCommand), r5.2.2) := by
     have hk : (cmd0 s).kind = ((s.data.getD 0 0).toNat : Int) := rfl
     unfold mDecode
     repeat (first | rw [if_pos (by omega)] | rw [if_neg (by omega)])
     all_goals (simp only [mFin, mBody, cmd0, zOp, hr1, hr2, hr3, hr4, hr5, h4, h5, h6, h7, h8, ne_eq, not_true_eq_false, not_false_eq_true, if_true, if_false, reduceIte]; try rfl)
   rw [hm]
   rfl
 refine Mi ?_ (pc (pG [(54, .idx default 4)] (oc (rfl : (4 : Int) = ((4 : Nat) : Int)) (oc ((by omega) : 4 < 5) on))) (pR (5)))
 refine on1 1 (J := ?_)
 refine Mq 39 false ?_ rfl
 refine Mi ?_ (pc (pG [(56, .idx default 0)] (oc (rfl : (0 : Int) = ((0 : Nat) : Int)) (oc ((by omega) : 0 < 5) on))) (pc (pG [(59, .idx default 1)] (oc (rfl : (1 : Int) = ((1 : Nat) : Int)) (oc ((by omega) : 1 < 5) on))) (pc (pG [(62, .idx default 2)] (oc (rfl : (2 : Int) = ((2 : Nat) : Int)) (oc ((by omega) : 2 < 5) on))) (pc (pG [(65, .idx default 3)] (oc (rfl : (3 : Int) = ((3 : Nat) : Int)) (oc ((by omega) : 3 < 5) on))) (pG [(69, .idx default 4)] (oc (rfl : (4 : Int) = ((4 : Nat) : Int)) (oc ((by omega) : 4 < 5) on)))))))
 refine Mp ?_ (vs := fun bs => [vs r5.2.1]) Try.call122 (fun bs w hS => ref_TextOf _ w (by first | assumption | omega | (simp only [emp_size]; omega)))
 have hzr6 := mTell_bd r5.2.1
 generalize hr6 : mTell r5.2.1 = r6 at hzr6 ⊢
 refine Mdn (r6.2.2 = 0) (fun h9 => ?_) fun h9 => ?_
 rotate_left
 · refine Mt [vC, vi r6.2.2] fun bs w hS => ?_
   refine ⟨?_, hS.kp⟩
   have hm : mDecode s = ((⟨0, 0, 0, 0, 0, ⟨0, emp, emp, 0⟩⟩ : DCommand), r6.2.2) := by
     have hk : (cmd0 s).kind = ((s.data.getD 0 0).toNat : Int) := rfl
     unfold mDecode
     repeat (first | rw [if_pos (by omega)] | rw [if_neg (by omega)])
     all_goals (simp only [mFin, mBody, cmd0, zOp, hr1, hr2, hr3, hr4, hr5, hr6, h4, h5, h6, h7, h8, h9, ne_eq, not_true_eq_false, not_false_eq_true, if_true, if_false, reduceIte]; try rfl)
   rw [hm]
   rfl
 refine Mp ?_ (vs := fun bs => [vs r6.2.1]) Try.call122 (fun bs w hS => ref_TextOf _ w (by first | assumption | omega | (simp only [emp_size]; omega)))
 have hzr7 := mTell_bd r6.2.1
 generalize hr7 : mTell r6.2.1 = r7 at hzr7 ⊢
 refine Mdn (r7.2.2 = 0) (fun h10 => ?_) fun h10 => ?_
 rotate_left
 · refine Mt [vC, vi r7.2.2] fun bs w hS => ?_
   refine ⟨?_, hS.kp⟩
   have hm : mDecode s = ((⟨0, 0, 0, 0, 0, ⟨0, emp, emp, 0⟩⟩ : DCommand), r7.2.2) := by
     have hk : (cmd0 s).kind = ((s.data.getD 0 0).toNat : Int) := rfl
     unfold mDecode
     repeat (first | rw [if_pos (by omega)] | rw [if_neg (by omega)])
     all_goals (simp only [mFin, mBody, cmd0, zOp, hr1, hr2, hr3, hr4, hr5, hr6, hr7, h4, h5, h6, h7, h8, h9, h10, ne_eq, not_true_eq_false, not_false_eq_true, if_true, if_false, reduceIte]; try rfl)
   rw [hm]
   rfl
 refine Mdn (r7.2.1 = emp) (fun h11 => ?_) fun h11 => ?_
 rotate_left
 · refine Mt [vC, vi 4] fun bs w hS => ?_
   refine ⟨?_, hS.kp⟩
   have hm : mDecode s = ((⟨0, 0, 0, 0, 0, ⟨0, emp, emp, 0⟩⟩ : DCommand), 4) := by
     have hk : (cmd0 s).kind = ((s.data.getD 0 0).toNat : Int) := rfl
     unfold mDecode
     repeat (first | rw [if_pos (by omega)] | rw [if_neg (by omega)])
     all_goals (simp only [mFin, mBody, cmd0, zOp, hr1, hr2, hr3, hr4, hr5, hr6, hr7, h4, h5, h6, h7, h8, h9, h10, h11, ne_eq, not_true_eq_false, not_false_eq_true, if_true, if_false, reduceIte]; try rfl)
   rw [hm]
   rfl
 have hzh11 : r7.2.1.size = 0 := by rw [h11]; rfl
 refine Mp ?_ Try.call123 (fun bs w hS => ref_CommandFault (B := anyB) (⟨((s.data.getD 0 0).toNat : Int), ((s.data.getD 1 0).toNat : Int), r1.1, r2.1, r3.1, ⟨r4.1, r6.1, r7.1, r5.1⟩⟩ : DCommand) w ⟨(show r6.1.size ≤ 9223372036854775807 from (by first | assumption | omega | (simp only [emp_size]; omega))), (show r7.1.size ≤ 9223372036854775807 from (by first | assumption | omega | (simp only [emp_size]; omega)))⟩)
 refine Mdn (mCmd (⟨((s.data.getD 0 0).toNat : Int), ((s.data.getD 1 0).toNat : Int), r1.1, r2.1, r3.1, ⟨r4.1, r6.1, r7.1, r5.1⟩⟩ : DCommand) = 0) (fun h12 => ?_) fun h12 => ?_
 · refine Mt [.agg #[vi ((s.data.getD 0 0).toNat : Int), vi ((s.data.getD 1 0).toNat : Int), vi r1.1, vi r2.1, vi r3.1, vi r4.1, vs r6.1, vs r7.1, vi r5.1], vi 0] fun bs w hS => ?_
   refine ⟨?_, hS.kp⟩
   have hm : mDecode s = ((⟨((s.data.getD 0 0).toNat : Int), ((s.data.getD 1 0).toNat : Int), r1.1, r2.1, r3.1, ⟨r4.1, r6.1, r7.1, r5.1⟩⟩ : DCommand), 0) := by
     have hk : (cmd0 s).kind = ((s.data.getD 0 0).toNat : Int) := rfl
     unfold mDecode
     repeat (first | rw [if_pos (by omega)] | rw [if_neg (by omega)])
     all_goals (simp only [mFin, mBody, cmd0, zOp, hr1, hr2, hr3, hr4, hr5, hr6, hr7, h4, h5, h6, h7, h8, h9, h10, h11, h12, ne_eq, not_true_eq_false, not_false_eq_true, if_true, if_false, reduceIte]; try rfl)
   rw [hm]
   rfl
 refine Mt [vC, vi (mCmd (⟨((s.data.getD 0 0).toNat : Int), ((s.data.getD 1 0).toNat : Int), r1.1, r2.1, r3.1, ⟨r4.1, r6.1, r7.1, r5.1⟩⟩ : DCommand))] fun bs w hS => ?_
 refine ⟨?_, hS.kp⟩
 have hm : mDecode s = ((⟨0, 0, 0, 0, 0, ⟨0, emp, emp, 0⟩⟩ : DCommand), mCmd (⟨((s.data.getD 0 0).toNat : Int), ((s.data.getD 1 0).toNat : Int), r1.1, r2.1, r3.1, ⟨r4.1, r6.1, r7.1, r5.1⟩⟩ : DCommand)) := by
   have hk : (cmd0 s).kind = ((s.data.getD 0 0).toNat : Int) := rfl
   unfold mDecode
   repeat (first | rw [if_pos (by omega)] | rw [if_neg (by omega)])
   all_goals (simp only [mFin, mBody, cmd0, zOp, hr1, hr2, hr3, hr4, hr5, hr6, hr7, h4, h5, h6, h7, h8, h9, h10, h11, h12, ne_eq, not_true_eq_false, not_false_eq_true, if_true, if_false, reduceIte]; try rfl)
 rw [hm]
 rfl

theorem log_Check {B : Nat → Prop} (x : CLog) (w : World) (hx : Rds.sub B w x) : Calls Try.prog 76 #[x.val] w fun e w' => e = .returned (vi (mLog x.abs)) ∧ Kp [] w w' := by
 have okx := Rds.okof hx
 have ncx := Sl.ok.nc okx
 have hnx : x.entries.n = x.entries.xs.length := rfl
 have q1 : x.abs.base = x.base := rfl
 have q2 : x.abs.entries = x.entries.xs := rfl
 have hat : ∀ q, x.entries.xs.getD q default = x.entries.at q := fun _ => rfl
 refine M0 ?_ Try.func76
 refine Md (x.base < 0) (fun h1 => ?_) fun h1 => ?_
 · have hm : mLog x.abs = 2 := by
     unfold mLog; rw [q1, q2]
     first | rw [if_pos (by omega)] | rw [if_neg (by omega), if_pos (by omega)]
   exact Me0 2 hm
 refine Md ((1073741424 : Int) < x.base) (fun h2 => ?_) fun h2 => ?_
 · have hm : mLog x.abs = 2 := by
     unfold mLog; rw [q1, q2]
     first | rw [if_pos (by omega)] | rw [if_neg (by omega), if_pos (by omega)]
   exact Me0 2 hm
 refine Md ((400 : Int) < (x.entries.n : Int)) (fun h3 => ?_) fun h3 => ?_
 · have hm : mLog x.abs = 1 := by
     unfold mLog; rw [q1, q2]
     first | rw [if_pos (by omega)] | rw [if_neg (by omega), if_pos (by omega)]
   exact Me0 1 hm
 refine Ml (σ := Nat) (fun i => i ≤ x.entries.n ∧ mLog x.abs = firstF (logF x.entries.xs) (x.entries.n - i) i) (fun i => x.entries.n - i) (fun _ => []) [22, 21, 20] (fun i => [(22, vI (i : Int))]) (fun _ => []) ?_ 0 ⟨Nat.zero_le _, by unfold mLog; rw [q1, q2, if_neg (by omega), if_neg (by omega)]⟩
 rintro i ⟨hi, hI⟩ _ on1
 refine Md ((i : Int) < (x.entries.n : Int)) (fun h4 => ?_) fun h4 => ?_
 rotate_left
 · exact Me0 0 (by rw [hI, firstF_end (by omega)])
 refine Mi ?_ (pA 24 25 (i : Int) i (s := x.entries) (fun w hk hr => (Rds.kp hx hk)))
 refine Mp ?_ Try.call79 (fun bs w hS => command_Decode (x.entries.at i) w (Sl.ok.at (s := x.entries) (i := i) okx (by omega)))
 refine Mdn ((mDecode (x.entries.at i)).2 = 0) (fun h5 => ?_) fun h5 => ?_
 · refine Mi ?_ (pR ((i : Int) + 1))
   have hf0 : logF x.entries.xs i = 0 := by grind [logF]
   exact on1 (i + 1) ⟨by omega, by rw [hI]; exact firstF_step (by omega) hf0⟩ (by omega)
 refine Me0 ((mDecode (x.entries.at i)).2) ?_
 have hf : logF x.entries.xs i = (mDecode (x.entries.at i)).2 := by unfold logF; rw [hat]
 rw [hI, firstF_here (by omega) hf (by assumption)]

theorem ref_LogFault {B : Nat → Prop} (x : CLog) (w : World) (hx : Rds.sub B w x) : Calls Try.prog 80 #[x.val] w fun e w' => e = .returned (vi (mLog x.abs)) ∧ Kp [] w w' := by
 have okx := Rds.okof hx
 have ncx := Sl.ok.nc okx
 have hnx : x.entries.n = x.entries.xs.length := rfl
 have q1 : x.abs.base = x.base := rfl
 have q2 : x.abs.entries = x.entries.xs := rfl
 have hat : ∀ q, x.entries.xs.getD q default = x.entries.at q := fun _ => rfl
 refine M0 ?_ Try.func80
 refine Mp ?_ Try.call56 (fun bs w hS => ref_In x.base 0 1073741424 w)
 refine Mbn (inB x.base 0 1073741424) (fun h1 => ?_) fun h1 => ?_
 rotate_left
 · simp only [iT, iF] at h1
   have hm : mLog x.abs = 2 := by
     unfold mLog; rw [q1, q2]
     first | rw [if_pos (by omega)] | rw [if_neg (by omega), if_pos (by omega)]
   exact Me0 2 hm
 simp only [iT, iF] at h1
 refine Md ((400 : Int) < (x.entries.n : Int)) (fun h2 => ?_) fun h2 => ?_
 · have hm : mLog x.abs = 1 := by
     unfold mLog; rw [q1, q2]
     first | rw [if_pos (by omega)] | rw [if_neg (by omega), if_pos (by omega)]
   exact Me0 1 hm
 refine Ml (σ := Nat) (fun i => i ≤ x.entries.n ∧ mLog x.abs = firstF (logF x.entries.xs) (x.entries.n - i) i) (fun i => x.entries.n - i) (fun _ => []) [3, 1] (fun i => [(3, vI (i : Int))]) (fun _ => []) ?_ 0 ⟨Nat.zero_le _, by unfold mLog; rw [q1, q2, if_neg (by omega), if_neg (by omega)]⟩
 rintro i ⟨hi, hI⟩ _ on1
 refine Md ((i : Int) < (x.entries.n : Int)) (fun h3 => ?_) fun h3 => ?_
 rotate_left
 · exact Me0 0 (by rw [hI, firstF_end (by omega)])
 refine Mi ?_ (pA 25 26 (i : Int) i (s := x.entries) (fun w hk hr => (Rds.kp hx hk)))
 refine Mp ?_ Try.call82 (fun bs w hS => ref_CommandOf (x.entries.at i) w (Sl.ok.at (s := x.entries) (i := i) okx (by omega)))
 refine Mdn ((mDecode (x.entries.at i)).2 = 0) (fun h4 => ?_) fun h4 => ?_
 · refine Mi ?_ (pR ((i : Int) + 1))
   have hf0 : logF x.entries.xs i = 0 := by grind [logF]
   exact on1 (i + 1) ⟨by omega, by rw [hI]; exact firstF_step (by omega) hf0⟩ (by omega)
 refine Me0 ((mDecode (x.entries.at i)).2) ?_
 have hf : logF x.entries.xs i = (mDecode (x.entries.at i)).2 := by unfold logF; rw [hat]
 rw [hI, firstF_here (by omega) hf (by assumption)]

theorem log_Last {B : Nat → Prop} (x : CLog) (w : World) (hx : Rds.sub B w x) (hb : 0 ≤ x.base ∧ x.base ≤ 1073741424 ∧ x.entries.n ≤ 1048576) : Calls Try.prog 77 #[x.val] w fun e w' => e = .returned (vi (x.base + (x.entries.n : Int))) ∧ Kp [] w w' := by
 have okx := Rds.okof hx
 have ncx := Sl.ok.nc okx
 have hnx : x.entries.n = x.entries.xs.length := rfl
 have q1 : x.abs.base = x.base := rfl
 have q2 : x.abs.entries = x.entries.xs := rfl
 have hat : ∀ q, x.entries.xs.getD q default = x.entries.at q := fun _ => rfl
 refine M0 ?_ Try.func77
 refine Mi ?_ (pR (x.base + (x.entries.n : Int)))
 exact Mt [vi (x.base + (x.entries.n : Int))] fun bs w hS => ⟨rfl, hS.kp⟩

theorem ref_LastOf {B : Nat → Prop} (x : CLog) (w : World) (hx : Rds.sub B w x) (hb : 0 ≤ x.base ∧ x.base ≤ 1073741424 ∧ x.entries.n ≤ 1048576) : Calls Try.prog 81 #[x.val] w fun e w' => e = .returned (vi (x.base + (x.entries.n : Int))) ∧ Kp [] w w' := by
 have okx := Rds.okof hx
 have ncx := Sl.ok.nc okx
 have hnx : x.entries.n = x.entries.xs.length := rfl
 have q1 : x.abs.base = x.base := rfl
 have q2 : x.abs.entries = x.entries.xs := rfl
 have hat : ∀ q, x.entries.xs.getD q default = x.entries.at q := fun _ => rfl
 refine M0 ?_ Try.func81
 refine Mi ?_ (pR (x.base + (x.entries.n : Int)))
 exact Mt [vi (x.base + (x.entries.n : Int))] fun bs w hS => ⟨rfl, hS.kp⟩

theorem same_texts {B B' : Nat → Prop} (a b : Sl ByteArray) (w : World) (ha : a.rd B w) (hb : b.rd B' w) (he : a.xs = b.xs) : Calls Try.prog 83 #[a.val, b.val] w fun e w' => e = .returned (vb true) ∧ Kp [] w w' := by
 have oka := Sl.rd.ok ha
 have okb := Sl.rd.ok hb
 have hn := xs_n he
 have nca := Sl.ok.nc oka
 refine M0 ?_ Try.func83
 refine Mdn ((a.n : Int) = (b.n : Int)) (fun h1 => ?_) fun h1 => ?_
 rotate_left
 · exfalso; first | omega | exact h1 (xs_at he i)
 refine Ml (σ := Nat) (fun i => True) (fun i => a.n - i) (fun _ => []) [5, 0, 1] (fun i => [(5, vI (i : Int))]) (fun _ => []) ?_ 0 trivial
 rintro i _ _ on1
 have hat := xs_at he i
 refine Md ((i : Int) < (a.n : Int)) (fun h2 => ?_) fun h2 => ?_
 rotate_left
 · exact Mt [vb true] fun bs w hS => ⟨rfl, hS.kp⟩
 refine Mda 9 [] [] [] Try_mixed ?_
 refine Mih ?_ (pc (pA 19 20 (i : Int) i (rdk ha)) (pA 23 24 (i : Int) i (rdk hb)))
 refine Mdn ((a.at i) = (b.at i)) (fun h3 => ?_) fun h3 => ?_
 rotate_left
 · exfalso; first | omega | exact h3 (xs_at he i)
 refine Mi ?_ (pR ((i : Int) + 1))
 exact on1 (i + 1) trivial (by omega)

theorem cloneS_ByteArray (A : Option Addr) (n c : Nat) (L : List ByteArray) (w : World) (hl : L.length = n) (hsrc : SrcAt w A n (L.flatMap Lay.cells)) (hb : n * 16 ≤ 140737488355328) : Calls Try.prog 118 #[.slice A n c] w fun e w' => ∃ y : Sl ByteArray, e = .returned y.val ∧ y.xs = L ∧ Kp [] w w' ∧ Fresh w w' (rowA 9 y.A y.c y.xs) := by
 refine M0 ?_ Try.func118
 refine Mi ?_ (pG [(4, .val (.bool A.isNone))] (oc ((eq_nil Try.underlying47) : ∀ w, (do eqGuard .eql 47 (.tmp 3) (.const vn) (.slice A n c) vn; binOp .eql 47 (.slice A n c) vn : Sem Value).run Try.prog w = .ok (.bool A.isNone) w) on))
 refine Mb A.isNone (fun h1 => ?_) fun h1 => ?_
 · refine Mt [vn] fun bs w hS => ?_
   have hnil : L = [] := by cases hA : A with | none => rw [hA] at hsrc; have h0 : n = 0 := hsrc; exact List.eq_nil_of_length_eq_zero (by omega) | some a => rw [hA] at h1; cases h1
   exact ⟨Sl.nil, rfl, hnil.symm, hS.kp, rowA_nil 9 w⟩
 refine Mlz ?_ (α := ByteArray) (e := 9)
 intro A1
 refine Ma ?_ (α := ByteArray) (L2 := L) 16 (fun bs w hS => (SrcAt.kp hsrc hS.kp)) (hn2 := hl)
 intro A2 c2
 exact Mt [.slice A2 ([] ++ L).length c2] fun bs w hS => ⟨⟨A2, c2, [] ++ L⟩, rfl, by simp, hS.kp, hS.out1⟩
theorem clone_ByteArray {B : Nat → Prop} (s : Sl ByteArray) (w : World) (hs : s.rd B w) (hb : s.n * 16 ≤ 140737488355328) : Calls Try.prog 118 #[s.val] w fun e w' => ∃ y : Sl ByteArray, e = .returned y.val ∧ y.xs = s.xs ∧ Kp [] w w' ∧ Fresh w w' (rowA 9 y.A y.c y.xs) := cloneS_ByteArray s.A s.n s.c s.xs w rfl hs.src hb

theorem same_log {B B' : Nat → Prop} (a b : CLog) (w : World) (ha : Rds.sub B w a) (hb : Rds.sub B' w b) (he : a.abs = b.abs) : Calls Try.prog 31 #[a.val, b.val] w fun e w' => e = .returned (vb true) ∧ Kp [] w w' := by
 have oka := Rds.okof ha
 have okb := Rds.okof hb
 refine M0 ?_ Try.func31
 refine Md (a.base = b.base) (fun h1 => ?_) fun h1 => ?_
 rotate_left
 · exact absurd (congrArg (fun q => q.base) he) h1
 refine Mp ?_ Try.call83 (fun bs w hS => same_texts _ _ w (Rds.kp ha hS.kp) (Rds.kp hb hS.kp) (congrArg DLog.entries he))
 exact Mt [vb true] fun bs w hS => ⟨rfl, hS.kp⟩

theorem log_Cut {B : Nat → Prop} (x : CLog) (n : Int) (w : World) (hx : Rds.sub B w x) : Calls Try.prog 92 #[x.val, vi n] w fun e w' => ∃ y : CLog, e = .returned (.tuple #[y.val, vi (mCut x.abs n).2]) ∧ y.abs = (mCut x.abs n).1 ∧ FreshS w w' y := by
 have okx := Rds.okof hx
 have ncx := Sl.ok.nc okx
 have hnx : x.entries.n = x.entries.xs.length := rfl
 have hla : mLast x.abs = x.base + (x.entries.n : Int) := rfl
 have q1 : x.abs.base = x.base := rfl
 have q2 : x.abs.entries = x.entries.xs := rfl
 have hat : ∀ q, x.entries.xs.getD q default = x.entries.at q := fun _ => rfl
 refine M0 ?_ Try.func92
 refine Mp ?_ Try.call76 (fun bs w hS => log_Check x w (Rds.kp hx hS.kp))
 refine Mdn (mLog x.abs = 0) (fun h1 => ?_) fun h1 => ?_
 rotate_left
 · have hm : mCut x.abs n = (zLog, mLog x.abs) := by grind [mCut]
   exact Me2 hm ⟨0, Sl.nil⟩ rfl fun bs w hS => hS.outS (y := (⟨0, Sl.nil⟩ : CLog)) (Sl.rd_nil _ _)
 obtain ⟨hb1, hb2, hb3, hb4⟩ := mLog_bd h1
 rw [q1] at hb1 hb2
 rw [q2] at hb3
 refine Md (n < x.base) (fun h2 => ?_) fun h2 => ?_
 · have hm : mCut x.abs n = (zLog, 2) := by grind [mCut]
   exact Me2 hm ⟨0, Sl.nil⟩ rfl fun bs w hS => hS.outS (y := (⟨0, Sl.nil⟩ : CLog)) (Sl.rd_nil _ _)
 refine Mp ?_ Try.call77 (fun bs w hS => log_Last x w (Rds.kp hx hS.kp) (by first | exact ⟨by omega, by omega, by omega⟩ | omega))
 refine Md (x.base + (x.entries.n : Int) < n) (fun h3 => ?_) fun h3 => ?_
 · have hm : mCut x.abs n = (zLog, 2) := by grind [mCut]
   exact Me2 hm ⟨0, Sl.nil⟩ rfl fun bs w hS => hS.outS (y := (⟨0, Sl.nil⟩ : CLog)) (Sl.rd_nil _ _)
 refine Md ((1073741424 : Int) < n) (fun h4 => ?_) fun h4 => ?_
 · have hm : mCut x.abs n = (zLog, 8) := by grind [mCut]
   exact Me2 hm ⟨0, Sl.nil⟩ rfl fun bs w hS => hS.outS (y := (⟨0, Sl.nil⟩ : CLog)) (Sl.rd_nil _ _)
 refine Mi ?_ (pc (pR (n - x.base)) (pG [(34, .sl (n - x.base).toNat x.entries.n)] (oc ((by omega) : n - x.base = (((n - x.base).toNat : Nat) : Int)) (oc (rfl : x.entries.n = x.entries.n) (oc ((by omega) : (n - x.base).toNat ≤ x.entries.n) on)))))
 refine Mf ?_ (vs := fun bs => [.slice (if x.entries.c = (n - x.base).toNat then x.entries.A else x.entries.A.map (·.add ((n - x.base).toNat * 1))) (x.entries.n - (n - x.base).toNat) (x.entries.c - (n - x.base).toNat)]) Try.call118 (fun bs w hS => cloneS_ByteArray _ _ _ (x.entries.xs.drop (n - x.base).toNat) w (show (x.entries.xs.drop (n - x.base).toNat).length = x.entries.n - (n - x.base).toNat from List.length_drop ..) (Sl.rd.srcDrop (s := x.entries) (Rds.kp hx hS.kp) (by omega)) (by omega))
 rintro y1 hF1
 refine Mt [.agg #[vi n, y1.val], vi 0] fun bs w hS => ?_
 have hm : mCut x.abs n = (⟨n, x.entries.xs.drop (n - x.base).toNat⟩, 0) := by grind [mCut]
 have hsz : ∀ z, z ∈ y1.xs → z.size ≤ 9223372036854775807 := fun z hz => Sl.rd.mem (s := x.entries) hx z (List.mem_of_mem_drop (hF1 ▸ hz))
 refine ⟨⟨n, ⟨y1.A, y1.c, y1.xs⟩⟩, ?_, ?_, hS.outS (y := (⟨n, ⟨y1.A, y1.c, y1.xs⟩⟩ : CLog)) (allR_row i0 (hS.res _ i0) hsz)⟩
 · rw [hm]; rfl
 · rw [hm]; simp [CLog.abs, hF1]

theorem ref_CutOf {B : Nat → Prop} (x : CLog) (n : Int) (w : World) (hx : Rds.sub B w x) : Calls Try.prog 94 #[x.val, vi n] w fun e w' => ∃ y : CLog, e = .returned (.tuple #[y.val, vi (mCut x.abs n).2]) ∧ y.abs = (mCut x.abs n).1 ∧ FreshS w w' y := by
 have okx := Rds.okof hx
 have ncx := Sl.ok.nc okx
 have hnx : x.entries.n = x.entries.xs.length := rfl
 have hla : mLast x.abs = x.base + (x.entries.n : Int) := rfl
 have q1 : x.abs.base = x.base := rfl
 have q2 : x.abs.entries = x.entries.xs := rfl
 have hat : ∀ q, x.entries.xs.getD q default = x.entries.at q := fun _ => rfl
 refine M0 ?_ Try.func94
 refine Mp ?_ Try.call80 (fun bs w hS => ref_LogFault x w (Rds.kp hx hS.kp))
 refine Mda 11 [] [] [] Try_mixed ?_
 refine Md (mLog x.abs = 0) (fun h1 => ?_) fun h1 => ?_
 rotate_left
 · refine My false false ?_ (df h1)
   refine My false true ?_ (df h1)
   have hm : mCut x.abs n = (zLog, mLog x.abs) := by grind [mCut]
   exact Me2 hm ⟨0, Sl.nil⟩ rfl fun bs w hS => hS.outS (y := (⟨0, Sl.nil⟩ : CLog)) (Sl.rd_nil _ _)
 obtain ⟨hb1, hb2, hb3, hb4⟩ := mLog_bd h1
 rw [q1] at hb1 hb2
 rw [q2] at hb3
 refine Mp ?_ Try.call81 (fun bs w hS => ref_LastOf x w (Rds.kp hx hS.kp) (by first | exact ⟨by omega, by omega, by omega⟩ | omega))
 refine Mp ?_ Try.call56 (fun bs w hS => ref_In n x.base (x.base + (x.entries.n : Int)) w)
 refine Mbn (inB n x.base (x.base + (x.entries.n : Int))) (fun h2 => ?_) fun h2 => ?_
 rotate_left
 · simp only [iT, iF] at h2
   refine Mq 22 false ?_ rfl
   refine Mq 27 true ?_ rfl
   have hm : mCut x.abs n = (zLog, 2) := by grind [mCut]
   exact Me2 hm ⟨0, Sl.nil⟩ rfl fun bs w hS => hS.outS (y := (⟨0, Sl.nil⟩ : CLog)) (Sl.rd_nil _ _)
 simp only [iT, iF] at h2
 refine My true false ?_ (dt h1)
 refine Md ((1073741424 : Int) < n) (fun h4 => ?_) fun h4 => ?_
 · refine Mq 27 true ?_ rfl
   have hm : mCut x.abs n = (zLog, 8) := by grind [mCut]
   exact Me2 hm ⟨0, Sl.nil⟩ rfl fun bs w hS => hS.outS (y := (⟨0, Sl.nil⟩ : CLog)) (Sl.rd_nil _ _)
 refine My true true ?_ (dt h1)
 refine Mi ?_ (pc (pR (n - x.base)) (pG [(37, .sl (n - x.base).toNat x.entries.n)] (oc ((by omega) : n - x.base = (((n - x.base).toNat : Nat) : Int)) (oc (rfl : x.entries.n = x.entries.n) (oc ((by omega) : (n - x.base).toNat ≤ x.entries.n) on)))))
 refine m_rowA (α := ByteArray) 9 ?_
 refine Ma ?_ (α := ByteArray) (L2 := x.entries.xs.drop (n - x.base).toNat) 16 (fun bs w hS => Sl.rd.srcDrop (s := x.entries) (Rds.kp hx hS.kp) (by omega)) (hn2 := (List.length_drop ..))
 intro A1 c1
 refine Mt [.agg #[vi n, .slice A1 ([] ++ x.entries.xs.drop (n - x.base).toNat).length c1], vi 0] fun bs w hS => ?_
 have hm : mCut x.abs n = (⟨n, x.entries.xs.drop (n - x.base).toNat⟩, 0) := by grind [mCut]
 have hsz : ∀ z, z ∈ [] ++ x.entries.xs.drop (n - x.base).toNat → z.size ≤ 9223372036854775807 := fun z hz => Sl.rd.mem (s := x.entries) hx z (List.mem_of_mem_drop (by simpa using hz))
 refine ⟨⟨n, ⟨A1, c1, [] ++ x.entries.xs.drop (n - x.base).toNat⟩⟩, ?_, ?_, hS.outS (y := (⟨n, ⟨A1, c1, [] ++ x.entries.xs.drop (n - x.base).toNat⟩⟩ : CLog)) (allR_row i0 (hS.res _ i0) hsz)⟩
 · rw [hm]; rfl
 · rw [hm]; simp [CLog.abs]

theorem ref_worded (s : ByteArray) (w : World) (hs : s.size ≤ 9223372036854775807) : Calls Try.prog 136 #[vs s] w fun e w' => e = .returned (vs (mTextB s)) ∧ Kp [] w w' := by
 refine M0 ?_ Try.func136
 refine Mp ?_ Try.call157 (fun bs w hS => ref_TextBytes _ w (by first | assumption | omega | (simp only [emp_size]; omega)))
 exact Mt [vs (mText s).1] fun bs w hS => ⟨rfl, hS.kp⟩

theorem ref_joined {B : Nat → Prop} (s : Sl Int) (w : World) (hs : s.rd B w) (hb : s.n ≤ 1048576) : Calls Try.prog 135 #[s.val] w fun e w' => e = .returned (vs (mNums s.xs)) ∧ Kp [] w w' := by
 have oks := Sl.rd.ok hs
 have ncs := Sl.ok.nc oks
 have hns : s.n = s.xs.length := rfl
 refine M0 ?_ Try.func135
 refine Ml (σ := Nat × ByteArray) (fun ⟨i, u⟩ => i ≤ s.n ∧ u = mNums (s.xs.take i) ∧ u.size ≤ 6 * i) (fun ⟨i, u⟩ => s.n - i) (fun _ => []) [4, 3, 0] (fun ⟨i, u⟩ => [(4, vI (i : Int)), (3, vS u)]) (fun _ => []) ?_ (⟨0, emp⟩) ⟨Nat.zero_le _, rfl, Nat.zero_le _⟩
 rintro ⟨i, u⟩ ⟨hi, hI, hz⟩ _ on1
 have hn6 := mNumber_size (s.at i)
 refine Md ((i : Int) < (s.n : Int)) (fun h1 => ?_) fun h1 => ?_
 rotate_left
 · refine Mt [vs u] fun bs w hS => ?_
   refine ⟨?_, hS.kp⟩
   rw [hI]
   unfold mNums
   rw [foldl_all _ _ s.xs (by omega)]
   rfl
 refine Mi ?_ (pA 16 17 (i : Int) i (rdk hs))
 refine Mp ?_ Try.call156 (fun bs w hS => ref_NumberBytes (s.at i) w)
 refine Mi ?_ (pc (pP (u.size + (mNumber (s.at i)).1.size ≤ 9223372036854775807)) (pR ((i : Int) + 1)))
 exact on1 ⟨i + 1, u ++ (mNumber (s.at i)).1⟩ ⟨by show i + 1 ≤ s.n; omega, by rw [hI]; exact mNums_step (i := i) (l := s.xs) (by omega), by show (u ++ _).size ≤ 6 * (i + 1); rw [ByteArray.size_append]; omega⟩ (by show s.n - (i + 1) < s.n - i; omega)

theorem snap_text (x s : ByteArray) (b : Nat) (w : World) (hb : (blkR b 169 [vs x]).p w) (hs : s.size ≤ 9223372036854775807) (hx : x.size ≤ 4611686018427387904) : Calls Try.prog 134 #[.pointer (some ⟨b, 0, none⟩), vs s] w fun e w' => ∃ _ : Unit, e = .returned (.tuple #[]) ∧ True ∧ Kp [b] w w' ∧ (blkR b 169 [vs (x ++ mTextB s)]).p w' := by
 refine Mj ?_ Try.func134 (WS.start1 w _ hb (by simp [blkR]) (blkR_lt hb))
 refine Mp ?_ Try.call155 (fun bs w hS => codec_Text _ w (by first | assumption | omega | (simp only [emp_size]; omega)))
 refine Mi ?_ (pc (pBk 14 0 1 i0) (pP (x.size + (mText s).1.size ≤ 9223372036854775807) (by have := mTextB_size s; unfold mTextB at this; omega)))
 refine Msb 0 [vs (x ++ (mText s).1)] ?_
 exact Mt [] fun bs w hS => ⟨(), rfl, trivial, hS.kp, hS.res _ i0⟩

theorem snap_numbers {B : Nat → Prop} (x : ByteArray) (s : Sl Int) (b : Nat) (w : World) (hb : (blkR b 169 [vs x]).p w) (hs : s.rd B w) (hsn : s.n ≤ 1048576) (hx : x.size ≤ 4611686018427387904) : Calls Try.prog 133 #[.pointer (some ⟨b, 0, none⟩), s.val] w fun e w' => ∃ _ : Unit, e = .returned (.tuple #[]) ∧ True ∧ Kp [b] w w' ∧ (blkR b 169 [vs (x ++ mNums s.xs)]).p w' := by
 have oks := Sl.rd.ok hs
 have ncs := Sl.ok.nc oks
 have hns : s.n = s.xs.length := rfl
 have hs2 := rd_neblk hs hb
 refine Mj ?_ Try.func133 (WS.start1 w _ hb (by simp [blkR]) (blkR_lt hb))
 refine Ml (σ := Nat × ByteArray) (fun ⟨i, u⟩ => i ≤ s.n ∧ u = x ++ mNums (s.xs.take i) ∧ u.size ≤ x.size + 6 * i) (fun ⟨i, u⟩ => s.n - i) (fun ⟨i, u⟩ => [blkR b 169 [vs u]]) [10, 9, 8, 0] (fun ⟨i, u⟩ => [(10, vI (i : Int))]) (fun _ => []) ?_ (⟨0, x⟩) ⟨Nat.zero_le _, (append_emp x).symm, Nat.le_refl _⟩
 rintro ⟨i, u⟩ ⟨hi, hI, hz⟩ _ on1
 have hn6 := mNumber_size (s.at i)
 refine Md ((i : Int) < (s.n : Int)) (fun h1 => ?_) fun h1 => ?_
 rotate_left
 · refine Mt [] fun bs w hS => ?_
   refine ⟨(), rfl, trivial, hS.kp, ?_⟩
   have hu : u = x ++ mNums s.xs := by rw [hI, List.take_of_length_le (by omega)]
   rw [← hu]
   exact hS.res _ i0
 refine Mi ?_ (pA 12 13 (i : Int) i (s := s) (fun w hk hr => (Sl.rd.stay hs2 fun q hq hlt => hk.block q hlt (by simpa [blkR] using hq))))
 refine Mp ?_ Try.call154 (fun bs w hS => codec_Number (s.at i) w)
 refine Mi ?_ (pc (pBk 22 0 1 i0) (pP (u.size + (mNumber (s.at i)).1.size ≤ 9223372036854775807)))
 refine Msb 0 [vs (u ++ (mNumber (s.at i)).1)] ?_
 refine Mi ?_ (pR ((i : Int) + 1))
 exact on1 ⟨i + 1, u ++ (mNumber (s.at i)).1⟩ ⟨by show i + 1 ≤ s.n; omega, by rw [hI, ByteArray.append_assoc]; exact congrArg _ (mNums_step (i := i) (l := s.xs) (by omega)), by show (u ++ _).size ≤ x.size + 6 * (i + 1); rw [ByteArray.size_append]; omega⟩ (by show s.n - (i + 1) < s.n - i; omega)

theorem lock_client (n : Int) (w : World) : Calls Try.prog 111 #[vi n] w fun e w' => e = .returned (vb (inB n 1 9)) ∧ Kp [] w w' := by
 refine M0 ?_ Try.func111
 refine Md ((1 : Int) ≤ n) (fun h1 => ?_) fun h1 => ?_
 rotate_left
 · exact Mt [vb false] fun bs w hS => ⟨by simp [retOf, den, inB, h1], hS.kp⟩
 exact Mt [vb (decide (n ≤ 9))] fun bs w hS => ⟨by simp [retOf, den, inB, h1], hS.kp⟩

theorem idx_ints {B : Nat → Prop} (s : Sl Int) (k : Nat) (n : Int) (w : World) (hs : s.rd B w) (hk : k ≤ s.n) : Calls Try.prog 71 #[.slice s.A k s.c, vi n] w fun e w' => e = .returned (vi (mIdx (fun z => decide (z = n)) (s.xs.take k))) ∧ Kp [] w w' := by
 have oks := Sl.rd.ok hs
 have ncs := Sl.ok.nc oks
 have hns : s.n = s.xs.length := rfl
 refine M0 ?_ Try.func71
 refine Ml (σ := Nat) (fun i => i ≤ k ∧ ∀ j, j < i → decide (s.at j = n) = false) (fun i => k - i) (fun _ => []) [8, 7, 0, 1] (fun i => [(8, vI (i : Int))]) (fun _ => []) ?_ 0 ⟨Nat.zero_le _, fun j hj => absurd hj (Nat.not_lt_zero _)⟩
 rintro i ⟨hi, hI⟩ _ on1
 refine Md ((i : Int) < (k : Int)) (fun h1 => ?_) fun h1 => ?_
 rotate_left
 · exact Me0 (-1) (by rw [mIdxT_none hk fun j hj => hI j (by omega)])
 refine Mi ?_ (pc (pIk 14 (i : Int) i k (rdk hs)) (pE 15 i (rdk hs)))
 refine Md (n = (s.at i)) (fun h2 => ?_) fun h2 => ?_
 · exact Me0 (i : Int) (by rw [mIdxT_here (i := i) hk (by omega) (decide_eq_true (by omega)) hI])
 refine Mi ?_ (pR ((i : Int) + 1))
 exact on1 (i + 1) ⟨by omega, fun j hj => by rcases Nat.lt_succ_iff_lt_or_eq.1 hj with h | h; exact hI j h; subst h; exact decide_eq_false (fun e => by omega)⟩ (by omega)

theorem has_ints {B : Nat → Prop} (s : Sl Int) (k : Nat) (n : Int) (w : World) (hs : s.rd B w) (hk : k ≤ s.n) : Calls Try.prog 65 #[.slice s.A k s.c, vi n] w fun e w' => e = .returned (vb ((s.xs.take k).any fun z => decide (z = n))) ∧ Kp [] w w' := by
 have oks := Sl.rd.ok hs
 have ncs := Sl.ok.nc oks
 have hns : s.n = s.xs.length := rfl
 refine M0 ?_ Try.func65
 refine Mp ?_ Try.call71 (fun bs w hS => idx_ints s k n w (Sl.rd.kp hs hS.kp) (by omega))
 exact Meb (decide ((0 : Int) ≤ mIdx (fun z => decide (z = n)) (s.xs.take k))) (by simp only [retOf, den, List.map_cons, List.map_nil, mIdx_nonneg])

theorem ref_has {B : Nat → Prop} (s : Sl Int) (k : Nat) (n : Int) (w : World) (hs : s.rd B w) (hk : k ≤ s.n) : Calls Try.prog 69 #[.slice s.A k s.c, vi n] w fun e w' => e = .returned (vb ((s.xs.take k).any fun z => decide (z = n))) ∧ Kp [] w w' := by
 have oks := Sl.rd.ok hs
 have ncs := Sl.ok.nc oks
 have hns : s.n = s.xs.length := rfl
 refine M0 ?_ Try.func69
 refine Ml (σ := Nat) (fun i => i ≤ k ∧ ∀ j, j < i → ¬ s.at j = n) (fun i => k - i) (fun _ => []) [5, 0, 1] (fun i => [(5, vI (i : Int))]) (fun _ => []) ?_ 0 ⟨Nat.zero_le _, fun j hj => absurd hj (Nat.not_lt_zero _)⟩
 rintro i ⟨hi, hI⟩ _ on1
 refine Md ((i : Int) < (k : Int)) (fun h1 => ?_) fun h1 => ?_
 rotate_left
 · exact Meb false (by rw [any_none hk fun j hj => hI j (by omega)])
 refine Mi ?_ (pc (pIk 14 (i : Int) i k (rdk hs)) (pE 15 i (rdk hs)))
 refine Md ((s.at i) = n) (fun h2 => ?_) fun h2 => ?_
 · exact Meb true (by rw [any_here (j := i) hk (by omega) (by assumption)])
 refine Mi ?_ (pR ((i : Int) + 1))
 exact on1 (i + 1) ⟨by omega, fun j hj => by rcases Nat.lt_succ_iff_lt_or_eq.1 hj with h | h; exact hI j h; subst h; assumption⟩ (by omega)

theorem lock_line {B : Nat → Prop} (x : CLock) (w : World) (hx : Rds.sub B w x) : Calls Try.prog 142 #[x.val] w fun e w' => e = .returned (vb (lineOk x.abs)) ∧ Kp [] w w' := by
 have okx := Rds.okof hx
 have ncx := Sl.ok.nc okx.2
 have hnx : x.line.n = x.line.xs.length := rfl
 have hll : x.abs.line.length = x.line.n := rfl
 have hho : x.abs.holder = x.holder := rfl
 have hp : ∀ q, posOk x.abs q = (inB (x.line.at q) 1 9 && (!decide (x.line.at q = x.holder) && !((x.line.xs.take q).any fun z => decide (z = x.line.at q)))) := fun _ => rfl
 refine M0 ?_ Try.func142
 refine Ml (σ := Nat) (fun i => i ≤ x.line.n ∧ allTo (posOk x.abs) i = true) (fun i => x.line.n - i) (fun _ => []) [8, 7, 6, 1] (fun i => [(8, vI (i : Int))]) (fun _ => []) ?_ 0 ⟨Nat.zero_le _, rfl⟩
 rintro i ⟨hi, hI⟩ _ on1
 refine Md ((i : Int) < (x.line.n : Int)) (fun h1 => ?_) fun h1 => ?_
 rotate_left
 · refine Md ((x.line.n : Int) ≤ 3) (fun h5 => ?_) fun h5 => ?_
   rotate_left
   · have hall : allTo (posOk x.abs) x.line.n = true := by rw [show x.line.n = i by omega]; exact hI
     have hm : lineOk x.abs = (false) := by
       rw [Bool.eq_iff_iff]
       simp only [lineOk, hll, hho, hall, Bool.true_and, Bool.and_eq_true, Bool.or_eq_true, Bool.not_eq_true', decide_eq_true_eq, decide_eq_false_iff_not, Bool.false_eq_true, iff_true, iff_false]
       omega
     exact Meb false hm
   refine Mdn (x.holder = 0) (fun h6 => ?_) fun h6 => ?_
   rotate_left
   · have hall : allTo (posOk x.abs) x.line.n = true := by rw [show x.line.n = i by omega]; exact hI
     have hm : lineOk x.abs = (true) := by
       rw [Bool.eq_iff_iff]
       simp only [lineOk, hll, hho, hall, Bool.true_and, Bool.and_eq_true, Bool.or_eq_true, Bool.not_eq_true', decide_eq_true_eq, decide_eq_false_iff_not, Bool.false_eq_true, iff_true, iff_false]
       omega
     exact Meb true hm
   have hall : allTo (posOk x.abs) x.line.n = true := by rw [show x.line.n = i by omega]; exact hI
   have hm : lineOk x.abs = (decide ((x.line.n : Int) = 0)) := by
     rw [Bool.eq_iff_iff]
     simp only [lineOk, hll, hho, hall, Bool.true_and, Bool.and_eq_true, Bool.or_eq_true, Bool.not_eq_true', decide_eq_true_eq, decide_eq_false_iff_not, Bool.false_eq_true, iff_true, iff_false]
     omega
   exact Meb (decide ((x.line.n : Int) = 0)) hm
 refine Mi ?_ (pA 11 12 (i : Int) i (s := x.line) (fun w hk hr => (Rds.kp hx hk).2))
 refine Mp ?_ Try.call111 (fun bs w hS => lock_client (x.line.at i) w)
 refine Mbn (inB (x.line.at i) 1 9) (fun h2 => ?_) fun h2 => ?_
 rotate_left
 · have hb : posOk x.abs i = false := by rw [hp]; simp [h1, h2]
   have hm : lineOk x.abs = false := by unfold lineOk; rw [allTo_bad hb (show i < x.abs.line.length by rw [hll]; omega)]; rfl
   exact Meb false hm
 refine Md ((x.line.at i) = x.holder) (fun h3 => ?_) fun h3 => ?_
 · have hb : posOk x.abs i = false := by rw [hp]; simp [h1, h2, h3]
   have hm : lineOk x.abs = false := by unfold lineOk; rw [allTo_bad hb (show i < x.abs.line.length by rw [hll]; omega)]; rfl
   exact Meb false hm
 refine Mi ?_ (pG [(26, .sl 0 i)] (oc (rfl : 0 = 0) (oc (rfl : (i : Int) = (i : Int)) (oc ((by omega) : i ≤ x.line.c) on))))
 refine Mp ?_ Try.call65 (fun bs w hS => has_ints x.line i (x.line.at i) w (Rds.kp hx hS.kp).2 (by omega))
 refine Mb ((x.line.xs.take i).any fun z => decide (z = (x.line.at i))) (fun h4 => ?_) fun h4 => ?_
 rotate_left
 · refine Mi ?_ (pR ((i : Int) + 1))
   exact on1 (i + 1) ⟨by omega, by show (allTo _ i && posOk x.abs i) = true; rw [hI, hp]; simp [*]⟩ (by omega)
 have hb : posOk x.abs i = false := by rw [hp]; simp [h1, h2, h3, h4]
 have hm : lineOk x.abs = false := by unfold lineOk; rw [allTo_bad hb (show i < x.abs.line.length by rw [hll]; omega)]; rfl
 exact Meb false hm

theorem lock_Check {B : Nat → Prop} (s : Sl CLock) (w : World) (hs : s.rd B w) : Calls Try.prog 110 #[s.val] w fun e w' => e = .returned (vi (mLocks (s.xs.map CLock.abs))) ∧ Kp [] w w' := by
 have oks := Sl.rd.ok hs
 have ncs := Sl.ok.nc oks
 have hns : s.n = s.xs.length := rfl
 have hat : ∀ q, (s.xs.map CLock.abs).getD q default = (s.at q).abs := fun q => abs_at q
 have hq1 : ∀ q, (s.at q).abs.name = (s.at q).name := fun _ => rfl
 have hq2 : ∀ q, (s.at q).abs.holder = (s.at q).holder := fun _ => rfl
 have hq3 : ∀ q, (s.at q).abs.fence = (s.at q).fence := fun _ => rfl
 have hml : (s.xs.map CLock.abs).length = s.n := by simp
 refine M0 ?_ Try.func110
 refine Md ((5 : Int) < (s.n : Int)) (fun h1 => ?_) fun h1 => ?_
 · have hm : mLocks (s.xs.map CLock.abs) = 1 := by
     grind [mLocks]
   exact Me0 1 hm
 refine Ml (σ := Nat) (fun i => i ≤ s.n ∧ mLocks (s.xs.map CLock.abs) = firstF (lockF (s.xs.map CLock.abs)) (s.n - i) i) (fun i => s.n - i) (fun _ => []) [10, 9, 8, 0] (fun i => [(10, vI (i : Int))]) (fun _ => []) ?_ 0 ⟨Nat.zero_le _, by unfold mLocks; rw [hml, if_neg (by omega)]⟩
 rintro i ⟨hi, hI⟩ _ on1
 refine Md ((i : Int) < (s.n : Int)) (fun h2 => ?_) fun h2 => ?_
 rotate_left
 · exact Me0 0 (by rw [hI, firstF_end (by omega)])
 refine Mi ?_ (pA 13 14 (i : Int) i (rdk hs))
 refine Mp ?_ Try.call43 (fun bs w hS => lock_Name _ w (Sl.ok.at (s := s) (i := i) oks (by omega)).1)
 refine Mbn (mName (s.at i).name) (fun h3 => ?_) fun h3 => ?_
 rotate_left
 · refine Me0 4 ?_
   have hf : lockF (s.xs.map CLock.abs) i = 4 := by
     grind [lockF]
   rw [hI, firstF_here (by omega) hf (by omega)]
 refine Mdn ((s.at i).holder = 0) (fun h4 => ?_) fun h4 => ?_
 · refine Mp ?_ Try.call142 (fun bs w hS => lock_line (s.at i) w (Sl.rd.sub (s := s) (i := i) (Sl.rd.kp hs hS.kp) (by omega)))
   refine Mbn (lineOk (s.at i).abs) (fun h5 => ?_) fun h5 => ?_
   rotate_left
   · refine Me0 4 ?_
     have hf : lockF (s.xs.map CLock.abs) i = 4 := by
       grind [lockF]
     rw [hI, firstF_here (by omega) hf (by omega)]
   refine Md ((s.at i).fence < 1) (fun h6 => ?_) fun h6 => ?_
   · refine Me0 2 ?_
     have hf : lockF (s.xs.map CLock.abs) i = 2 := by
       grind [lockF]
     rw [hI, firstF_here (by omega) hf (by omega)]
   refine Md ((1073741824 : Int) < (s.at i).fence) (fun h7 => ?_) fun h7 => ?_
   · refine Me0 2 ?_
     have hf : lockF (s.xs.map CLock.abs) i = 2 := by
       grind [lockF]
     rw [hI, firstF_here (by omega) hf (by omega)]
   refine Mda 13 [] [] [] Try_mixed ?_
   refine Md ((0 : Int) < (i : Int)) (fun h8 => ?_) fun h8 => ?_
   rotate_left
   · refine Mi ?_ (pR ((i : Int) + 1))
     have hf0 : lockF (s.xs.map CLock.abs) i = 0 := by
       grind [lockF]
     exact on1 (i + 1) ⟨by omega, by rw [hI]; exact firstF_step (by omega) hf0⟩ (by omega)
   refine Mih ?_ (pc (pR ((i : Int) - 1)) (pc (pI 49 ((i : Int) - 1) (i - 1) (rdk hs)) (pF 51 (i - 1) 0 1 (rdk hs))))
   refine Mbn (Op.bytesLess ((s.at (i - 1)).name).toList ((s.at i).name).toList) (fun h9 => ?_) fun h9 => ?_
   · refine Mi ?_ (pR ((i : Int) + 1))
     have hf0 : lockF (s.xs.map CLock.abs) i = 0 := by
       grind [lockF]
     exact on1 (i + 1) ⟨by omega, by rw [hI]; exact firstF_step (by omega) hf0⟩ (by omega)
   refine Me0 14 ?_
   have hf : lockF (s.xs.map CLock.abs) i = 14 := by
     grind [lockF]
   rw [hI, firstF_here (by omega) hf (by omega)]
 refine Mp ?_ Try.call111 (fun bs w hS => lock_client (s.at i).holder w)
 refine Mbn (inB (s.at i).holder 1 9) (fun h10 => ?_) fun h10 => ?_
 rotate_left
 · simp only [iT, iF] at h10
   refine Me0 4 ?_
   have hf : lockF (s.xs.map CLock.abs) i = 4 := by
     grind [lockF]
   rw [hI, firstF_here (by omega) hf (by omega)]
 simp only [iT, iF] at h10
 refine Mp ?_ Try.call142 (fun bs w hS => lock_line (s.at i) w (Sl.rd.sub (s := s) (i := i) (Sl.rd.kp hs hS.kp) (by omega)))
 refine Mbn (lineOk (s.at i).abs) (fun h11 => ?_) fun h11 => ?_
 rotate_left
 · refine Me0 4 ?_
   have hf : lockF (s.xs.map CLock.abs) i = 4 := by
     grind [lockF]
   rw [hI, firstF_here (by omega) hf (by omega)]
 refine Md ((s.at i).fence < 1) (fun h12 => ?_) fun h12 => ?_
 · refine Me0 2 ?_
   have hf : lockF (s.xs.map CLock.abs) i = 2 := by
     grind [lockF]
   rw [hI, firstF_here (by omega) hf (by omega)]
 refine Md ((1073741824 : Int) < (s.at i).fence) (fun h13 => ?_) fun h13 => ?_
 · refine Me0 2 ?_
   have hf : lockF (s.xs.map CLock.abs) i = 2 := by
     grind [lockF]
   rw [hI, firstF_here (by omega) hf (by omega)]
 refine Mda 13 [] [] [] Try_mixed ?_
 refine Md ((0 : Int) < (i : Int)) (fun h14 => ?_) fun h14 => ?_
 rotate_left
 · refine Mi ?_ (pR ((i : Int) + 1))
   have hf0 : lockF (s.xs.map CLock.abs) i = 0 := by
     grind [lockF]
   exact on1 (i + 1) ⟨by omega, by rw [hI]; exact firstF_step (by omega) hf0⟩ (by omega)
 refine Mih ?_ (pc (pR ((i : Int) - 1)) (pc (pI 49 ((i : Int) - 1) (i - 1) (rdk hs)) (pF 51 (i - 1) 0 1 (rdk hs))))
 refine Mbn (Op.bytesLess ((s.at (i - 1)).name).toList ((s.at i).name).toList) (fun h15 => ?_) fun h15 => ?_
 · refine Mi ?_ (pR ((i : Int) + 1))
   have hf0 : lockF (s.xs.map CLock.abs) i = 0 := by
     grind [lockF]
   exact on1 (i + 1) ⟨by omega, by rw [hI]; exact firstF_step (by omega) hf0⟩ (by omega)
 refine Me0 14 ?_
 have hf : lockF (s.xs.map CLock.abs) i = 14 := by
   grind [lockF]
 rw [hI, firstF_here (by omega) hf (by omega)]

theorem ref_LocksFault {B : Nat → Prop} (s : Sl CLock) (w : World) (hs : s.rd B w) : Calls Try.prog 117 #[s.val] w fun e w' => e = .returned (vi (mLocks (s.xs.map CLock.abs))) ∧ Kp [] w w' := by
 have oks := Sl.rd.ok hs
 have ncs := Sl.ok.nc oks
 have hns : s.n = s.xs.length := rfl
 have hat : ∀ q, (s.xs.map CLock.abs).getD q default = (s.at q).abs := fun q => abs_at q
 have hq1 : ∀ q, (s.at q).abs.name = (s.at q).name := fun _ => rfl
 have hq2 : ∀ q, (s.at q).abs.holder = (s.at q).holder := fun _ => rfl
 have hq3 : ∀ q, (s.at q).abs.fence = (s.at q).fence := fun _ => rfl
 have hml : (s.xs.map CLock.abs).length = s.n := by simp
 refine M0 ?_ Try.func117
 refine Md ((5 : Int) < (s.n : Int)) (fun h1 => ?_) (fun h1 => ?_)
 · refine Mt [.int .i64 1] fun bs w hS => ?_
   refine ⟨?_, hS.kp⟩
   simp only [retOf, den, List.map_cons, List.map_nil]
   have hm : mLocks (s.xs.map CLock.abs) = 1 := by
     grind [mLocks]
   rw [hm]
 refine Ml (σ := Nat) (fun i => i ≤ s.n ∧ mLocks (s.xs.map CLock.abs) = firstF (lockF (s.xs.map CLock.abs)) (s.n - i) i) (fun i => s.n - i) (fun _ => []) [3, 0] (fun i => [(3, vI (i : Int))]) (fun _ => []) ?_ 0 ⟨Nat.zero_le _, by unfold mLocks; rw [hml, if_neg (by omega)]⟩
 rintro i ⟨hi, hI⟩ _ on1
 have hp : ∀ q, posOk (s.at i).abs q = (inB ((s.at i).line.at q) 1 9 && (!decide ((s.at i).line.at q = (s.at i).holder) && !(((s.at i).line.xs.take q).any fun z => decide (z = (s.at i).line.at q)))) := fun _ => rfl
 refine Md ((i : Int) < (s.n : Int)) (fun h2 => ?_) (fun h2 => ?_)
 rotate_left
 · refine Mt [.int .i64 0] fun bs w hS => ?_
   refine ⟨?_, hS.kp⟩
   simp only [retOf, den, List.map_cons, List.map_nil]
   rw [hI, firstF_end (by omega)]
 refine Mi ?_ (pA 18 19 (i : Int) i (rdk hs))
 refine Mp ?_ Try.call48 (fun bs w hS => ref_NameMay _ w (Sl.ok.at (s := s) (i := i) oks (by omega)).1)
 refine Mbn (mName (s.at i).name) (fun h3 => ?_) (fun h3 => ?_)
 rotate_left
 · refine Ml (σ := Nat × Bool) (fun ⟨j, b⟩ => j ≤ (s.at i).line.n ∧ b = (true || !(allTo (posOk (s.at i).abs) j))) (fun ⟨j, b⟩ => (s.at i).line.n - j) (fun _ => []) [6, 5, 4, 3, 0] (fun ⟨j, b⟩ => [(6, vI (j : Int)), (5, vB b)]) (fun _ => []) ?_ (⟨0, true⟩) ⟨Nat.zero_le _, by simp [allTo]⟩
   rintro ⟨j, b⟩ ⟨hj, hJ⟩ _ on7
   have ncl := Sl.ok.nc (Sl.ok.at oks (show i < s.n by omega)).2
   refine Md ((j : Int) < (((s.at i).line.n : Nat) : Int)) (fun h33 => ?_) fun h33 => ?_
   · refine Mda 33 [] [] [] Try_mixed ?_
     refine Mb b (fun h34 => ?_) fun h34 => ?_
     rotate_left
     · exfalso; rw [h34] at hJ; simp at hJ
     refine Mi ?_ (pR ((j : Int) + 1))
     exact on7 ⟨j + 1, true⟩ ⟨by omega, by simp only [allTo, hp]; simp_all⟩ (by show (s.at i).line.n - (j + 1) < (s.at i).line.n - j; omega)
   refine Mb b (fun h35 => ?_) fun h35 => ?_
   rotate_left
   · exfalso; rw [h35] at hJ; simp at hJ
   refine Mt [vi 4] fun bs w hS => ?_
   clear on1 on7
   refine ⟨?_, hS.kp⟩
   simp only [retOf, den, List.map_cons, List.map_nil]
   have hf : lockF (s.xs.map CLock.abs) i = 4 := by
     have hor : mName (s.at i).name = false ∨ (s.at i).holder < 0 ∨ 9 < (s.at i).holder ∨ lineOk (s.at i).abs = false := by
       first | exact .inl (by assumption) | exact .inr ((show (s.at i).holder < 0 ∨ 9 < (s.at i).holder by omega).elim .inl (fun h => .inr (.inl h))) | exact .inr (.inr (.inr (lineOk_false (.inr (.inl (by show 3 < (s.at i).line.n; omega)))))) | exact .inr (.inr (.inr (lineOk_false (.inr (.inr ⟨by show (s.at i).holder = 0; omega, by show 0 < (s.at i).line.n; omega⟩))))) | exact .inr (.inr (.inr (lineOk_false (.inl (by show allTo _ (s.at i).line.n = false; rw [show (s.at i).line.n = j by omega]; cases hq : allTo (posOk (s.at i).abs) j <;> simp_all)))))
     grind [lockF]
   rw [hI, firstF_here (by omega) hf (by omega)]
 refine Mp ?_ Try.call56 (fun bs w hS => ref_In (s.at i).holder 0 9 w)
 refine Mbn (inB (s.at i).holder 0 9) (fun h4 => ?_) fun h4 => ?_
 rotate_left
 · simp only [iT, iF] at h4
   refine Ml (σ := Nat × Bool) (fun ⟨j, b⟩ => j ≤ (s.at i).line.n ∧ b = (true || !(allTo (posOk (s.at i).abs) j))) (fun ⟨j, b⟩ => (s.at i).line.n - j) (fun _ => []) [6, 5, 4, 3, 0] (fun ⟨j, b⟩ => [(6, vI (j : Int)), (5, vB b)]) (fun _ => []) ?_ (⟨0, true⟩) ⟨Nat.zero_le _, by simp [allTo]⟩
   rintro ⟨j, b⟩ ⟨hj, hJ⟩ _ on6
   have ncl := Sl.ok.nc (Sl.ok.at oks (show i < s.n by omega)).2
   refine Md ((j : Int) < (((s.at i).line.n : Nat) : Int)) (fun h30 => ?_) fun h30 => ?_
   · refine Mda 33 [] [] [] Try_mixed ?_
     refine Mb b (fun h31 => ?_) fun h31 => ?_
     rotate_left
     · exfalso; rw [h31] at hJ; simp at hJ
     refine Mi ?_ (pR ((j : Int) + 1))
     exact on6 ⟨j + 1, true⟩ ⟨by omega, by simp only [allTo, hp]; simp_all⟩ (by show (s.at i).line.n - (j + 1) < (s.at i).line.n - j; omega)
   refine Mb b (fun h32 => ?_) fun h32 => ?_
   rotate_left
   · exfalso; rw [h32] at hJ; simp at hJ
   refine Mt [vi 4] fun bs w hS => ?_
   clear on1 on6
   refine ⟨?_, hS.kp⟩
   simp only [retOf, den, List.map_cons, List.map_nil]
   have hf : lockF (s.xs.map CLock.abs) i = 4 := by
     have hor : mName (s.at i).name = false ∨ (s.at i).holder < 0 ∨ 9 < (s.at i).holder ∨ lineOk (s.at i).abs = false := by
       first | exact .inl (by assumption) | exact .inr ((show (s.at i).holder < 0 ∨ 9 < (s.at i).holder by omega).elim .inl (fun h => .inr (.inl h))) | exact .inr (.inr (.inr (lineOk_false (.inr (.inl (by show 3 < (s.at i).line.n; omega)))))) | exact .inr (.inr (.inr (lineOk_false (.inr (.inr ⟨by show (s.at i).holder = 0; omega, by show 0 < (s.at i).line.n; omega⟩))))) | exact .inr (.inr (.inr (lineOk_false (.inl (by show allTo _ (s.at i).line.n = false; rw [show (s.at i).line.n = j by omega]; cases hq : allTo (posOk (s.at i).abs) j <;> simp_all)))))
     grind [lockF]
   rw [hI, firstF_here (by omega) hf (by omega)]
 simp only [iT, iF] at h4
 refine Md ((3 : Int) < (((s.at i).line.n : Nat) : Int)) (fun h5 => ?_) fun h5 => ?_
 · refine Ml (σ := Nat × Bool) (fun ⟨j, b⟩ => j ≤ (s.at i).line.n ∧ b = (true || !(allTo (posOk (s.at i).abs) j))) (fun ⟨j, b⟩ => (s.at i).line.n - j) (fun _ => []) [6, 5, 4, 3, 0] (fun ⟨j, b⟩ => [(6, vI (j : Int)), (5, vB b)]) (fun _ => []) ?_ (⟨0, true⟩) ⟨Nat.zero_le _, by simp [allTo]⟩
   rintro ⟨j, b⟩ ⟨hj, hJ⟩ _ on2
   have ncl := Sl.ok.nc (Sl.ok.at oks (show i < s.n by omega)).2
   refine Md ((j : Int) < (((s.at i).line.n : Nat) : Int)) (fun h6 => ?_) fun h6 => ?_
   · refine Mda 33 [] [] [] Try_mixed ?_
     refine Mb b (fun h7 => ?_) fun h7 => ?_
     rotate_left
     · exfalso; rw [h7] at hJ; simp at hJ
     refine Mi ?_ (pR ((j : Int) + 1))
     exact on2 ⟨j + 1, true⟩ ⟨by omega, by simp only [allTo, hp]; simp_all⟩ (by show (s.at i).line.n - (j + 1) < (s.at i).line.n - j; omega)
   refine Mb b (fun h8 => ?_) fun h8 => ?_
   rotate_left
   · exfalso; rw [h8] at hJ; simp at hJ
   refine Mt [vi 4] fun bs w hS => ?_
   clear on1 on2
   refine ⟨?_, hS.kp⟩
   simp only [retOf, den, List.map_cons, List.map_nil]
   have hf : lockF (s.xs.map CLock.abs) i = 4 := by
     have hor : mName (s.at i).name = false ∨ (s.at i).holder < 0 ∨ 9 < (s.at i).holder ∨ lineOk (s.at i).abs = false := by
       first | exact .inl (by assumption) | exact .inr ((show (s.at i).holder < 0 ∨ 9 < (s.at i).holder by omega).elim .inl (fun h => .inr (.inl h))) | exact .inr (.inr (.inr (lineOk_false (.inr (.inl (by show 3 < (s.at i).line.n; omega)))))) | exact .inr (.inr (.inr (lineOk_false (.inr (.inr ⟨by show (s.at i).holder = 0; omega, by show 0 < (s.at i).line.n; omega⟩))))) | exact .inr (.inr (.inr (lineOk_false (.inl (by show allTo _ (s.at i).line.n = false; rw [show (s.at i).line.n = j by omega]; cases hq : allTo (posOk (s.at i).abs) j <;> simp_all)))))
     grind [lockF]
   rw [hI, firstF_here (by omega) hf (by omega)]
 refine Md ((s.at i).holder = 0) (fun h9 => ?_) fun h9 => ?_
 rotate_left
 · refine Ml (σ := Nat × Bool) (fun ⟨j, b⟩ => j ≤ (s.at i).line.n ∧ b = (false || !(allTo (posOk (s.at i).abs) j))) (fun ⟨j, b⟩ => (s.at i).line.n - j) (fun _ => []) [6, 5, 4, 3, 0] (fun ⟨j, b⟩ => [(6, vI (j : Int)), (5, vB b)]) (fun _ => []) ?_ (⟨0, false⟩) ⟨Nat.zero_le _, by simp [allTo]⟩
   rintro ⟨j, b⟩ ⟨hj, hJ⟩ _ on5
   have ncl := Sl.ok.nc (Sl.ok.at oks (show i < s.n by omega)).2
   refine Md ((j : Int) < (((s.at i).line.n : Nat) : Int)) (fun h22 => ?_) fun h22 => ?_
   · refine Mda 33 [] [] [] Try_mixed ?_
     refine Mb b (fun h23 => ?_) fun h23 => ?_
     · refine Mi ?_ (pR ((j : Int) + 1))
       exact on5 ⟨j + 1, true⟩ ⟨by omega, by simp only [allTo, hp]; simp_all⟩ (by show (s.at i).line.n - (j + 1) < (s.at i).line.n - j; omega)
     refine Mih ?_ (pA 59 60 (j : Int) j (s := (s.at i).line) (fun w hk hr => (Sl.rd.sub (s := s) (i := i) (Sl.rd.kp hs hk) (by omega)).2))
     refine Mp ?_ Try.call56 (fun bs w hS => ref_In ((s.at i).line.at j) 1 9 w)
     refine Mbn (inB ((s.at i).line.at j) 1 9) (fun h24 => ?_) fun h24 => ?_
     rotate_left
     · refine Mi ?_ (pR ((j : Int) + 1))
       exact on5 ⟨j + 1, true⟩ ⟨by omega, by simp only [allTo, hp]; simp_all⟩ (by show (s.at i).line.n - (j + 1) < (s.at i).line.n - j; omega)
     refine Mih ?_ (pA 68 69 (j : Int) j (s := (s.at i).line) (fun w hk hr => (Sl.rd.sub (s := s) (i := i) (Sl.rd.kp hs hk) (by omega)).2))
     refine Md (((s.at i).line.at j) = (s.at i).holder) (fun h25 => ?_) fun h25 => ?_
     · refine Mi ?_ (pR ((j : Int) + 1))
       exact on5 ⟨j + 1, true⟩ ⟨by omega, by simp only [allTo, hp]; simp_all⟩ (by show (s.at i).line.n - (j + 1) < (s.at i).line.n - j; omega)
     refine Mih ?_ (pc (pG [(78, .sl 0 j)] (oc (rfl : 0 = 0) (oc (rfl : (j : Int) = (j : Int)) (oc ((by omega) : j ≤ (s.at i).line.c) on)))) (pA 82 83 (j : Int) j (s := (s.at i).line) (fun w hk hr => (Sl.rd.sub (s := s) (i := i) (Sl.rd.kp hs hk) (by omega)).2)))
     refine Mp ?_ Try.call69 (fun bs w hS => ref_has (s.at i).line j ((s.at i).line.at j) w (Sl.rd.sub (s := s) (i := i) (Sl.rd.kp hs hS.kp) (by omega)).2 (by omega))
     refine Mi ?_ (pR ((j : Int) + 1))
     exact on5 ⟨j + 1, ((s.at i).line.xs.take j).any fun z => decide (z = ((s.at i).line.at j))⟩ ⟨by omega, by simp only [allTo, hp]; simp_all⟩ (by show (s.at i).line.n - (j + 1) < (s.at i).line.n - j; omega)
   refine Mb b (fun h26 => ?_) fun h26 => ?_
   · refine Mt [vi 4] fun bs w hS => ?_
     clear on1 on5
     refine ⟨?_, hS.kp⟩
     simp only [retOf, den, List.map_cons, List.map_nil]
     have hf : lockF (s.xs.map CLock.abs) i = 4 := by
       have hor : mName (s.at i).name = false ∨ (s.at i).holder < 0 ∨ 9 < (s.at i).holder ∨ lineOk (s.at i).abs = false := by
         first | exact .inl (by assumption) | exact .inr ((show (s.at i).holder < 0 ∨ 9 < (s.at i).holder by omega).elim .inl (fun h => .inr (.inl h))) | exact .inr (.inr (.inr (lineOk_false (.inr (.inl (by show 3 < (s.at i).line.n; omega)))))) | exact .inr (.inr (.inr (lineOk_false (.inr (.inr ⟨by show (s.at i).holder = 0; omega, by show 0 < (s.at i).line.n; omega⟩))))) | exact .inr (.inr (.inr (lineOk_false (.inl (by show allTo _ (s.at i).line.n = false; rw [show (s.at i).line.n = j by omega]; cases hq : allTo (posOk (s.at i).abs) j <;> simp_all)))))
       grind [lockF]
     rw [hI, firstF_here (by omega) hf (by omega)]
   refine Mp ?_ Try.call56 (fun bs w hS => ref_In (s.at i).fence 1 1073741824 w)
   refine Mbn (inB (s.at i).fence 1 1073741824) (fun h27 => ?_) fun h27 => ?_
   rotate_left
   · simp only [iT, iF] at h27
     refine Mt [vi 2] fun bs w hS => ?_
     clear on1 on5
     refine ⟨?_, hS.kp⟩
     simp only [retOf, den, List.map_cons, List.map_nil]
     have hf : lockF (s.xs.map CLock.abs) i = 2 := by
       have hjn : (s.at i).line.n = j := by omega
       have hall : allTo (posOk (s.at i).abs) (s.at i).line.n = true := by rw [hjn]; cases hq : allTo (posOk (s.at i).abs) j <;> simp_all
       have hlo : lineOk (s.at i).abs = true := lineOk_true hall (by show (s.at i).line.n ≤ 3; omega) (by show ¬ (s.at i).holder = 0 ∨ (s.at i).line.n = 0; omega)
       grind [lockF]
     rw [hI, firstF_here (by omega) hf (by omega)]
   simp only [iT, iF] at h27
   refine Mda 13 [] [] [] Try_mixed ?_
   refine Md ((0 : Int) < (i : Int)) (fun h28 => ?_) fun h28 => ?_
   rotate_left
   · refine Mi ?_ (pR ((i : Int) + 1))
     have hf0 : lockF (s.xs.map CLock.abs) i = 0 := by
       have hjn : (s.at i).line.n = j := by omega
       have hall : allTo (posOk (s.at i).abs) (s.at i).line.n = true := by rw [hjn]; cases hq : allTo (posOk (s.at i).abs) j <;> simp_all
       have hlo : lineOk (s.at i).abs = true := lineOk_true hall (by show (s.at i).line.n ≤ 3; omega) (by show ¬ (s.at i).holder = 0 ∨ (s.at i).line.n = 0; omega)
       grind [lockF]
     exact on1 (i + 1) ⟨by omega, by rw [hI]; exact firstF_step (by omega) hf0⟩ (by omega)
   refine Mih ?_ (pc (pR ((i : Int) - 1)) (pc (pI 99 ((i : Int) - 1) (i - 1) (rdk hs)) (pF 101 (i - 1) 0 1 (rdk hs))))
   refine Mb (Op.bytesLess ((s.at i).name).toList ((s.at (i - 1)).name).toList || decide ((s.at i).name = (s.at (i - 1)).name)) (fun h29 => ?_) fun h29 => ?_
   rotate_left
   · rw [bytes_total] at h29
     simp only [Bool.not_eq_true', Bool.not_eq_false', Bool.not_eq_true, Bool.not_eq_false] at h29
     refine Mi ?_ (pR ((i : Int) + 1))
     have hf0 : lockF (s.xs.map CLock.abs) i = 0 := by
       have hjn : (s.at i).line.n = j := by omega
       have hall : allTo (posOk (s.at i).abs) (s.at i).line.n = true := by rw [hjn]; cases hq : allTo (posOk (s.at i).abs) j <;> simp_all
       have hlo : lineOk (s.at i).abs = true := lineOk_true hall (by show (s.at i).line.n ≤ 3; omega) (by show ¬ (s.at i).holder = 0 ∨ (s.at i).line.n = 0; omega)
       grind [lockF]
     exact on1 (i + 1) ⟨by omega, by rw [hI]; exact firstF_step (by omega) hf0⟩ (by omega)
   rw [bytes_total] at h29
   simp only [Bool.not_eq_true', Bool.not_eq_false', Bool.not_eq_true, Bool.not_eq_false] at h29
   refine Mt [vi 14] fun bs w hS => ?_
   clear on1 on5
   refine ⟨?_, hS.kp⟩
   simp only [retOf, den, List.map_cons, List.map_nil]
   have hf : lockF (s.xs.map CLock.abs) i = 14 := by
     have hjn : (s.at i).line.n = j := by omega
     have hall : allTo (posOk (s.at i).abs) (s.at i).line.n = true := by rw [hjn]; cases hq : allTo (posOk (s.at i).abs) j <;> simp_all
     have hlo : lineOk (s.at i).abs = true := lineOk_true hall (by show (s.at i).line.n ≤ 3; omega) (by show ¬ (s.at i).holder = 0 ∨ (s.at i).line.n = 0; omega)
     grind [lockF]
   rw [hI, firstF_here (by omega) hf (by omega)]
 by_cases h10 : (0 : Int) < (((s.at i).line.n : Nat) : Int)
 · refine Mq 5 true ?_ (dT h10)
   refine Ml (σ := Nat × Bool) (fun ⟨j, b⟩ => j ≤ (s.at i).line.n ∧ b = (true || !(allTo (posOk (s.at i).abs) j))) (fun ⟨j, b⟩ => (s.at i).line.n - j) (fun _ => []) [6, 5, 4, 3, 0] (fun ⟨j, b⟩ => [(6, vI (j : Int)), (5, vB b)]) (fun _ => []) ?_ (⟨0, true⟩) ⟨Nat.zero_le _, by simp [allTo]⟩
   rintro ⟨j, b⟩ ⟨hj, hJ⟩ _ on3
   have ncl := Sl.ok.nc (Sl.ok.at oks (show i < s.n by omega)).2
   refine Md ((j : Int) < (((s.at i).line.n : Nat) : Int)) (fun h11 => ?_) fun h11 => ?_
   · refine Mda 33 [] [] [] Try_mixed ?_
     refine Mb b (fun h12 => ?_) fun h12 => ?_
     rotate_left
     · exfalso; rw [h12] at hJ; simp at hJ
     refine Mi ?_ (pR ((j : Int) + 1))
     exact on3 ⟨j + 1, true⟩ ⟨by omega, by simp only [allTo, hp]; simp_all⟩ (by show (s.at i).line.n - (j + 1) < (s.at i).line.n - j; omega)
   refine Mb b (fun h13 => ?_) fun h13 => ?_
   rotate_left
   · exfalso; rw [h13] at hJ; simp at hJ
   refine Mt [vi 4] fun bs w hS => ?_
   clear on1 on3
   refine ⟨?_, hS.kp⟩
   simp only [retOf, den, List.map_cons, List.map_nil]
   have hf : lockF (s.xs.map CLock.abs) i = 4 := by
     have hor : mName (s.at i).name = false ∨ (s.at i).holder < 0 ∨ 9 < (s.at i).holder ∨ lineOk (s.at i).abs = false := by
       first | exact .inl (by assumption) | exact .inr ((show (s.at i).holder < 0 ∨ 9 < (s.at i).holder by omega).elim .inl (fun h => .inr (.inl h))) | exact .inr (.inr (.inr (lineOk_false (.inr (.inl (by show 3 < (s.at i).line.n; omega)))))) | exact .inr (.inr (.inr (lineOk_false (.inr (.inr ⟨by show (s.at i).holder = 0; omega, by show 0 < (s.at i).line.n; omega⟩))))) | exact .inr (.inr (.inr (lineOk_false (.inl (by show allTo _ (s.at i).line.n = false; rw [show (s.at i).line.n = j by omega]; cases hq : allTo (posOk (s.at i).abs) j <;> simp_all)))))
     grind [lockF]
   rw [hI, firstF_here (by omega) hf (by omega)]
 refine Mq 5 false ?_ (dF h10)
 refine Ml (σ := Nat × Bool) (fun ⟨j, b⟩ => j ≤ (s.at i).line.n ∧ b = (false || !(allTo (posOk (s.at i).abs) j))) (fun ⟨j, b⟩ => (s.at i).line.n - j) (fun _ => []) [6, 5, 4, 3, 0] (fun ⟨j, b⟩ => [(6, vI (j : Int)), (5, vB b)]) (fun _ => []) ?_ (⟨0, false⟩) ⟨Nat.zero_le _, by simp [allTo]⟩
 rintro ⟨j, b⟩ ⟨hj, hJ⟩ _ on4
 have ncl := Sl.ok.nc (Sl.ok.at oks (show i < s.n by omega)).2
 refine Md ((j : Int) < (((s.at i).line.n : Nat) : Int)) (fun h14 => ?_) fun h14 => ?_
 · refine Mda 33 [] [] [] Try_mixed ?_
   refine Mb b (fun h15 => ?_) fun h15 => ?_
   · refine Mi ?_ (pR ((j : Int) + 1))
     exact on4 ⟨j + 1, true⟩ ⟨by omega, by simp only [allTo, hp]; simp_all⟩ (by show (s.at i).line.n - (j + 1) < (s.at i).line.n - j; omega)
   refine Mih ?_ (pA 59 60 (j : Int) j (s := (s.at i).line) (fun w hk hr => (Sl.rd.sub (s := s) (i := i) (Sl.rd.kp hs hk) (by omega)).2))
   refine Mp ?_ Try.call56 (fun bs w hS => ref_In ((s.at i).line.at j) 1 9 w)
   refine Mbn (inB ((s.at i).line.at j) 1 9) (fun h16 => ?_) fun h16 => ?_
   rotate_left
   · refine Mi ?_ (pR ((j : Int) + 1))
     exact on4 ⟨j + 1, true⟩ ⟨by omega, by simp only [allTo, hp]; simp_all⟩ (by show (s.at i).line.n - (j + 1) < (s.at i).line.n - j; omega)
   refine Mih ?_ (pA 68 69 (j : Int) j (s := (s.at i).line) (fun w hk hr => (Sl.rd.sub (s := s) (i := i) (Sl.rd.kp hs hk) (by omega)).2))
   refine Md (((s.at i).line.at j) = (s.at i).holder) (fun h17 => ?_) fun h17 => ?_
   · refine Mi ?_ (pR ((j : Int) + 1))
     exact on4 ⟨j + 1, true⟩ ⟨by omega, by simp only [allTo, hp]; simp_all⟩ (by show (s.at i).line.n - (j + 1) < (s.at i).line.n - j; omega)
   refine Mih ?_ (pc (pG [(78, .sl 0 j)] (oc (rfl : 0 = 0) (oc (rfl : (j : Int) = (j : Int)) (oc ((by omega) : j ≤ (s.at i).line.c) on)))) (pA 82 83 (j : Int) j (s := (s.at i).line) (fun w hk hr => (Sl.rd.sub (s := s) (i := i) (Sl.rd.kp hs hk) (by omega)).2)))
   refine Mp ?_ Try.call69 (fun bs w hS => ref_has (s.at i).line j ((s.at i).line.at j) w (Sl.rd.sub (s := s) (i := i) (Sl.rd.kp hs hS.kp) (by omega)).2 (by omega))
   refine Mi ?_ (pR ((j : Int) + 1))
   exact on4 ⟨j + 1, ((s.at i).line.xs.take j).any fun z => decide (z = ((s.at i).line.at j))⟩ ⟨by omega, by simp only [allTo, hp]; simp_all⟩ (by show (s.at i).line.n - (j + 1) < (s.at i).line.n - j; omega)
 refine Mb b (fun h18 => ?_) fun h18 => ?_
 · refine Mt [vi 4] fun bs w hS => ?_
   clear on1 on4
   refine ⟨?_, hS.kp⟩
   simp only [retOf, den, List.map_cons, List.map_nil]
   have hf : lockF (s.xs.map CLock.abs) i = 4 := by
     have hor : mName (s.at i).name = false ∨ (s.at i).holder < 0 ∨ 9 < (s.at i).holder ∨ lineOk (s.at i).abs = false := by
       first | exact .inl (by assumption) | exact .inr ((show (s.at i).holder < 0 ∨ 9 < (s.at i).holder by omega).elim .inl (fun h => .inr (.inl h))) | exact .inr (.inr (.inr (lineOk_false (.inr (.inl (by show 3 < (s.at i).line.n; omega)))))) | exact .inr (.inr (.inr (lineOk_false (.inr (.inr ⟨by show (s.at i).holder = 0; omega, by show 0 < (s.at i).line.n; omega⟩))))) | exact .inr (.inr (.inr (lineOk_false (.inl (by show allTo _ (s.at i).line.n = false; rw [show (s.at i).line.n = j by omega]; cases hq : allTo (posOk (s.at i).abs) j <;> simp_all)))))
     grind [lockF]
   rw [hI, firstF_here (by omega) hf (by omega)]
 refine Mp ?_ Try.call56 (fun bs w hS => ref_In (s.at i).fence 1 1073741824 w)
 refine Mbn (inB (s.at i).fence 1 1073741824) (fun h19 => ?_) fun h19 => ?_
 rotate_left
 · simp only [iT, iF] at h19
   refine Mt [vi 2] fun bs w hS => ?_
   clear on1 on4
   refine ⟨?_, hS.kp⟩
   simp only [retOf, den, List.map_cons, List.map_nil]
   have hf : lockF (s.xs.map CLock.abs) i = 2 := by
     have hjn : (s.at i).line.n = j := by omega
     have hall : allTo (posOk (s.at i).abs) (s.at i).line.n = true := by rw [hjn]; cases hq : allTo (posOk (s.at i).abs) j <;> simp_all
     have hlo : lineOk (s.at i).abs = true := lineOk_true hall (by show (s.at i).line.n ≤ 3; omega) (by show ¬ (s.at i).holder = 0 ∨ (s.at i).line.n = 0; omega)
     grind [lockF]
   rw [hI, firstF_here (by omega) hf (by omega)]
 simp only [iT, iF] at h19
 refine Mda 13 [] [] [] Try_mixed ?_
 refine Md ((0 : Int) < (i : Int)) (fun h20 => ?_) fun h20 => ?_
 rotate_left
 · refine Mi ?_ (pR ((i : Int) + 1))
   have hf0 : lockF (s.xs.map CLock.abs) i = 0 := by
     have hjn : (s.at i).line.n = j := by omega
     have hall : allTo (posOk (s.at i).abs) (s.at i).line.n = true := by rw [hjn]; cases hq : allTo (posOk (s.at i).abs) j <;> simp_all
     have hlo : lineOk (s.at i).abs = true := lineOk_true hall (by show (s.at i).line.n ≤ 3; omega) (by show ¬ (s.at i).holder = 0 ∨ (s.at i).line.n = 0; omega)
     grind [lockF]
   exact on1 (i + 1) ⟨by omega, by rw [hI]; exact firstF_step (by omega) hf0⟩ (by omega)
 refine Mih ?_ (pc (pR ((i : Int) - 1)) (pc (pI 99 ((i : Int) - 1) (i - 1) (rdk hs)) (pF 101 (i - 1) 0 1 (rdk hs))))
 refine Mb (Op.bytesLess ((s.at i).name).toList ((s.at (i - 1)).name).toList || decide ((s.at i).name = (s.at (i - 1)).name)) (fun h21 => ?_) fun h21 => ?_
 rotate_left
 · rw [bytes_total] at h21
   simp only [Bool.not_eq_true', Bool.not_eq_false', Bool.not_eq_true, Bool.not_eq_false] at h21
   refine Mi ?_ (pR ((i : Int) + 1))
   have hf0 : lockF (s.xs.map CLock.abs) i = 0 := by
     have hjn : (s.at i).line.n = j := by omega
     have hall : allTo (posOk (s.at i).abs) (s.at i).line.n = true := by rw [hjn]; cases hq : allTo (posOk (s.at i).abs) j <;> simp_all
     have hlo : lineOk (s.at i).abs = true := lineOk_true hall (by show (s.at i).line.n ≤ 3; omega) (by show ¬ (s.at i).holder = 0 ∨ (s.at i).line.n = 0; omega)
     grind [lockF]
   exact on1 (i + 1) ⟨by omega, by rw [hI]; exact firstF_step (by omega) hf0⟩ (by omega)
 rw [bytes_total] at h21
 simp only [Bool.not_eq_true', Bool.not_eq_false', Bool.not_eq_true, Bool.not_eq_false] at h21
 refine Mt [vi 14] fun bs w hS => ?_
 clear on1 on4
 refine ⟨?_, hS.kp⟩
 simp only [retOf, den, List.map_cons, List.map_nil]
 have hf : lockF (s.xs.map CLock.abs) i = 14 := by
   have hjn : (s.at i).line.n = j := by omega
   have hall : allTo (posOk (s.at i).abs) (s.at i).line.n = true := by rw [hjn]; cases hq : allTo (posOk (s.at i).abs) j <;> simp_all
   have hlo : lineOk (s.at i).abs = true := lineOk_true hall (by show (s.at i).line.n ≤ 3; omega) (by show ¬ (s.at i).holder = 0 ∨ (s.at i).line.n = 0; omega)
   grind [lockF]
 rw [hI, firstF_here (by omega) hf (by omega)]

theorem session_replies {B : Nat → Prop} (x : CSession) (w : World) (hx : Rds.sub B w x) (hb : 0 ≤ x.acked ∧ x.acked ≤ 1048576) : Calls Try.prog 61 #[x.val] w fun e w' => e = .returned (vb (mReplies x.abs)) ∧ Kp [] w w' := by
 have okx := Rds.okof hx
 have ncx := Sl.ok.nc okx
 have hns : x.replies.n = x.replies.xs.length := rfl
 have hat : ∀ q, x.abs.replies.getD q default = x.replies.at q := fun _ => rfl
 have hac : x.abs.acked = x.acked := rfl
 have hln : x.abs.replies.length = x.replies.n := rfl
 refine M0 ?_ Try.func61
 refine Ml (σ := Nat) (fun i => i ≤ x.replies.n ∧ allTo (keptOk x.abs) i = true) (fun i => x.replies.n - i) (fun _ => []) [9, 8, 7, 1] (fun i => [(9, vI (i : Int))]) (fun _ => []) ?_ 0 ⟨Nat.zero_le _, rfl⟩
 rintro i ⟨hi, hI⟩ _ on1
 refine Md ((i : Int) < (x.replies.n : Int)) (fun h1 => ?_) fun h1 => ?_
 rotate_left
 · have hm : mReplies x.abs = true := by show allTo _ x.abs.replies.length = true; rw [hln, show x.replies.n = i by omega]; exact hI
   exact Meb true hm
 refine Mi ?_ (pA 12 13 (i : Int) i (s := x.replies) (fun w hk hr => (Rds.kp hx hk)))
 refine Mda 29 [] [] [] Try_mixed ?_
 refine Md ((x.replies.at i).seq ≤ x.acked) (fun h2 => ?_) fun h2 => ?_
 · have hm : mReplies x.abs = false := allTo_bad (j := i) (decide_eq_false (fun hk => by simp only [hat, hac] at hk; omega)) (show i < x.abs.replies.length by rw [hln]; omega)
   exact Meb false hm
 refine Mih ?_ (pR (x.acked + 4))
 refine Md (x.acked + 4 < (x.replies.at i).seq) (fun h3 => ?_) fun h3 => ?_
 · have hm : mReplies x.abs = false := allTo_bad (j := i) (decide_eq_false (fun hk => by simp only [hat, hac] at hk; omega)) (show i < x.abs.replies.length by rw [hln]; omega)
   exact Meb false hm
 refine Md ((0 : Int) < (i : Int)) (fun h4 => ?_) fun h4 => ?_
 rotate_left
 · refine Md ((x.replies.at i).reply.code < 0) (fun h11 => ?_) fun h11 => ?_
   · have hm : mReplies x.abs = false := allTo_bad (j := i) (decide_eq_false (fun hk => by simp only [hat, hac] at hk; omega)) (show i < x.abs.replies.length by rw [hln]; omega)
     exact Meb false hm
   refine Md ((15 : Int) < (x.replies.at i).reply.code) (fun h12 => ?_) fun h12 => ?_
   · have hm : mReplies x.abs = false := allTo_bad (j := i) (decide_eq_false (fun hk => by simp only [hat, hac] at hk; omega)) (show i < x.abs.replies.length by rw [hln]; omega)
     exact Meb false hm
   refine Md ((x.replies.at i).reply.n < 0) (fun h13 => ?_) fun h13 => ?_
   · have hm : mReplies x.abs = false := allTo_bad (j := i) (decide_eq_false (fun hk => by simp only [hat, hac] at hk; omega)) (show i < x.abs.replies.length by rw [hln]; omega)
     exact Meb false hm
   refine Md ((1073741824 : Int) < (x.replies.at i).reply.n) (fun h14 => ?_) fun h14 => ?_
   · have hm : mReplies x.abs = false := allTo_bad (j := i) (decide_eq_false (fun hk => by simp only [hat, hac] at hk; omega)) (show i < x.abs.replies.length by rw [hln]; omega)
     exact Meb false hm
   refine Md ((12 : Int) < ((x.replies.at i).reply.text.size : Int)) (fun h15 => ?_) fun h15 => ?_
   rotate_left
   · refine Mi ?_ (pR ((i : Int) + 1))
     exact on1 (i + 1) ⟨by omega, allTo_step hI (decide_eq_true (by simp only [hat, hac]; exact ⟨by omega, by omega, by omega, by omega, by omega, by omega, by omega, by omega⟩))⟩ (by omega)
   have hm : mReplies x.abs = false := allTo_bad (j := i) (decide_eq_false (fun hk => by simp only [hat, hac] at hk; omega)) (show i < x.abs.replies.length by rw [hln]; omega)
   exact Meb false hm
 refine Mih ?_ (pc (pR ((i : Int) - 1)) (pc (pI 35 ((i : Int) - 1) (i - 1) (s := x.replies) (fun w hk hr => (Rds.kp hx hk))) (pF 37 (i - 1) 0 1 (s := x.replies) (fun w hk hr => (Rds.kp hx hk)))))
 refine Md ((x.replies.at i).seq ≤ (x.replies.at (i - 1)).seq) (fun h5 => ?_) fun h5 => ?_
 · have hm : mReplies x.abs = false := allTo_bad (j := i) (decide_eq_false (fun hk => by simp only [hat, hac] at hk; omega)) (show i < x.abs.replies.length by rw [hln]; omega)
   exact Meb false hm
 refine Md ((x.replies.at i).reply.code < 0) (fun h6 => ?_) fun h6 => ?_
 · have hm : mReplies x.abs = false := allTo_bad (j := i) (decide_eq_false (fun hk => by simp only [hat, hac] at hk; omega)) (show i < x.abs.replies.length by rw [hln]; omega)
   exact Meb false hm
 refine Md ((15 : Int) < (x.replies.at i).reply.code) (fun h7 => ?_) fun h7 => ?_
 · have hm : mReplies x.abs = false := allTo_bad (j := i) (decide_eq_false (fun hk => by simp only [hat, hac] at hk; omega)) (show i < x.abs.replies.length by rw [hln]; omega)
   exact Meb false hm
 refine Md ((x.replies.at i).reply.n < 0) (fun h8 => ?_) fun h8 => ?_
 · have hm : mReplies x.abs = false := allTo_bad (j := i) (decide_eq_false (fun hk => by simp only [hat, hac] at hk; omega)) (show i < x.abs.replies.length by rw [hln]; omega)
   exact Meb false hm
 refine Md ((1073741824 : Int) < (x.replies.at i).reply.n) (fun h9 => ?_) fun h9 => ?_
 · have hm : mReplies x.abs = false := allTo_bad (j := i) (decide_eq_false (fun hk => by simp only [hat, hac] at hk; omega)) (show i < x.abs.replies.length by rw [hln]; omega)
   exact Meb false hm
 refine Md ((12 : Int) < ((x.replies.at i).reply.text.size : Int)) (fun h10 => ?_) fun h10 => ?_
 rotate_left
 · refine Mi ?_ (pR ((i : Int) + 1))
   exact on1 (i + 1) ⟨by omega, allTo_step hI (decide_eq_true (by simp only [hat, hac]; exact ⟨by omega, by omega, by omega, by omega, by omega, by omega, by omega, by omega⟩))⟩ (by omega)
 have hm : mReplies x.abs = false := allTo_bad (j := i) (decide_eq_false (fun hk => by simp only [hat, hac] at hk; omega)) (show i < x.abs.replies.length by rw [hln]; omega)
 exact Meb false hm

theorem ref_repliesMay {B : Nat → Prop} (x : CSession) (w : World) (hx : Rds.sub B w x) (hb : 0 ≤ x.acked ∧ x.acked ≤ 1048576) : Calls Try.prog 62 #[x.val] w fun e w' => e = .returned (vb (mReplies x.abs)) ∧ Kp [] w w' := by
 have okx := Rds.okof hx
 have ncx := Sl.ok.nc okx
 have hns : x.replies.n = x.replies.xs.length := rfl
 have hat : ∀ q, x.abs.replies.getD q default = x.replies.at q := fun _ => rfl
 have hac : x.abs.acked = x.acked := rfl
 have hln : x.abs.replies.length = x.replies.n := rfl
 refine M0 ?_ Try.func62
 refine Ml (σ := Nat × Int) (fun ⟨i, la⟩ => i ≤ x.replies.n ∧ allTo (keptOk x.abs) i = true ∧ x.acked ≤ la ∧ la ≤ x.acked + 4 ∧ (i = 0 → la = x.acked) ∧ (0 < i → la = (x.replies.at (i - 1)).seq)) (fun ⟨i, la⟩ => x.replies.n - i) (fun _ => []) [4, 3, 1] (fun ⟨i, la⟩ => [(4, vI (i : Int)), (3, vI la)]) (fun _ => []) ?_ (⟨0, x.acked⟩) ⟨Nat.zero_le _, rfl, by omega, by omega, fun _ => rfl, fun h => absurd h (by omega)⟩
 rintro ⟨i, la⟩ ⟨hi, hI, hl1, hl2, hl3, hl4⟩ _ on1
 have hz : i = 0 ∧ la = x.acked ∨ 0 < i ∧ la = (x.replies.at (i - 1)).seq := by rcases Nat.eq_zero_or_pos i with h | h; exact .inl ⟨h, hl3 h⟩; exact .inr ⟨h, hl4 h⟩
 refine Md ((i : Int) < (x.replies.n : Int)) (fun h1 => ?_) fun h1 => ?_
 rotate_left
 · have hm : mReplies x.abs = true := by show allTo _ x.abs.replies.length = true; rw [hln, show x.replies.n = i by omega]; exact hI
   exact Meb true hm
 refine Mi ?_ (pc (pA 18 19 (i : Int) i (s := x.replies) (fun w hk hr => (Rds.kp hx hk))) (pc (pR (la + 1)) (pR (x.acked + 4))))
 refine Mp ?_ Try.call56 (fun bs w hS => ref_In (x.replies.at i).seq (la + 1) (x.acked + 4) w)
 refine Mbn (inB (x.replies.at i).seq (la + 1) (x.acked + 4)) (fun h2 => ?_) fun h2 => ?_
 rotate_left
 · simp only [iT, iF] at h2
   have hm : mReplies x.abs = false := allTo_bad (j := i) (decide_eq_false (fun hk => by simp only [hat, hac] at hk; omega)) (show i < x.abs.replies.length by rw [hln]; omega)
   exact Meb false hm
 simp only [iT, iF] at h2
 refine Mp ?_ Try.call56 (fun bs w hS => ref_In (x.replies.at i).reply.code 0 15 w)
 refine Mbn (inB (x.replies.at i).reply.code 0 15) (fun h3 => ?_) fun h3 => ?_
 rotate_left
 · simp only [iT, iF] at h3
   have hm : mReplies x.abs = false := allTo_bad (j := i) (decide_eq_false (fun hk => by simp only [hat, hac] at hk; omega)) (show i < x.abs.replies.length by rw [hln]; omega)
   exact Meb false hm
 simp only [iT, iF] at h3
 refine Mp ?_ Try.call56 (fun bs w hS => ref_In (x.replies.at i).reply.n 0 1073741824 w)
 refine Mbn (inB (x.replies.at i).reply.n 0 1073741824) (fun h4 => ?_) fun h4 => ?_
 rotate_left
 · simp only [iT, iF] at h4
   have hm : mReplies x.abs = false := allTo_bad (j := i) (decide_eq_false (fun hk => by simp only [hat, hac] at hk; omega)) (show i < x.abs.replies.length by rw [hln]; omega)
   exact Meb false hm
 simp only [iT, iF] at h4
 refine Md ((12 : Int) < ((x.replies.at i).reply.text.size : Int)) (fun h5 => ?_) fun h5 => ?_
 · have hm : mReplies x.abs = false := allTo_bad (j := i) (decide_eq_false (fun hk => by simp only [hat, hac] at hk; omega)) (show i < x.abs.replies.length by rw [hln]; omega)
   exact Meb false hm
 refine Mi ?_ (pR ((i : Int) + 1))
 exact on1 ⟨i + 1, (x.replies.at i).seq⟩ ⟨by omega, allTo_step hI (decide_eq_true (by simp only [hat, hac]; exact ⟨by omega, by omega, by omega, by omega, by omega, by omega, by omega, by omega⟩)), by omega, by omega, fun h => absurd h (by omega), fun _ => rfl⟩ (by show x.replies.n - (i + 1) < x.replies.n - i; omega)

theorem session_Check {B : Nat → Prop} (s : Sl CSession) (n : Int) (w : World) (hs : s.rd B w) : Calls Try.prog 51 #[s.val, vi n] w fun e w' => e = .returned (vi (mSess (s.xs.map CSession.abs) n)) ∧ Kp [] w w' := by
 have oks := Sl.rd.ok hs
 have ncs := Sl.ok.nc oks
 have hns : s.n = s.xs.length := rfl
 have hat : ∀ q, (s.xs.map CSession.abs).getD q default = (s.at q).abs := fun q => sabs_at q
 have hq0 : ∀ q, (s.at q).abs.client = (s.at q).client := fun _ => rfl
 have hq1 : ∀ q, (s.at q).abs.id = (s.at q).id := fun _ => rfl
 have hq2 : ∀ q, (s.at q).abs.acked = (s.at q).acked := fun _ => rfl
 have hq3 : ∀ q, (s.at q).abs.last = (s.at q).last := fun _ => rfl
 have hml : (s.xs.map CSession.abs).length = s.n := by simp
 refine M0 ?_ Try.func51
 refine Md (n < 0) (fun h1 => ?_) fun h1 => ?_
 · have hm : mSess (s.xs.map CSession.abs) n = 2 := by
     unfold mSess; rw [hml]
     first | rw [if_pos (by omega)] | rw [if_neg (by omega), if_pos (by omega)]
   exact Me0 2 hm
 refine Md ((1073741824 : Int) < n) (fun h2 => ?_) fun h2 => ?_
 · have hm : mSess (s.xs.map CSession.abs) n = 2 := by
     unfold mSess; rw [hml]
     first | rw [if_pos (by omega)] | rw [if_neg (by omega), if_pos (by omega)]
   exact Me0 2 hm
 refine Md ((4 : Int) < (s.n : Int)) (fun h3 => ?_) fun h3 => ?_
 · have hm : mSess (s.xs.map CSession.abs) n = 1 := by
     unfold mSess; rw [hml]
     first | rw [if_pos (by omega)] | rw [if_neg (by omega), if_pos (by omega)]
   exact Me0 1 hm
 refine Ml (σ := Nat) (fun i => i ≤ s.n ∧ mSess (s.xs.map CSession.abs) n = firstF (sessF (s.xs.map CSession.abs) n) (s.n - i) i) (fun i => s.n - i) (fun _ => []) [18, 17, 16, 0, 1] (fun i => [(18, vI (i : Int))]) (fun _ => []) ?_ 0 ⟨Nat.zero_le _, by unfold mSess; rw [hml, if_neg (by omega), if_neg (by omega)]⟩
 rintro i ⟨hi, hI⟩ _ on1
 refine Md ((i : Int) < (s.n : Int)) (fun h4 => ?_) fun h4 => ?_
 rotate_left
 · exact Me0 0 (by rw [hI, firstF_end (by omega)])
 refine Mi ?_ (pA 21 22 (i : Int) i (rdk hs))
 refine Md ((s.at i).client < 1) (fun h5 => ?_) fun h5 => ?_
 · refine Me0 2 ?_
   have hf : sessF (s.xs.map CSession.abs) n i = 2 := by
     grind [sessF]
   rw [hI, firstF_here (by omega) hf (by omega)]
 refine Md ((9 : Int) < (s.at i).client) (fun h6 => ?_) fun h6 => ?_
 · refine Me0 2 ?_
   have hf : sessF (s.xs.map CSession.abs) n i = 2 := by
     grind [sessF]
   rw [hI, firstF_here (by omega) hf (by omega)]
 refine Md ((s.at i).acked < 0) (fun h7 => ?_) fun h7 => ?_
 · refine Me0 2 ?_
   have hf : sessF (s.xs.map CSession.abs) n i = 2 := by
     grind [sessF]
   rw [hI, firstF_here (by omega) hf (by omega)]
 refine Md ((1048576 : Int) < (s.at i).acked) (fun h8 => ?_) fun h8 => ?_
 · refine Me0 2 ?_
   have hf : sessF (s.xs.map CSession.abs) n i = 2 := by
     grind [sessF]
   rw [hI, firstF_here (by omega) hf (by omega)]
 refine Md ((s.at i).id < 1) (fun h9 => ?_) fun h9 => ?_
 · refine Me0 2 ?_
   have hf : sessF (s.xs.map CSession.abs) n i = 2 := by
     grind [sessF]
   rw [hI, firstF_here (by omega) hf (by omega)]
 refine Md ((s.at i).last < (s.at i).id) (fun h10 => ?_) fun h10 => ?_
 · refine Me0 2 ?_
   have hf : sessF (s.xs.map CSession.abs) n i = 2 := by
     grind [sessF]
   rw [hI, firstF_here (by omega) hf (by omega)]
 refine Md (n < (s.at i).last) (fun h11 => ?_) fun h11 => ?_
 · refine Me0 2 ?_
   have hf : sessF (s.xs.map CSession.abs) n i = 2 := by
     grind [sessF]
   rw [hI, firstF_here (by omega) hf (by omega)]
 refine Mp ?_ Try.call61 (fun bs w hS => session_replies (s.at i) w (Sl.rd.sub (s := s) (i := i) (Sl.rd.kp hs hS.kp) (by omega)) (by first | exact ⟨by omega, by omega⟩ | (simp only [] at *; exact ⟨by omega, by omega⟩)))
 refine Mbn (mReplies (s.at i).abs) (fun h12 => ?_) fun h12 => ?_
 rotate_left
 · refine Me0 4 ?_
   have hf : sessF (s.xs.map CSession.abs) n i = 4 := by
     grind [sessF]
   rw [hI, firstF_here (by omega) hf (by omega)]
 refine Mda 13 [] [] [] Try_mixed ?_
 refine Md ((0 : Int) < (i : Int)) (fun h13 => ?_) fun h13 => ?_
 rotate_left
 · refine Mi ?_ (pR ((i : Int) + 1))
   have hf0 : sessF (s.xs.map CSession.abs) n i = 0 := by
     grind [sessF]
   exact on1 (i + 1) ⟨by omega, by rw [hI]; exact firstF_step (by omega) hf0⟩ (by omega)
 refine Mih ?_ (pc (pR ((i : Int) - 1)) (pc (pI 68 ((i : Int) - 1) (i - 1) (rdk hs)) (pF 70 (i - 1) 0 1 (rdk hs))))
 refine Md ((s.at i).client ≤ (s.at (i - 1)).client) (fun h14 => ?_) fun h14 => ?_
 rotate_left
 · refine Mi ?_ (pR ((i : Int) + 1))
   have hf0 : sessF (s.xs.map CSession.abs) n i = 0 := by
     grind [sessF]
   exact on1 (i + 1) ⟨by omega, by rw [hI]; exact firstF_step (by omega) hf0⟩ (by omega)
 refine Me0 14 ?_
 have hf : sessF (s.xs.map CSession.abs) n i = 14 := by
   grind [sessF]
 rw [hI, firstF_here (by omega) hf (by omega)]

theorem ref_SessionsFault {B : Nat → Prop} (s : Sl CSession) (n : Int) (w : World) (hs : s.rd B w) : Calls Try.prog 55 #[s.val, vi n] w fun e w' => e = .returned (vi (mSess (s.xs.map CSession.abs) n)) ∧ Kp [] w w' := by
 have oks := Sl.rd.ok hs
 have ncs := Sl.ok.nc oks
 have hns : s.n = s.xs.length := rfl
 have hat : ∀ q, (s.xs.map CSession.abs).getD q default = (s.at q).abs := fun q => sabs_at q
 have hq0 : ∀ q, (s.at q).abs.client = (s.at q).client := fun _ => rfl
 have hq1 : ∀ q, (s.at q).abs.id = (s.at q).id := fun _ => rfl
 have hq2 : ∀ q, (s.at q).abs.acked = (s.at q).acked := fun _ => rfl
 have hq3 : ∀ q, (s.at q).abs.last = (s.at q).last := fun _ => rfl
 have hml : (s.xs.map CSession.abs).length = s.n := by simp
 refine M0 ?_ Try.func55
 refine Mp ?_ Try.call56 (fun bs w hS => ref_In n 0 1073741824 w)
 refine Mbn (inB n 0 1073741824) (fun h1 => ?_) fun h1 => ?_
 rotate_left
 · simp only [iT, iF] at h1
   have hm : mSess (s.xs.map CSession.abs) n = 2 := by
     unfold mSess; rw [hml]
     first | rw [if_pos (by omega)] | rw [if_neg (by omega), if_pos (by omega)]
   exact Me0 2 hm
 simp only [iT, iF] at h1
 refine Md ((4 : Int) < (s.n : Int)) (fun h2 => ?_) fun h2 => ?_
 · have hm : mSess (s.xs.map CSession.abs) n = 1 := by
     unfold mSess; rw [hml]
     first | rw [if_pos (by omega)] | rw [if_neg (by omega), if_pos (by omega)]
   exact Me0 1 hm
 refine Ml (σ := Nat) (fun i => i ≤ s.n ∧ mSess (s.xs.map CSession.abs) n = firstF (sessF (s.xs.map CSession.abs) n) (s.n - i) i) (fun i => s.n - i) (fun _ => []) [5, 0, 1] (fun i => [(5, vI (i : Int))]) (fun _ => []) ?_ 0 ⟨Nat.zero_le _, by unfold mSess; rw [hml, if_neg (by omega), if_neg (by omega)]⟩
 rintro i ⟨hi, hI⟩ _ on1
 refine Md ((i : Int) < (s.n : Int)) (fun h3 => ?_) fun h3 => ?_
 rotate_left
 · exact Me0 0 (by rw [hI, firstF_end (by omega)])
 refine Mi ?_ (pA 21 22 (i : Int) i (rdk hs))
 refine Mp ?_ Try.call56 (fun bs w hS => ref_In (s.at i).client 1 9 w)
 refine Mbn (inB (s.at i).client 1 9) (fun h4 => ?_) fun h4 => ?_
 rotate_left
 · simp only [iT, iF] at h4
   refine Me0 2 ?_
   have hf : sessF (s.xs.map CSession.abs) n i = 2 := by
     grind [sessF]
   rw [hI, firstF_here (by omega) hf (by omega)]
 simp only [iT, iF] at h4
 refine Mp ?_ Try.call56 (fun bs w hS => ref_In (s.at i).acked 0 1048576 w)
 refine Mbn (inB (s.at i).acked 0 1048576) (fun h5 => ?_) fun h5 => ?_
 rotate_left
 · simp only [iT, iF] at h5
   refine Me0 2 ?_
   have hf : sessF (s.xs.map CSession.abs) n i = 2 := by
     grind [sessF]
   rw [hI, firstF_here (by omega) hf (by omega)]
 simp only [iT, iF] at h5
 refine Mp ?_ Try.call56 (fun bs w hS => ref_In (s.at i).id 1 n w)
 refine Mbn (inB (s.at i).id 1 n) (fun h6 => ?_) fun h6 => ?_
 rotate_left
 · simp only [iT, iF] at h6
   refine Me0 2 ?_
   have hf : sessF (s.xs.map CSession.abs) n i = 2 := by
     grind [sessF]
   rw [hI, firstF_here (by omega) hf (by omega)]
 simp only [iT, iF] at h6
 refine Mp ?_ Try.call56 (fun bs w hS => ref_In (s.at i).last (s.at i).id n w)
 refine Mbn (inB (s.at i).last (s.at i).id n) (fun h7 => ?_) fun h7 => ?_
 rotate_left
 · simp only [iT, iF] at h7
   refine Me0 2 ?_
   have hf : sessF (s.xs.map CSession.abs) n i = 2 := by
     grind [sessF]
   rw [hI, firstF_here (by omega) hf (by omega)]
 simp only [iT, iF] at h7
 refine Mp ?_ Try.call62 (fun bs w hS => ref_repliesMay (s.at i) w (Sl.rd.sub (s := s) (i := i) (Sl.rd.kp hs hS.kp) (by omega)) (by first | exact ⟨by omega, by omega⟩ | (simp only [] at *; exact ⟨by omega, by omega⟩)))
 refine Mbn (mReplies (s.at i).abs) (fun h8 => ?_) fun h8 => ?_
 rotate_left
 · refine Me0 4 ?_
   have hf : sessF (s.xs.map CSession.abs) n i = 4 := by
     grind [sessF]
   rw [hI, firstF_here (by omega) hf (by omega)]
 refine Mda 13 [] [] [] Try_mixed ?_
 refine Md ((0 : Int) < (i : Int)) (fun h9 => ?_) fun h9 => ?_
 rotate_left
 · refine Mi ?_ (pR ((i : Int) + 1))
   have hf0 : sessF (s.xs.map CSession.abs) n i = 0 := by
     grind [sessF]
   exact on1 (i + 1) ⟨by omega, by rw [hI]; exact firstF_step (by omega) hf0⟩ (by omega)
 refine Mih ?_ (pc (pR ((i : Int) - 1)) (pc (pI 60 ((i : Int) - 1) (i - 1) (rdk hs)) (pF 62 (i - 1) 0 1 (rdk hs))))
 refine Md ((s.at i).client ≤ (s.at (i - 1)).client) (fun h10 => ?_) fun h10 => ?_
 rotate_left
 · refine Mi ?_ (pR ((i : Int) + 1))
   have hf0 : sessF (s.xs.map CSession.abs) n i = 0 := by
     grind [sessF]
   exact on1 (i + 1) ⟨by omega, by rw [hI]; exact firstF_step (by omega) hf0⟩ (by omega)
 refine Me0 14 ?_
 have hf : sessF (s.xs.map CSession.abs) n i = 14 := by
   grind [sessF]
 rw [hI, firstF_here (by omega) hf (by omega)]

theorem pair_Check {B : Nat → Prop} (s : Sl DPair) (w : World) (hs : s.rd B w) : Calls Try.prog 42 #[s.val] w fun e w' => e = .returned (vi (mPairs s.xs)) ∧ Kp [] w w' := by
 have oks := Sl.rd.ok hs
 have ncs := Sl.ok.nc oks
 have hns : s.n = s.xs.length := rfl
 refine M0 ?_ Try.func42
 refine Md ((5 : Int) < (s.n : Int)) (fun h1 => ?_) fun h1 => ?_
 · have hm : mPairs s.xs = 1 := by
     unfold mPairs; rw [if_pos (by omega)]
   exact Me0 1 hm
 refine Ml (σ := Nat) (fun i => i ≤ s.n ∧ mPairs s.xs = firstF (pairF s.xs) (s.n - i) i) (fun i => s.n - i) (fun _ => []) [10, 9, 8, 0] (fun i => [(10, vI (i : Int))]) (fun _ => []) ?_ 0 ⟨Nat.zero_le _, by unfold mPairs; rw [if_neg (by omega)]⟩
 rintro i ⟨hi, hI⟩ _ on1
 have hlt := hi
 refine Md ((i : Int) < (s.n : Int)) (fun h2 => ?_) fun h2 => ?_
 rotate_left
 · exact Me0 0 (by rw [hI, firstF_end (by omega)])
 refine Mi ?_ (pA 13 14 (i : Int) i (rdk hs))
 refine Mp ?_ Try.call43 (fun bs w hS => lock_Name _ w (Sl.ok.at (s := s) (i := i) oks (by omega)).1)
 refine Mbn (mName (s.at i).name) (fun h3 => ?_) fun h3 => ?_
 rotate_left
 · refine Me0 4 ?_
   have hf : pairF s.xs i = 4 := by
     have hat : ∀ q, s.xs.getD q default = s.at q := fun _ => rfl
     grind [pairF]
   rw [hI, firstF_here (by omega) hf (by omega)]
 refine Md ((12 : Int) < ((s.at i).value.size : Int)) (fun h4 => ?_) fun h4 => ?_
 · refine Me0 1 ?_
   have hf : pairF s.xs i = 1 := by
     have hat : ∀ q, s.xs.getD q default = s.at q := fun _ => rfl
     grind [pairF]
   rw [hI, firstF_here (by omega) hf (by omega)]
 refine Md ((s.at i).version < 1) (fun h5 => ?_) fun h5 => ?_
 · refine Me0 2 ?_
   have hf : pairF s.xs i = 2 := by
     have hat : ∀ q, s.xs.getD q default = s.at q := fun _ => rfl
     grind [pairF]
   rw [hI, firstF_here (by omega) hf (by omega)]
 refine Md ((1073741824 : Int) < (s.at i).version) (fun h6 => ?_) fun h6 => ?_
 · refine Me0 2 ?_
   have hf : pairF s.xs i = 2 := by
     have hat : ∀ q, s.xs.getD q default = s.at q := fun _ => rfl
     grind [pairF]
   rw [hI, firstF_here (by omega) hf (by omega)]
 refine Mda 13 [] [] [] Try_mixed ?_
 refine Md ((0 : Int) < (i : Int)) (fun h7 => ?_) fun h7 => ?_
 rotate_left
 · refine Mi ?_ (pR ((i : Int) + 1))
   have hf0 : pairF s.xs i = 0 := by
     have hat : ∀ q, s.xs.getD q default = s.at q := fun _ => rfl
     grind [pairF]
   exact on1 (i + 1) ⟨by omega, by rw [hI]; exact firstF_step (by omega) hf0⟩ (by omega)
 refine Mih ?_ (pc (pR ((i : Int) - 1)) (pc (pI 37 ((i : Int) - 1) (i - 1) (rdk hs)) (pF 39 (i - 1) 0 1 (rdk hs))))
 refine Mbn (Op.bytesLess ((s.at (i - 1)).name).toList ((s.at i).name).toList) (fun h8 => ?_) fun h8 => ?_
 · refine Mi ?_ (pR ((i : Int) + 1))
   have hf0 : pairF s.xs i = 0 := by
     have hat : ∀ q, s.xs.getD q default = s.at q := fun _ => rfl
     grind [pairF]
   exact on1 (i + 1) ⟨by omega, by rw [hI]; exact firstF_step (by omega) hf0⟩ (by omega)
 refine Me0 14 ?_
 have hf : pairF s.xs i = 14 := by
   have hat : ∀ q, s.xs.getD q default = s.at q := fun _ => rfl
   grind [pairF]
 rw [hI, firstF_here (by omega) hf (by omega)]

theorem ref_PairsFault {B : Nat → Prop} (s : Sl DPair) (w : World) (hs : s.rd B w) : Calls Try.prog 47 #[s.val] w fun e w' => e = .returned (vi (mPairs s.xs)) ∧ Kp [] w w' := by
 have oks := Sl.rd.ok hs
 have ncs := Sl.ok.nc oks
 have hns : s.n = s.xs.length := rfl
 refine M0 ?_ Try.func47
 refine Md ((5 : Int) < (s.n : Int)) (fun h1 => ?_) fun h1 => ?_
 · have hm : mPairs s.xs = 1 := by
     unfold mPairs; rw [if_pos (by omega)]
   exact Me0 1 hm
 refine Ml (σ := Nat) (fun i => i ≤ s.n ∧ mPairs s.xs = firstF (pairF s.xs) (s.n - i) i) (fun i => s.n - i) (fun _ => []) [3, 0] (fun i => [(3, vI (i : Int))]) (fun _ => []) ?_ 0 ⟨Nat.zero_le _, by unfold mPairs; rw [if_neg (by omega)]⟩
 rintro i ⟨hi, hI⟩ _ on1
 have hlt := hi
 refine Md ((i : Int) < (s.n : Int)) (fun h2 => ?_) fun h2 => ?_
 rotate_left
 · exact Me0 0 (by rw [hI, firstF_end (by omega)])
 refine Mi ?_ (pc (pI 15 (i : Int) i (rdk hs)) (pF 17 i 0 1 (rdk hs)))
 refine Mp ?_ Try.call48 (fun bs w hS => ref_NameMay _ w (Sl.ok.at (s := s) (i := i) oks (by omega)).1)
 refine Mbn (mName (s.at i).name) (fun h3 => ?_) fun h3 => ?_
 rotate_left
 · refine Me0 4 ?_
   have hf : pairF s.xs i = 4 := by
     have hat : ∀ q, s.xs.getD q default = s.at q := fun _ => rfl
     grind [pairF]
   rw [hI, firstF_here (by omega) hf (by omega)]
 refine Mi ?_ (pc (pI 22 (i : Int) i (rdk hs)) (pF 24 i 1 1 (rdk hs)))
 refine Md ((12 : Int) < ((s.at i).value.size : Int)) (fun h4 => ?_) fun h4 => ?_
 · refine Me0 1 ?_
   have hf : pairF s.xs i = 1 := by
     have hat : ∀ q, s.xs.getD q default = s.at q := fun _ => rfl
     grind [pairF]
   rw [hI, firstF_here (by omega) hf (by omega)]
 refine Mi ?_ (pc (pI 29 (i : Int) i (rdk hs)) (pF 31 i 2 1 (rdk hs)))
 refine Mp ?_ Try.call56 (fun bs w hS => ref_In (s.at i).version 1 1073741824 w)
 refine Mbn (inB (s.at i).version 1 1073741824) (fun h5 => ?_) fun h5 => ?_
 rotate_left
 · simp only [iT, iF] at h5
   refine Me0 2 ?_
   have hf : pairF s.xs i = 2 := by
     have hat : ∀ q, s.xs.getD q default = s.at q := fun _ => rfl
     grind [pairF]
   rw [hI, firstF_here (by omega) hf (by omega)]
 simp only [iT, iF] at h5
 refine Mda 16 [] [] [] Try_mixed ?_
 refine Md ((0 : Int) < (i : Int)) (fun h6 => ?_) fun h6 => ?_
 rotate_left
 · refine Mi ?_ (pR ((i : Int) + 1))
   have hf0 : pairF s.xs i = 0 := by
     have hat : ∀ q, s.xs.getD q default = s.at q := fun _ => rfl
     grind [pairF]
   exact on1 (i + 1) ⟨by omega, by rw [hI]; exact firstF_step (by omega) hf0⟩ (by omega)
 refine Mih ?_ (pc (pI 39 (i : Int) i (rdk hs)) (pc (pF 41 i 0 1 (rdk hs)) (pc (pR ((i : Int) - 1)) (pc (pI 45 ((i : Int) - 1) (i - 1) (rdk hs)) (pF 47 (i - 1) 0 1 (rdk hs))))))
 refine Mb (Op.bytesLess ((s.at i).name).toList ((s.at (i - 1)).name).toList || decide ((s.at i).name = (s.at (i - 1)).name)) (fun h7 => ?_) fun h7 => ?_
 rotate_left
 · rw [bytes_total] at h7
   simp only [Bool.not_eq_true', Bool.not_eq_false', Bool.not_eq_true, Bool.not_eq_false] at h7
   refine Mi ?_ (pR ((i : Int) + 1))
   have hf0 : pairF s.xs i = 0 := by
     have hat : ∀ q, s.xs.getD q default = s.at q := fun _ => rfl
     grind [pairF]
   exact on1 (i + 1) ⟨by omega, by rw [hI]; exact firstF_step (by omega) hf0⟩ (by omega)
 rw [bytes_total] at h7
 simp only [Bool.not_eq_true', Bool.not_eq_false', Bool.not_eq_true, Bool.not_eq_false] at h7
 refine Me0 14 ?_
 have hf : pairF s.xs i = 14 := by
   have hat : ∀ q, s.xs.getD q default = s.at q := fun _ => rfl
   grind [pairF]
 rw [hI, firstF_here (by omega) hf (by omega)]

theorem machine_Check {B : Nat → Prop} (x : CState) (w : World) (hx : Rds.sub B w x) : Calls Try.prog 124 #[x.val] w fun e w' => e = .returned (vi (mState x.abs)) ∧ Kp [] w w' := by
 have okx := Rds.okof hx
 refine M0 ?_ Try.func124
 refine Mp ?_ Try.call51 (fun bs w hS => session_Check x.sessions x.index w (Rds.kp hx hS.kp).2.2)
 refine Mdn (mSess (x.sessions.xs.map CSession.abs) x.index = 0) (fun h1 => ?_) fun h1 => ?_
 rotate_left
 · have hm : mState x.abs = mSess (x.sessions.xs.map CSession.abs) x.index := by
     have q1 : x.abs.sessions = x.sessions.xs.map CSession.abs := rfl
     have q2 : x.abs.locks = x.locks.xs.map CLock.abs := rfl
     have q3 : x.abs.pairs = x.pairs.xs := rfl
     have q4 : x.abs.index = x.index := rfl
     grind [mState]
   exact Me0 (mSess (x.sessions.xs.map CSession.abs) x.index) hm
 refine Mp ?_ Try.call110 (fun bs w hS => lock_Check x.locks w (Rds.kp hx hS.kp).1)
 refine Mdn (mLocks (x.locks.xs.map CLock.abs) = 0) (fun h2 => ?_) fun h2 => ?_
 rotate_left
 · have hm : mState x.abs = mLocks (x.locks.xs.map CLock.abs) := by
     have q1 : x.abs.sessions = x.sessions.xs.map CSession.abs := rfl
     have q2 : x.abs.locks = x.locks.xs.map CLock.abs := rfl
     have q3 : x.abs.pairs = x.pairs.xs := rfl
     have q4 : x.abs.index = x.index := rfl
     grind [mState]
   exact Me0 (mLocks (x.locks.xs.map CLock.abs)) hm
 refine Mp ?_ Try.call42 (fun bs w hS => pair_Check x.pairs w (Rds.kp hx hS.kp).2.1)
 have hm : mState x.abs = mPairs x.pairs.xs := by
   have q1 : x.abs.sessions = x.sessions.xs.map CSession.abs := rfl
   have q2 : x.abs.locks = x.locks.xs.map CLock.abs := rfl
   have q3 : x.abs.pairs = x.pairs.xs := rfl
   have q4 : x.abs.index = x.index := rfl
   grind [mState]
 exact Me0 (mPairs x.pairs.xs) hm

theorem ref_StateFault {B : Nat → Prop} (x : CState) (w : World) (hx : Rds.sub B w x) : Calls Try.prog 126 #[x.val] w fun e w' => e = .returned (vi (mState x.abs)) ∧ Kp [] w w' := by
 have okx := Rds.okof hx
 refine M0 ?_ Try.func126
 refine Mp ?_ Try.call55 (fun bs w hS => ref_SessionsFault x.sessions x.index w (Rds.kp hx hS.kp).2.2)
 refine Md (mSess (x.sessions.xs.map CSession.abs) x.index = 0) (fun h1 => ?_) fun h1 => ?_
 rotate_left
 · refine My false false ?_ (df h1)
   have hm : mState x.abs = mSess (x.sessions.xs.map CSession.abs) x.index := by
     have q1 : x.abs.sessions = x.sessions.xs.map CSession.abs := rfl
     have q2 : x.abs.locks = x.locks.xs.map CLock.abs := rfl
     have q3 : x.abs.pairs = x.pairs.xs := rfl
     have q4 : x.abs.index = x.index := rfl
     grind [mState]
   exact Me0 (mSess (x.sessions.xs.map CSession.abs) x.index) hm
 refine Mp ?_ Try.call117 (fun bs w hS => ref_LocksFault x.locks w (Rds.kp hx hS.kp).1)
 refine Md (mLocks (x.locks.xs.map CLock.abs) = 0) (fun h2 => ?_) fun h2 => ?_
 rotate_left
 · have hm : mState x.abs = mLocks (x.locks.xs.map CLock.abs) := by
     have q1 : x.abs.sessions = x.sessions.xs.map CSession.abs := rfl
     have q2 : x.abs.locks = x.locks.xs.map CLock.abs := rfl
     have q3 : x.abs.pairs = x.pairs.xs := rfl
     have q4 : x.abs.index = x.index := rfl
     grind [mState]
   exact Me0 (mLocks (x.locks.xs.map CLock.abs)) hm
 refine Mp ?_ Try.call47 (fun bs w hS => ref_PairsFault x.pairs w (Rds.kp hx hS.kp).2.1)
 have hm : mState x.abs = mPairs x.pairs.xs := by
   have q1 : x.abs.sessions = x.sessions.xs.map CSession.abs := rfl
   have q2 : x.abs.locks = x.locks.xs.map CLock.abs := rfl
   have q3 : x.abs.pairs = x.pairs.xs := rfl
   have q4 : x.abs.index = x.index := rfl
   grind [mState]
 exact Me0 (mPairs x.pairs.xs) hm

theorem codec_Seal (s : ByteArray) (w : World) (hs : s.size ≤ 9223372036854775807) : Calls Try.prog 131 #[vs s] w fun e w' => e = .returned (vs (mSeal s)) ∧ Kp [] w w' := by
 refine M0 ?_ Try.func131
 refine Ml (σ := Nat) (fun k => k ≤ s.size) (fun k => s.size - k) (fun _ => []) [8, 7, 4, 3, 0] (fun k => [(8, vI (k : Int)), (4, vI (sealTo s k).2), (3, vI (sealTo s k).1)]) (fun _ => []) ?_ 0 (Nat.zero_le _)
 rintro k hk _ on1
 have hb := sealTo_bd s k
 have hu := (s.data.getD k 0).toNat_lt
 refine Md ((k : Int) < (s.size : Int)) (fun h1 => ?_) fun h1 => ?_
 rotate_left
 · refine Mi ?_ (pc (pP ((0 : Int) ≤ 8)) (pc (pP (8 ≤ (64 : Int))) (pc (pP ((0 : Int) ≤ 8)) (pP (8 ≤ (64 : Int))))))
   refine M1 ?_
   refine Mstl (eS := 5) [((sealTo s k).2 / 2 ^ (8 : Int).toNat) % 256, (sealTo s k).2 % 256, ((sealTo s k).1 / 2 ^ (8 : Int).toNat) % 256, (sealTo s k).1 % 256] ?_
   refine Mt [vs (bstr ([((sealTo s k).2 / 2 ^ (8 : Int).toNat) % 256, (sealTo s k).2 % 256, ((sealTo s k).1 / 2 ^ (8 : Int).toNat) % 256, (sealTo s k).1 % 256]))] fun bs w hS => ?_
   refine ⟨?_, hS.kp⟩
   have e : k = s.size := by omega
   subst e
   simp [retOf, den, mSeal]
 refine Mi ?_ (pc (pG [(14, .sidx k)] (oc (rfl : (k : Int) = (k : Int)) (oc ((by omega) : k < s.size) on))) (pc (pP (0 ≤ ((s.data.getD k 0).toNat : Int))) (pc (pP (((s.data.getD k 0).toNat : Int) ≤ 255)) (pc (pR ((sealTo s k).1 + ((s.data.getD k 0).toNat : Int))) (pc (pP (0 ≤ (sealTo s k).1 + ((s.data.getD k 0).toNat : Int))) (pc (pP ((0 : Int) < 65521)) (pc (pR ((sealTo s k).2 + (((sealTo s k).1 + ((s.data.getD k 0).toNat : Int)) % 65521))) (pc (pP (0 ≤ (sealTo s k).2 + (((sealTo s k).1 + ((s.data.getD k 0).toNat : Int)) % 65521))) (pc (pP ((0 : Int) < 65521)) (pR ((k : Int) + 1)))))))))))
 exact on1 (k + 1) (by omega) (by omega)

theorem ref_SealOf (s : ByteArray) (w : World) (hs : s.size ≤ 9223372036854775807) : Calls Try.prog 127 #[vs s] w fun e w' => e = .returned (vs (mSeal s)) ∧ Kp [] w w' := by
 refine M0 ?_ Try.func127
 refine Ml (σ := Nat) (fun k => k ≤ s.size) (fun k => s.size - k) (fun _ => []) [5, 4, 3, 0] (fun k => [(5, vI (k : Int)), (4, vI (sealTo s k).2), (3, vI (sealTo s k).1)]) (fun _ => []) ?_ 0 (Nat.zero_le _)
 rintro k hk _ on1
 have hb := sealTo_bd s k
 have hu := (s.data.getD k 0).toNat_lt
 refine Md ((k : Int) < (s.size : Int)) (fun h1 => ?_) fun h1 => ?_
 · refine Mi ?_ (pc (pG [(15, .sidx k)] (oc (rfl : (k : Int) = (k : Int)) (oc ((by omega) : k < s.size) on))) (pc (pP (0 ≤ ((s.data.getD k 0).toNat : Int))) (pc (pP (((s.data.getD k 0).toNat : Int) ≤ 255)) (pc (pR ((sealTo s k).1 + ((s.data.getD k 0).toNat : Int))) (pc (pP (0 ≤ (sealTo s k).1 + ((s.data.getD k 0).toNat : Int))) (pc (pP ((0 : Int) < 65521)) (pc (pR ((sealTo s k).2 + (((sealTo s k).1 + ((s.data.getD k 0).toNat : Int)) % 65521))) (pc (pP (0 ≤ (sealTo s k).2 + (((sealTo s k).1 + ((s.data.getD k 0).toNat : Int)) % 65521))) (pc (pP ((0 : Int) < 65521)) (pR ((k : Int) + 1)))))))))))
   exact on1 (k + 1) (by omega) (by omega)
 refine Mi ?_ (pc (pP (0 ≤ (sealTo s k).2)) (pc (pP ((sealTo s k).2 ≤ 9223372036854775807)) (pc (pP ((0 : Int) < 256)) (pc (pP (0 ≤ (sealTo s k).2)) (pc (pP ((0 : Int) < 256)) (pc (pP (0 ≤ (sealTo s k).1)) (pc (pP ((sealTo s k).1 ≤ 9223372036854775807)) (pc (pP ((0 : Int) < 256)) (pc (pP (0 ≤ (sealTo s k).1)) (pP ((0 : Int) < 256)))))))))))
 refine M1 ?_
 refine Mstl (eS := 5) [((sealTo s k).2 / 256) % 256, ((sealTo s k).2 % 256) % 256, ((sealTo s k).1 / 256) % 256, ((sealTo s k).1 % 256) % 256] ?_
 refine Mt [vs (bstr ([((sealTo s k).2 / 256) % 256, ((sealTo s k).2 % 256) % 256, ((sealTo s k).1 / 256) % 256, ((sealTo s k).1 % 256) % 256]))] fun bs w hS => ?_
 refine ⟨?_, hS.kp⟩
 have e : k = s.size := by omega
 subst e
 simp [retOf, den, mSeal]

theorem ref_SnapBytes {B : Nat → Prop} (s : CState) (w : World) (hs : Rds.sub B w s) : Calls Try.prog 95 #[s.val] w fun e w' => e = .returned (.tuple #[vs (mSnap s.abs).1, vi (mSnap s.abs).2]) ∧ Kp [] w w' := by
 have he0 : emp.size = 0 := rfl
 have okx := Rds.okof hs
 have oks := okx.1
 have okp := okx.2.1
 have oke := okx.2.2
 have ncs := Sl.ok.nc oks
 have ncp := Sl.ok.nc okp
 have nce := Sl.ok.nc oke
 have hns : s.locks.n = s.locks.xs.length := rfl
 have hnp : s.pairs.n = s.pairs.xs.length := rfl
 have hne : s.sessions.n = s.sessions.xs.length := rfl
 have hll : s.abs.locks.length = s.locks.n := List.length_map _
 have hlp : s.abs.pairs.length = s.pairs.n := rfl
 have hle : s.abs.sessions.length = s.sessions.n := List.length_map _
 have hal : ∀ q, s.abs.locks.getD q default = (s.locks.at q).abs := fun q => abs_at q
 have hap : ∀ q, s.abs.pairs.getD q default = s.pairs.at q := fun _ => rfl
 have hae : ∀ q, s.abs.sessions.getD q default = (s.sessions.at q).abs := fun q => sabs_at q
 refine M0 ?_ Try.func95
 refine Mp ?_ Try.call126 (fun bs w hS => ref_StateFault s w (Rds.kp hs hS.kp))
 refine Mdn (mState s.abs = 0) (fun h1 => ?_) fun h1 => ?_
 rotate_left
 · refine Mt [ve, vi (mState s.abs)] fun bs w hS => ?_
   refine ⟨?_, hS.kp⟩
   unfold mSnap
   rw [if_neg (by assumption)]
   rfl
 have hbd := mState_bd (x := s.abs) (by assumption)
 have hb1 := hbd.1
 have hb2 := hbd.2.1
 have hb3 := hbd.2.2.1
 have hb4 : ∀ q, (s.locks.at q).line.n ≤ 3 := fun q => by
   by_cases hq : q < s.locks.n
   · have := hbd.2.2.2.1 q (by rw [hll]; exact hq); rw [hal] at this; exact this
   · rw [at_out hq]; show 0 ≤ 3; omega
 have hb5 : ∀ q, (s.sessions.at q).replies.n ≤ 4 := fun q => by
   by_cases hq : q < s.sessions.n
   · have := hbd.2.2.2.2 q (by rw [hle]; exact hq); rw [hae] at this; exact this
   · rw [at_out hq]; show 0 ≤ 4; omega
 refine M1 ?_
 have hzj1 := mNums_size [(s.index : Int), ((s.locks.n : Int) : Int)]
 simp only [List.length_cons, List.length_nil] at hzj1
 refine Mp ?_ (v := vs (mNums [(s.index : Int), ((s.locks.n : Int) : Int)])) Try.call135 (fun bs w hS => ref_joined (⟨some ⟨bs.getD 1 0, 0, none⟩, 2, [(s.index : Int), ((s.locks.n : Int) : Int)]⟩ : Sl Int) w (rd_local [(s.index : Int), ((s.locks.n : Int) : Int)] (hS.loc 1 ⟨3, [vI s.index, vI (s.locks.n : Int)]⟩ (by kernel_rfl) (by simp)) (by simp)) (by show 2 ≤ 1048576; omega))
 have hz00 : (mNums [(s.index : Int), ((s.locks.n : Int) : Int)]).size ≤ 40 := by first | omega | (simp only [ByteArray.size_append]; omega)
 generalize hu0 : mNums [(s.index : Int), ((s.locks.n : Int) : Int)] = z0 at hz00 ⊢
 refine Ml (σ := Nat × ByteArray) (fun ⟨i0, u0⟩ => i0 ≤ s.locks.n ∧ u0 = (s.abs.locks.take i0).foldl lockS z0 ∧ u0.size ≤ 40 + i0 * 5100) (fun ⟨i0, u0⟩ => s.locks.n - i0) (fun _ => []) [5, 6, 1] (fun ⟨i0, u0⟩ => [(5, vS u0), (6, vI (i0 : Int))]) (fun _ => []) ?_ (⟨0, z0⟩) ⟨Nat.zero_le _, rfl, by show z0.size ≤ 40 + 0 * 5100; omega⟩
 rintro ⟨i0, u0⟩ ⟨hi0, hI0, hz_0⟩ _ on1
 have hb4i := hb4 i0
 have hb4x : (s.locks.at i0).line.xs.length ≤ 3 := hb4 i0
 refine Md ((i0 : Int) < (s.locks.n : Int)) (fun h2 => ?_) fun h2 => ?_
 · refine Mi ?_ (pA 35 36 (i0 : Int) i0 (s := s.locks) (fun w hk hr => (Rds.kp hs hk).1))
   refine Mda 20 [] [] [] Try_mixed ?_
   refine Mbr ?_ ?_
   · have hzt2 := mTextB_size (s.locks.at i0).name
     refine Mp ?_ Try.call136 (fun bs w hS => ref_worded _ w (Sl.ok.at (s := s.locks) (i := i0) okx.1 (by omega)).1)
     refine Mih ?_ (pP (u0.size + (mTextB (s.locks.at i0).name).size ≤ 9223372036854775807) (by first | omega | (simp only [ByteArray.size_append]; omega)))
     refine M1 ?_
     have hzj3 := mNums_size [((s.locks.at i0).holder : Int), ((s.locks.at i0).fence : Int), ((((s.locks.at i0).line.n : Nat) : Int) : Int)]
     simp only [List.length_cons, List.length_nil] at hzj3
     refine Mp ?_ (v := vs (mNums [((s.locks.at i0).holder : Int), ((s.locks.at i0).fence : Int), ((((s.locks.at i0).line.n : Nat) : Int) : Int)])) Try.call135 (fun bs w hS => ref_joined (⟨some ⟨bs.getD 3 0, 0, none⟩, 3, [((s.locks.at i0).holder : Int), ((s.locks.at i0).fence : Int), ((((s.locks.at i0).line.n : Nat) : Int) : Int)]⟩ : Sl Int) w (rd_local [((s.locks.at i0).holder : Int), ((s.locks.at i0).fence : Int), ((((s.locks.at i0).line.n : Nat) : Int) : Int)] (hS.loc 3 ⟨3, [vI (s.locks.at i0).holder, vI (s.locks.at i0).fence, vI (((s.locks.at i0).line.n : Nat) : Int)]⟩ (by kernel_rfl) (by simp)) (by simp)) (by show 3 ≤ 1048576; omega))
     refine Mih ?_ (pP ((u0 ++ (mTextB (s.locks.at i0).name)).size + (mNums [((s.locks.at i0).holder : Int), ((s.locks.at i0).fence : Int), ((((s.locks.at i0).line.n : Nat) : Int) : Int)]).size ≤ 9223372036854775807) (by first | omega | (simp only [ByteArray.size_append]; omega)))
     have hzj4 := mNums_size (s.locks.at i0).line.xs
     refine Mp ?_ Try.call135 (fun bs w hS => ref_joined (s.locks.at i0).line w (Sl.rd.sub (s := s.locks) (i := i0) (Rds.kp hs hS.kp).1 (by omega)).2 (by omega))
     refine Mih ?_ (pP (((u0 ++ (mTextB (s.locks.at i0).name)) ++ (mNums [((s.locks.at i0).holder : Int), ((s.locks.at i0).fence : Int), ((((s.locks.at i0).line.n : Nat) : Int) : Int)])).size + (mNums (s.locks.at i0).line.xs).size ≤ 9223372036854775807) (by first | omega | (simp only [ByteArray.size_append]; omega)))
     refine Mi ?_ (pR ((i0 : Int) + 1))
     have hst0 : ((u0 ++ (mTextB (s.locks.at i0).name)) ++ (mNums [((s.locks.at i0).holder : Int), ((s.locks.at i0).fence : Int), ((((s.locks.at i0).line.n : Nat) : Int) : Int)])) ++ (mNums (s.locks.at i0).line.xs) = lockS u0 (s.abs.locks.getD i0 default) := by
       rw [hal]; rfl
     have hzz0 : (((u0 ++ (mTextB (s.locks.at i0).name)) ++ (mNums [((s.locks.at i0).holder : Int), ((s.locks.at i0).fence : Int), ((((s.locks.at i0).line.n : Nat) : Int) : Int)])) ++ (mNums (s.locks.at i0).line.xs)).size ≤ 40 + (i0 + 1) * 5100 := by simp only [ByteArray.size_append]; omega
     exact on1 ⟨i0 + 1, ((u0 ++ (mTextB (s.locks.at i0).name)) ++ (mNums [((s.locks.at i0).holder : Int), ((s.locks.at i0).fence : Int), ((((s.locks.at i0).line.n : Nat) : Int) : Int)])) ++ (mNums (s.locks.at i0).line.xs)⟩ ⟨by show i0 + 1 ≤ s.locks.n; omega, by show _ = (s.abs.locks.take (i0 + 1)).foldl lockS z0; rw [hst0, hI0]; exact (foldl_take (i := i0) _ _ s.abs.locks (by omega)).symm, hzz0⟩ (by show s.locks.n - (i0 + 1) < s.locks.n - i0; omega)
   refine M1 ?_
   have hzt5 := mTextB_size (s.locks.at i0).name
   refine Mp ?_ Try.call136 (fun bs w hS => ref_worded _ w (Sl.ok.at (s := s.locks) (i := i0) okx.1 (by omega)).1)
   refine Mih ?_ (pP (u0.size + (mTextB (s.locks.at i0).name).size ≤ 9223372036854775807) (by first | omega | (simp only [ByteArray.size_append]; omega)))
   have hzj6 := mNums_size [((s.locks.at i0).holder : Int), ((s.locks.at i0).fence : Int), ((((s.locks.at i0).line.n : Nat) : Int) : Int)]
   simp only [List.length_cons, List.length_nil] at hzj6
   refine Mp ?_ (v := vs (mNums [((s.locks.at i0).holder : Int), ((s.locks.at i0).fence : Int), ((((s.locks.at i0).line.n : Nat) : Int) : Int)])) Try.call135 (fun bs w hS => ref_joined (⟨some ⟨bs.getD 3 0, 0, none⟩, 3, [((s.locks.at i0).holder : Int), ((s.locks.at i0).fence : Int), ((((s.locks.at i0).line.n : Nat) : Int) : Int)]⟩ : Sl Int) w (rd_local [((s.locks.at i0).holder : Int), ((s.locks.at i0).fence : Int), ((((s.locks.at i0).line.n : Nat) : Int) : Int)] (hS.loc 3 ⟨3, [vI (s.locks.at i0).holder, vI (s.locks.at i0).fence, vI (((s.locks.at i0).line.n : Nat) : Int)]⟩ (by kernel_rfl) (by simp)) (by simp)) (by show 3 ≤ 1048576; omega))
   refine Mih ?_ (pP ((u0 ++ (mTextB (s.locks.at i0).name)).size + (mNums [((s.locks.at i0).holder : Int), ((s.locks.at i0).fence : Int), ((((s.locks.at i0).line.n : Nat) : Int) : Int)]).size ≤ 9223372036854775807) (by first | omega | (simp only [ByteArray.size_append]; omega)))
   have hzj7 := mNums_size (s.locks.at i0).line.xs
   refine Mp ?_ Try.call135 (fun bs w hS => ref_joined (s.locks.at i0).line w (Sl.rd.sub (s := s.locks) (i := i0) (Rds.kp hs hS.kp).1 (by omega)).2 (by omega))
   refine Mih ?_ (pP (((u0 ++ (mTextB (s.locks.at i0).name)) ++ (mNums [((s.locks.at i0).holder : Int), ((s.locks.at i0).fence : Int), ((((s.locks.at i0).line.n : Nat) : Int) : Int)])).size + (mNums (s.locks.at i0).line.xs).size ≤ 9223372036854775807) (by first | omega | (simp only [ByteArray.size_append]; omega)))
   refine Mi ?_ (pR ((i0 : Int) + 1))
   have hst0 : ((u0 ++ (mTextB (s.locks.at i0).name)) ++ (mNums [((s.locks.at i0).holder : Int), ((s.locks.at i0).fence : Int), ((((s.locks.at i0).line.n : Nat) : Int) : Int)])) ++ (mNums (s.locks.at i0).line.xs) = lockS u0 (s.abs.locks.getD i0 default) := by
     rw [hal]; rfl
   have hzz0 : (((u0 ++ (mTextB (s.locks.at i0).name)) ++ (mNums [((s.locks.at i0).holder : Int), ((s.locks.at i0).fence : Int), ((((s.locks.at i0).line.n : Nat) : Int) : Int)])) ++ (mNums (s.locks.at i0).line.xs)).size ≤ 40 + (i0 + 1) * 5100 := by simp only [ByteArray.size_append]; omega
   exact on1 ⟨i0 + 1, ((u0 ++ (mTextB (s.locks.at i0).name)) ++ (mNums [((s.locks.at i0).holder : Int), ((s.locks.at i0).fence : Int), ((((s.locks.at i0).line.n : Nat) : Int) : Int)])) ++ (mNums (s.locks.at i0).line.xs)⟩ ⟨by show i0 + 1 ≤ s.locks.n; omega, by show _ = (s.abs.locks.take (i0 + 1)).foldl lockS z0; rw [hst0, hI0]; exact (foldl_take (i := i0) _ _ s.abs.locks (by omega)).symm, hzz0⟩ (by show s.locks.n - (i0 + 1) < s.locks.n - i0; omega)
 refine M1 ?_
 have hzj8 := mNums_size [((s.pairs.n : Int) : Int)]
 simp only [List.length_cons, List.length_nil] at hzj8
 refine Mp ?_ (v := vs (mNums [((s.pairs.n : Int) : Int)])) Try.call135 (fun bs w hS => ref_joined (⟨some ⟨bs.getD 2 0, 0, none⟩, 1, [((s.pairs.n : Int) : Int)]⟩ : Sl Int) w (rd_local [((s.pairs.n : Int) : Int)] (hS.loc 2 ⟨3, [vI (s.pairs.n : Int)]⟩ (by kernel_rfl) (by simp)) (by simp)) (by show 1 ≤ 1048576; omega))
 refine Mi ?_ (pP (u0.size + (mNums [((s.pairs.n : Int) : Int)]).size ≤ 9223372036854775807) (by first | omega | (simp only [ByteArray.size_append]; omega)))
 have hz01 : (u0 ++ (mNums [((s.pairs.n : Int) : Int)])).size ≤ 30000 := by first | omega | (simp only [ByteArray.size_append]; omega)
 generalize hu1 : u0 ++ (mNums [((s.pairs.n : Int) : Int)]) = z1 at hz01 ⊢
 refine Ml (σ := Nat × ByteArray) (fun ⟨i1, u1⟩ => i1 ≤ s.pairs.n ∧ u1 = (s.pairs.xs.take i1).foldl pairS z1 ∧ u1.size ≤ 30000 + i1 * 10100) (fun ⟨i1, u1⟩ => s.pairs.n - i1) (fun _ => []) [5, 8, 1] (fun ⟨i1, u1⟩ => [(5, vS u1), (8, vI (i1 : Int))]) (fun _ => []) ?_ (⟨0, z1⟩) ⟨Nat.zero_le _, rfl, by show z1.size ≤ 30000 + 0 * 10100; omega⟩
 rintro ⟨i1, u1⟩ ⟨hi1, hI1, hz_1⟩ _ on2
 refine Md ((i1 : Int) < (s.pairs.n : Int)) (fun h3 => ?_) fun h3 => ?_
 · refine Mda 27 [] [] [] Try_mixed ?_
   refine Mih ?_ (pc (pI 74 (i1 : Int) i1 (s := s.pairs) (fun w hk hr => (Rds.kp hs hk).2.1)) (pc (pF 76 i1 0 1 (s := s.pairs) (fun w hk hr => (Rds.kp hs hk).2.1)) (pc (pI 82 (i1 : Int) i1 (s := s.pairs) (fun w hk hr => (Rds.kp hs hk).2.1)) (pc (pF 84 i1 1 1 (s := s.pairs) (fun w hk hr => (Rds.kp hs hk).2.1)) (pc (pI 90 (i1 : Int) i1 (s := s.pairs) (fun w hk hr => (Rds.kp hs hk).2.1)) (pF 92 i1 2 1 (s := s.pairs) (fun w hk hr => (Rds.kp hs hk).2.1)))))))
   refine Mbr ?_ ?_
   · have hzt9 := mTextB_size (s.pairs.at i1).name
     refine Mp ?_ Try.call136 (fun bs w hS => ref_worded _ w (Sl.ok.at (s := s.pairs) (i := i1) okx.2.1 (by omega)).1)
     refine Mih ?_ (pP (u1.size + (mTextB (s.pairs.at i1).name).size ≤ 9223372036854775807) (by first | omega | (simp only [ByteArray.size_append]; omega)))
     refine Mbr ?_ ?_
     · have hzt10 := mTextB_size (s.pairs.at i1).value
       refine Mp ?_ Try.call136 (fun bs w hS => ref_worded _ w (Sl.ok.at (s := s.pairs) (i := i1) okx.2.1 (by omega)).2)
       refine Mih ?_ (pP ((u1 ++ (mTextB (s.pairs.at i1).name)).size + (mTextB (s.pairs.at i1).value).size ≤ 9223372036854775807) (by first | omega | (simp only [ByteArray.size_append]; omega)))
       refine M1 ?_
       have hzj11 := mNums_size [((s.pairs.at i1).version : Int)]
       simp only [List.length_cons, List.length_nil] at hzj11
       refine Mp ?_ (v := vs (mNums [((s.pairs.at i1).version : Int)])) Try.call135 (fun bs w hS => ref_joined (⟨some ⟨bs.getD 3 0, 0, none⟩, 1, [((s.pairs.at i1).version : Int)]⟩ : Sl Int) w (rd_local [((s.pairs.at i1).version : Int)] (hS.loc 3 ⟨3, [vI (s.pairs.at i1).version]⟩ (by kernel_rfl) (by simp)) (by simp)) (by show 1 ≤ 1048576; omega))
       refine Mih ?_ (pP (((u1 ++ (mTextB (s.pairs.at i1).name)) ++ (mTextB (s.pairs.at i1).value)).size + (mNums [((s.pairs.at i1).version : Int)]).size ≤ 9223372036854775807) (by first | omega | (simp only [ByteArray.size_append]; omega)))
       refine Mi ?_ (pR ((i1 : Int) + 1))
       have hst1 : ((u1 ++ (mTextB (s.pairs.at i1).name)) ++ (mTextB (s.pairs.at i1).value)) ++ (mNums [((s.pairs.at i1).version : Int)]) = pairS u1 (s.pairs.xs.getD i1 default) := by
         rfl
       have hzz1 : (((u1 ++ (mTextB (s.pairs.at i1).name)) ++ (mTextB (s.pairs.at i1).value)) ++ (mNums [((s.pairs.at i1).version : Int)])).size ≤ 30000 + (i1 + 1) * 10100 := by simp only [ByteArray.size_append]; omega
       exact on2 ⟨i1 + 1, ((u1 ++ (mTextB (s.pairs.at i1).name)) ++ (mTextB (s.pairs.at i1).value)) ++ (mNums [((s.pairs.at i1).version : Int)])⟩ ⟨by show i1 + 1 ≤ s.pairs.n; omega, by show _ = (s.pairs.xs.take (i1 + 1)).foldl pairS z1; rw [hst1, hI1]; exact (foldl_take (i := i1) _ _ s.pairs.xs (by omega)).symm, hzz1⟩ (by show s.pairs.n - (i1 + 1) < s.pairs.n - i1; omega)
     refine M1 ?_
     have hzt12 := mTextB_size (s.pairs.at i1).value
     refine Mp ?_ Try.call136 (fun bs w hS => ref_worded _ w (Sl.ok.at (s := s.pairs) (i := i1) okx.2.1 (by omega)).2)
     refine Mih ?_ (pP ((u1 ++ (mTextB (s.pairs.at i1).name)).size + (mTextB (s.pairs.at i1).value).size ≤ 9223372036854775807) (by first | omega | (simp only [ByteArray.size_append]; omega)))
     have hzj13 := mNums_size [((s.pairs.at i1).version : Int)]
     simp only [List.length_cons, List.length_nil] at hzj13
     refine Mp ?_ (v := vs (mNums [((s.pairs.at i1).version : Int)])) Try.call135 (fun bs w hS => ref_joined (⟨some ⟨bs.getD 3 0, 0, none⟩, 1, [((s.pairs.at i1).version : Int)]⟩ : Sl Int) w (rd_local [((s.pairs.at i1).version : Int)] (hS.loc 3 ⟨3, [vI (s.pairs.at i1).version]⟩ (by kernel_rfl) (by simp)) (by simp)) (by show 1 ≤ 1048576; omega))
     refine Mih ?_ (pP (((u1 ++ (mTextB (s.pairs.at i1).name)) ++ (mTextB (s.pairs.at i1).value)).size + (mNums [((s.pairs.at i1).version : Int)]).size ≤ 9223372036854775807) (by first | omega | (simp only [ByteArray.size_append]; omega)))
     refine Mi ?_ (pR ((i1 : Int) + 1))
     have hst1 : ((u1 ++ (mTextB (s.pairs.at i1).name)) ++ (mTextB (s.pairs.at i1).value)) ++ (mNums [((s.pairs.at i1).version : Int)]) = pairS u1 (s.pairs.xs.getD i1 default) := by
       rfl
     have hzz1 : (((u1 ++ (mTextB (s.pairs.at i1).name)) ++ (mTextB (s.pairs.at i1).value)) ++ (mNums [((s.pairs.at i1).version : Int)])).size ≤ 30000 + (i1 + 1) * 10100 := by simp only [ByteArray.size_append]; omega
     exact on2 ⟨i1 + 1, ((u1 ++ (mTextB (s.pairs.at i1).name)) ++ (mTextB (s.pairs.at i1).value)) ++ (mNums [((s.pairs.at i1).version : Int)])⟩ ⟨by show i1 + 1 ≤ s.pairs.n; omega, by show _ = (s.pairs.xs.take (i1 + 1)).foldl pairS z1; rw [hst1, hI1]; exact (foldl_take (i := i1) _ _ s.pairs.xs (by omega)).symm, hzz1⟩ (by show s.pairs.n - (i1 + 1) < s.pairs.n - i1; omega)
   refine M1 ?_
   have hzt14 := mTextB_size (s.pairs.at i1).name
   refine Mp ?_ Try.call136 (fun bs w hS => ref_worded _ w (Sl.ok.at (s := s.pairs) (i := i1) okx.2.1 (by omega)).1)
   refine Mih ?_ (pP (u1.size + (mTextB (s.pairs.at i1).name).size ≤ 9223372036854775807) (by first | omega | (simp only [ByteArray.size_append]; omega)))
   have hzt15 := mTextB_size (s.pairs.at i1).value
   refine Mp ?_ Try.call136 (fun bs w hS => ref_worded _ w (Sl.ok.at (s := s.pairs) (i := i1) okx.2.1 (by omega)).2)
   refine Mih ?_ (pP ((u1 ++ (mTextB (s.pairs.at i1).name)).size + (mTextB (s.pairs.at i1).value).size ≤ 9223372036854775807) (by first | omega | (simp only [ByteArray.size_append]; omega)))
   have hzj16 := mNums_size [((s.pairs.at i1).version : Int)]
   simp only [List.length_cons, List.length_nil] at hzj16
   refine Mp ?_ (v := vs (mNums [((s.pairs.at i1).version : Int)])) Try.call135 (fun bs w hS => ref_joined (⟨some ⟨bs.getD 3 0, 0, none⟩, 1, [((s.pairs.at i1).version : Int)]⟩ : Sl Int) w (rd_local [((s.pairs.at i1).version : Int)] (hS.loc 3 ⟨3, [vI (s.pairs.at i1).version]⟩ (by kernel_rfl) (by simp)) (by simp)) (by show 1 ≤ 1048576; omega))
   refine Mih ?_ (pP (((u1 ++ (mTextB (s.pairs.at i1).name)) ++ (mTextB (s.pairs.at i1).value)).size + (mNums [((s.pairs.at i1).version : Int)]).size ≤ 9223372036854775807) (by first | omega | (simp only [ByteArray.size_append]; omega)))
   refine Mi ?_ (pR ((i1 : Int) + 1))
   have hst1 : ((u1 ++ (mTextB (s.pairs.at i1).name)) ++ (mTextB (s.pairs.at i1).value)) ++ (mNums [((s.pairs.at i1).version : Int)]) = pairS u1 (s.pairs.xs.getD i1 default) := by
     rfl
   have hzz1 : (((u1 ++ (mTextB (s.pairs.at i1).name)) ++ (mTextB (s.pairs.at i1).value)) ++ (mNums [((s.pairs.at i1).version : Int)])).size ≤ 30000 + (i1 + 1) * 10100 := by simp only [ByteArray.size_append]; omega
   exact on2 ⟨i1 + 1, ((u1 ++ (mTextB (s.pairs.at i1).name)) ++ (mTextB (s.pairs.at i1).value)) ++ (mNums [((s.pairs.at i1).version : Int)])⟩ ⟨by show i1 + 1 ≤ s.pairs.n; omega, by show _ = (s.pairs.xs.take (i1 + 1)).foldl pairS z1; rw [hst1, hI1]; exact (foldl_take (i := i1) _ _ s.pairs.xs (by omega)).symm, hzz1⟩ (by show s.pairs.n - (i1 + 1) < s.pairs.n - i1; omega)
 refine M1 ?_
 have hzj17 := mNums_size [((s.sessions.n : Int) : Int)]
 simp only [List.length_cons, List.length_nil] at hzj17
 refine Mp ?_ (v := vs (mNums [((s.sessions.n : Int) : Int)])) Try.call135 (fun bs w hS => ref_joined (⟨some ⟨bs.getD 3 0, 0, none⟩, 1, [((s.sessions.n : Int) : Int)]⟩ : Sl Int) w (rd_local [((s.sessions.n : Int) : Int)] (hS.loc 3 ⟨3, [vI (s.sessions.n : Int)]⟩ (by kernel_rfl) (by simp)) (by simp)) (by show 1 ≤ 1048576; omega))
 refine Mi ?_ (pP (u1.size + (mNums [((s.sessions.n : Int) : Int)]).size ≤ 9223372036854775807) (by first | omega | (simp only [ByteArray.size_append]; omega)))
 have hz02 : (u1 ++ (mNums [((s.sessions.n : Int) : Int)])).size ≤ 100000 := by first | omega | (simp only [ByteArray.size_append]; omega)
 generalize hu2 : u1 ++ (mNums [((s.sessions.n : Int) : Int)]) = z2 at hz02 ⊢
 refine Ml (σ := Nat × ByteArray) (fun ⟨i2, u2⟩ => i2 ≤ s.sessions.n ∧ u2 = (s.abs.sessions.take i2).foldl sessS z2 ∧ u2.size ≤ 100000 + i2 * 30000) (fun ⟨i2, u2⟩ => s.sessions.n - i2) (fun _ => []) [5, 9, 1] (fun ⟨i2, u2⟩ => [(5, vS u2), (9, vI (i2 : Int))]) (fun _ => []) ?_ (⟨0, z2⟩) ⟨Nat.zero_le _, rfl, by show z2.size ≤ 100000 + 0 * 30000; omega⟩
 rintro ⟨i2, u2⟩ ⟨hi2, hI2, hz_2⟩ _ on3
 have hb5i := hb5 i2
 have hnr : (s.sessions.at i2).replies.n = (s.sessions.at i2).replies.xs.length := rfl
 refine Md ((i2 : Int) < (s.sessions.n : Int)) (fun h4 => ?_) fun h4 => ?_
 rotate_left
 · have hzs21 : (mSeal u2).size = 4 := bstr_size _
   refine Mp ?_ (vs := fun bs => [vs u2]) Try.call127 (fun bs w hS => ref_SealOf _ w (by first | assumption | omega | (simp only [emp_size]; omega)))
   refine Mi ?_ (pP (u2.size + (mSeal u2).size ≤ 9223372036854775807) (by first | omega | (simp only [ByteArray.size_append]; omega)))
   refine Mt [vs (u2 ++ (mSeal u2)), vi 0] fun bs w hS => ?_
   refine ⟨?_, hS.kp⟩
   have hb : u2 = mSnapB s.abs := by
     unfold mSnapB
     rw [hI2, List.take_of_length_le (by omega), ← hu2, hI1, List.take_of_length_le (by omega), ← hu1, hI0, List.take_of_length_le (by omega), ← hu0]
     skip
     rw [hll, hlp, hle]
     rfl
   unfold mSnap
   rw [if_pos (by assumption), ← hb]
   rfl
 refine Mi ?_ (pA 113 114 (i2 : Int) i2 (s := s.sessions) (fun w hk hr => (Rds.kp hs hk).2.2))
 refine M1 ?_
 have hzj18 := mNums_size [((s.sessions.at i2).client : Int), ((s.sessions.at i2).id : Int), ((s.sessions.at i2).acked : Int), ((s.sessions.at i2).last : Int), ((((s.sessions.at i2).replies.n : Nat) : Int) : Int)]
 simp only [List.length_cons, List.length_nil] at hzj18
 refine Mp ?_ (v := vs (mNums [((s.sessions.at i2).client : Int), ((s.sessions.at i2).id : Int), ((s.sessions.at i2).acked : Int), ((s.sessions.at i2).last : Int), ((((s.sessions.at i2).replies.n : Nat) : Int) : Int)])) Try.call135 (fun bs w hS => ref_joined (⟨some ⟨bs.getD 5 0, 0, none⟩, 5, [((s.sessions.at i2).client : Int), ((s.sessions.at i2).id : Int), ((s.sessions.at i2).acked : Int), ((s.sessions.at i2).last : Int), ((((s.sessions.at i2).replies.n : Nat) : Int) : Int)]⟩ : Sl Int) w (rd_local [((s.sessions.at i2).client : Int), ((s.sessions.at i2).id : Int), ((s.sessions.at i2).acked : Int), ((s.sessions.at i2).last : Int), ((((s.sessions.at i2).replies.n : Nat) : Int) : Int)] (hS.loc 5 ⟨3, [vI (s.sessions.at i2).client, vI (s.sessions.at i2).id, vI (s.sessions.at i2).acked, vI (s.sessions.at i2).last, vI (((s.sessions.at i2).replies.n : Nat) : Int)]⟩ (by kernel_rfl) (by simp)) (by simp)) (by show 5 ≤ 1048576; omega))
 refine Mi ?_ (pP (u2.size + (mNums [((s.sessions.at i2).client : Int), ((s.sessions.at i2).id : Int), ((s.sessions.at i2).acked : Int), ((s.sessions.at i2).last : Int), ((((s.sessions.at i2).replies.n : Nat) : Int) : Int)]).size ≤ 9223372036854775807) (by first | omega | (simp only [ByteArray.size_append]; omega)))
 have hz03 : (u2 ++ (mNums [((s.sessions.at i2).client : Int), ((s.sessions.at i2).id : Int), ((s.sessions.at i2).acked : Int), ((s.sessions.at i2).last : Int), ((((s.sessions.at i2).replies.n : Nat) : Int) : Int)])).size ≤ 100030 + i2 * 30000 := by first | omega | (simp only [ByteArray.size_append]; omega)
 generalize hu3 : u2 ++ (mNums [((s.sessions.at i2).client : Int), ((s.sessions.at i2).id : Int), ((s.sessions.at i2).acked : Int), ((s.sessions.at i2).last : Int), ((((s.sessions.at i2).replies.n : Nat) : Int) : Int)]) = z3 at hz03 ⊢
 refine Ml (σ := Nat × ByteArray) (fun ⟨i3, u3⟩ => i3 ≤ (s.sessions.at i2).replies.n ∧ u3 = ((s.sessions.at i2).replies.xs.take i3).foldl keptS z3 ∧ u3.size ≤ 100030 + i2 * 30000 + i3 * 5100) (fun ⟨i3, u3⟩ => (s.sessions.at i2).replies.n - i3) (fun _ => []) [5, 11, 10, 9, 1] (fun ⟨i3, u3⟩ => [(5, vS u3), (11, vI (i3 : Int))]) (fun _ => []) ?_ (⟨0, z3⟩) ⟨Nat.zero_le _, rfl, by show z3.size ≤ 100030 + i2 * 30000 + 0 * 5100; omega⟩
 rintro ⟨i3, u3⟩ ⟨hi3, hI3, hz_3⟩ _ on4
 refine Md ((i3 : Int) < (((s.sessions.at i2).replies.n : Nat) : Int)) (fun h5 => ?_) fun h5 => ?_
 rotate_left
 · refine Mi ?_ (pR ((i2 : Int) + 1))
   have hst2 : u3 = sessS u2 (s.abs.sessions.getD i2 default) := by
     rw [hae, hI3, List.take_of_length_le (by omega), ← hu3]
     rfl
   have hzz2 : (u3).size ≤ 100000 + (i2 + 1) * 30000 := by omega
   exact on3 ⟨i2 + 1, u3⟩ ⟨by show i2 + 1 ≤ s.sessions.n; omega, by show _ = (s.abs.sessions.take (i2 + 1)).foldl sessS z2; rw [hst2, hI2]; exact (foldl_take (i := i2) _ _ s.abs.sessions (by omega)).symm, hzz2⟩ (by show s.sessions.n - (i2 + 1) < s.sessions.n - i2; omega)
 refine Mi ?_ (pA 140 141 (i3 : Int) i3 (s := (s.sessions.at i2).replies) (fun w hk hr => (Sl.rd.sub (s := s.sessions) (i := i2) (Rds.kp hs hk).2.2 (by omega))))
 refine Mda 18 [] [] [] Try_mixed ?_
 refine M1 ?_
 have hzj19 := mNums_size [(((s.sessions.at i2).replies.at i3).seq : Int), (((s.sessions.at i2).replies.at i3).reply.code : Int), (((s.sessions.at i2).replies.at i3).reply.n : Int)]
 simp only [List.length_cons, List.length_nil] at hzj19
 refine Mp ?_ (v := vs (mNums [(((s.sessions.at i2).replies.at i3).seq : Int), (((s.sessions.at i2).replies.at i3).reply.code : Int), (((s.sessions.at i2).replies.at i3).reply.n : Int)])) Try.call135 (fun bs w hS => ref_joined (⟨some ⟨bs.getD 7 0, 0, none⟩, 3, [(((s.sessions.at i2).replies.at i3).seq : Int), (((s.sessions.at i2).replies.at i3).reply.code : Int), (((s.sessions.at i2).replies.at i3).reply.n : Int)]⟩ : Sl Int) w (rd_local [(((s.sessions.at i2).replies.at i3).seq : Int), (((s.sessions.at i2).replies.at i3).reply.code : Int), (((s.sessions.at i2).replies.at i3).reply.n : Int)] (hS.loc 7 ⟨3, [vI ((s.sessions.at i2).replies.at i3).seq, vI ((s.sessions.at i2).replies.at i3).reply.code, vI ((s.sessions.at i2).replies.at i3).reply.n]⟩ (by kernel_rfl) (by simp)) (by simp)) (by show 3 ≤ 1048576; omega))
 refine Mih ?_ (pP (u3.size + (mNums [(((s.sessions.at i2).replies.at i3).seq : Int), (((s.sessions.at i2).replies.at i3).reply.code : Int), (((s.sessions.at i2).replies.at i3).reply.n : Int)]).size ≤ 9223372036854775807) (by first | omega | (simp only [ByteArray.size_append]; omega)))
 have hzt20 := mTextB_size ((s.sessions.at i2).replies.at i3).reply.text
 refine Mp ?_ Try.call136 (fun bs w hS => ref_worded _ w (Sl.ok.at (s := (s.sessions.at i2).replies) (i := i3) (Sl.ok.at (s := s.sessions) (i := i2) okx.2.2 (by omega)) (by omega)))
 refine Mih ?_ (pP ((u3 ++ (mNums [(((s.sessions.at i2).replies.at i3).seq : Int), (((s.sessions.at i2).replies.at i3).reply.code : Int), (((s.sessions.at i2).replies.at i3).reply.n : Int)])).size + (mTextB ((s.sessions.at i2).replies.at i3).reply.text).size ≤ 9223372036854775807) (by first | omega | (simp only [ByteArray.size_append]; omega)))
 refine Mi ?_ (pR ((i3 : Int) + 1))
 have hst3 : (u3 ++ (mNums [(((s.sessions.at i2).replies.at i3).seq : Int), (((s.sessions.at i2).replies.at i3).reply.code : Int), (((s.sessions.at i2).replies.at i3).reply.n : Int)])) ++ (mTextB ((s.sessions.at i2).replies.at i3).reply.text) = keptS u3 ((s.sessions.at i2).replies.xs.getD i3 default) := by
   rfl
 have hzz3 : ((u3 ++ (mNums [(((s.sessions.at i2).replies.at i3).seq : Int), (((s.sessions.at i2).replies.at i3).reply.code : Int), (((s.sessions.at i2).replies.at i3).reply.n : Int)])) ++ (mTextB ((s.sessions.at i2).replies.at i3).reply.text)).size ≤ 100030 + i2 * 30000 + (i3 + 1) * 5100 := by simp only [ByteArray.size_append]; omega
 exact on4 ⟨i3 + 1, (u3 ++ (mNums [(((s.sessions.at i2).replies.at i3).seq : Int), (((s.sessions.at i2).replies.at i3).reply.code : Int), (((s.sessions.at i2).replies.at i3).reply.n : Int)])) ++ (mTextB ((s.sessions.at i2).replies.at i3).reply.text)⟩ ⟨by show i3 + 1 ≤ (s.sessions.at i2).replies.n; omega, by show _ = ((s.sessions.at i2).replies.xs.take (i3 + 1)).foldl keptS z3; rw [hst3, hI3]; exact (foldl_take (i := i3) _ _ (s.sessions.at i2).replies.xs (by omega)).symm, hzz3⟩ (by show (s.sessions.at i2).replies.n - (i3 + 1) < (s.sessions.at i2).replies.n - i3; omega)

theorem snap_Encode {B : Nat → Prop} (s : CState) (w : World) (hs : Rds.sub B w s) : Calls Try.prog 93 #[s.val] w fun e w' => e = .returned (.tuple #[vs (mSnap s.abs).1, vi (mSnap s.abs).2]) ∧ Kp [] w w' := by
 have he0 : emp.size = 0 := rfl
 have okx := Rds.okof hs
 have oks := okx.1
 have okp := okx.2.1
 have oke := okx.2.2
 have ncs := Sl.ok.nc oks
 have ncp := Sl.ok.nc okp
 have nce := Sl.ok.nc oke
 have hns : s.locks.n = s.locks.xs.length := rfl
 have hnp : s.pairs.n = s.pairs.xs.length := rfl
 have hne : s.sessions.n = s.sessions.xs.length := rfl
 have hll : s.abs.locks.length = s.locks.n := List.length_map _
 have hlp : s.abs.pairs.length = s.pairs.n := rfl
 have hle : s.abs.sessions.length = s.sessions.n := List.length_map _
 have hal : ∀ q, s.abs.locks.getD q default = (s.locks.at q).abs := fun q => abs_at q
 have hap : ∀ q, s.abs.pairs.getD q default = s.pairs.at q := fun _ => rfl
 have hae : ∀ q, s.abs.sessions.getD q default = (s.sessions.at q).abs := fun q => sabs_at q
 refine M0 ?_ Try.func93
 refine Mp ?_ Try.call124 (fun bs w hS => machine_Check s w (Rds.kp hs hS.kp))
 refine Mdn (mState s.abs = 0) (fun h1 => ?_) fun h1 => ?_
 rotate_left
 · refine Mt [ve, vi (mState s.abs)] fun bs w hS => ?_
   refine ⟨?_, hS.kp⟩
   unfold mSnap
   rw [if_neg (by assumption)]
   rfl
 have hbd := mState_bd (x := s.abs) (by assumption)
 have hb1 := hbd.1
 have hb2 := hbd.2.1
 have hb3 := hbd.2.2.1
 have hb4 : ∀ q, (s.locks.at q).line.n ≤ 3 := fun q => by
   by_cases hq : q < s.locks.n
   · have := hbd.2.2.2.1 q (by rw [hll]; exact hq); rw [hal] at this; exact this
   · rw [at_out hq]; show 0 ≤ 3; omega
 have hb5 : ∀ q, (s.sessions.at q).replies.n ≤ 4 := fun q => by
   by_cases hq : q < s.sessions.n
   · have := hbd.2.2.2.2 q (by rw [hle]; exact hq); rw [hae] at this; exact this
   · rw [at_out hq]; show 0 ≤ 4; omega
 refine M1 ?_
 have hzn1 := mNums_size [(s.index : Int), ((s.locks.n : Int) : Int)]
 simp only [List.length_cons, List.length_nil] at hzn1
 refine Mo 1 ?_ (vs := fun bs => [.pointer (some (adr bs 1 0)), .slice (some (adr bs 2 0)) 2 2]) (cs' := fun _ => [vs (emp ++ mNums [(s.index : Int), ((s.locks.n : Int) : Int)])]) Try.call133 (fun bs w hS hb => snap_numbers emp (⟨some ⟨bs.getD 2 0, 0, none⟩, 2, [(s.index : Int), ((s.locks.n : Int) : Int)]⟩ : Sl Int) (bs.getD 1 0) w hb (rd_local [(s.index : Int), ((s.locks.n : Int) : Int)] (hS.loc 2 ⟨3, [vI s.index, vI (s.locks.n : Int)]⟩ (by kernel_rfl) (by simp)) (by simp)) (by show 2 ≤ 1048576; omega) (by first | omega | (simp only [ByteArray.size_append]; omega)))
 rintro y _
 have hz00 : (emp ++ mNums [(s.index : Int), ((s.locks.n : Int) : Int)]).size ≤ 40 := by first | omega | (simp only [ByteArray.size_append]; omega)
 generalize hu0 : emp ++ mNums [(s.index : Int), ((s.locks.n : Int) : Int)] = z0 at hz00 ⊢
 refine Ml (σ := Nat × ByteArray) (fun ⟨i0, u0⟩ => i0 ≤ s.locks.n ∧ u0 = (s.abs.locks.take i0).foldl lockS z0 ∧ u0.size ≤ 40 + i0 * 5100) (fun ⟨i0, u0⟩ => s.locks.n - i0) (fun _ => []) [32, 31, 30, 5, 1] (fun ⟨i0, u0⟩ => [(32, vI (i0 : Int))]) (fun ⟨i0, u0⟩ => [(1, [vS u0])]) ?_ (⟨0, z0⟩) ⟨Nat.zero_le _, rfl, by show z0.size ≤ 40 + 0 * 5100; omega⟩
 rintro ⟨i0, u0⟩ ⟨hi0, hI0, hz_0⟩ _ on1
 have hb4i := hb4 i0
 have hb4x : (s.locks.at i0).line.xs.length ≤ 3 := hb4 i0
 refine Md ((i0 : Int) < (s.locks.n : Int)) (fun h2 => ?_) fun h2 => ?_
 · refine Mi ?_ (pA 34 35 (i0 : Int) i0 (s := s.locks) (fun w hk hr => (Rds.kp hs hk).1))
   have hzt3 := mTextB_size (s.locks.at i0).name
   refine Mo 1 ?_ Try.call134 (fun bs w hS hb => snap_text u0 (s.locks.at i0).name (bs.getD 1 0) w hb (Sl.ok.at (s := s.locks) (i := i0) okx.1 (by omega)).1 (by first | omega | (simp only [ByteArray.size_append]; omega)))
   rintro y _
   refine M1 ?_
   have hzn5 := mNums_size [((s.locks.at i0).holder : Int), ((s.locks.at i0).fence : Int), ((((s.locks.at i0).line.n : Nat) : Int) : Int)]
   simp only [List.length_cons, List.length_nil] at hzn5
   refine Mo 1 ?_ (vs := fun bs => [.pointer (some (adr bs 1 0)), .slice (some (adr bs 4 0)) 3 3]) (cs' := fun _ => [vs (u0 ++ mTextB (s.locks.at i0).name ++ mNums [((s.locks.at i0).holder : Int), ((s.locks.at i0).fence : Int), ((((s.locks.at i0).line.n : Nat) : Int) : Int)])]) Try.call133 (fun bs w hS hb => snap_numbers (u0 ++ mTextB (s.locks.at i0).name) (⟨some ⟨bs.getD 4 0, 0, none⟩, 3, [((s.locks.at i0).holder : Int), ((s.locks.at i0).fence : Int), ((((s.locks.at i0).line.n : Nat) : Int) : Int)]⟩ : Sl Int) (bs.getD 1 0) w hb (rd_local [((s.locks.at i0).holder : Int), ((s.locks.at i0).fence : Int), ((((s.locks.at i0).line.n : Nat) : Int) : Int)] (hS.loc 4 ⟨3, [vI (s.locks.at i0).holder, vI (s.locks.at i0).fence, vI (((s.locks.at i0).line.n : Nat) : Int)]⟩ (by kernel_rfl) (by simp)) (by simp)) (by show 3 ≤ 1048576; omega) (by first | omega | (simp only [ByteArray.size_append]; omega)))
   rintro y _
   have hzn7 := mNums_size (s.locks.at i0).line.xs
   refine Mo 1 ?_ Try.call133 (fun bs w hS hb => snap_numbers (u0 ++ mTextB (s.locks.at i0).name ++ mNums [((s.locks.at i0).holder : Int), ((s.locks.at i0).fence : Int), ((((s.locks.at i0).line.n : Nat) : Int) : Int)]) (s.locks.at i0).line (bs.getD 1 0) w hb (Sl.rd.sub (s := s.locks) (i := i0) (Rds.kp hs hS.kp).1 (by omega)).2 (by omega) (by first | omega | (simp only [ByteArray.size_append]; omega)))
   rintro y _
   refine Mi ?_ (pR ((i0 : Int) + 1))
   have hst0 : u0 ++ mTextB (s.locks.at i0).name ++ mNums [((s.locks.at i0).holder : Int), ((s.locks.at i0).fence : Int), ((((s.locks.at i0).line.n : Nat) : Int) : Int)] ++ mNums (s.locks.at i0).line.xs = lockS u0 (s.abs.locks.getD i0 default) := by
     rw [hal]; rfl
   have hzz0 : (u0 ++ mTextB (s.locks.at i0).name ++ mNums [((s.locks.at i0).holder : Int), ((s.locks.at i0).fence : Int), ((((s.locks.at i0).line.n : Nat) : Int) : Int)] ++ mNums (s.locks.at i0).line.xs).size ≤ 40 + (i0 + 1) * 5100 := by simp only [ByteArray.size_append]; omega
   exact on1 ⟨i0 + 1, u0 ++ mTextB (s.locks.at i0).name ++ mNums [((s.locks.at i0).holder : Int), ((s.locks.at i0).fence : Int), ((((s.locks.at i0).line.n : Nat) : Int) : Int)] ++ mNums (s.locks.at i0).line.xs⟩ ⟨by show i0 + 1 ≤ s.locks.n; omega, by show _ = (s.abs.locks.take (i0 + 1)).foldl lockS z0; rw [hst0, hI0]; exact (foldl_take (i := i0) _ _ s.abs.locks (by omega)).symm, hzz0⟩ (by show s.locks.n - (i0 + 1) < s.locks.n - i0; omega)
 refine M1 ?_
 have hzn9 := mNums_size [((s.pairs.n : Int) : Int)]
 simp only [List.length_cons, List.length_nil] at hzn9
 refine Mo 1 ?_ (vs := fun bs => [.pointer (some (adr bs 1 0)), .slice (some (adr bs 3 0)) 1 1]) (cs' := fun _ => [vs (u0 ++ mNums [((s.pairs.n : Int) : Int)])]) Try.call133 (fun bs w hS hb => snap_numbers u0 (⟨some ⟨bs.getD 3 0, 0, none⟩, 1, [((s.pairs.n : Int) : Int)]⟩ : Sl Int) (bs.getD 1 0) w hb (rd_local [((s.pairs.n : Int) : Int)] (hS.loc 3 ⟨3, [vI (s.pairs.n : Int)]⟩ (by kernel_rfl) (by simp)) (by simp)) (by show 1 ≤ 1048576; omega) (by first | omega | (simp only [ByteArray.size_append]; omega)))
 rintro y _
 have hz01 : (u0 ++ mNums [((s.pairs.n : Int) : Int)]).size ≤ 30000 := by first | omega | (simp only [ByteArray.size_append]; omega)
 generalize hu1 : u0 ++ mNums [((s.pairs.n : Int) : Int)] = z1 at hz01 ⊢
 refine Ml (σ := Nat × ByteArray) (fun ⟨i1, u1⟩ => i1 ≤ s.pairs.n ∧ u1 = (s.pairs.xs.take i1).foldl pairS z1 ∧ u1.size ≤ 30000 + i1 * 10100) (fun ⟨i1, u1⟩ => s.pairs.n - i1) (fun _ => []) [64, 63, 62, 5, 1] (fun ⟨i1, u1⟩ => [(64, vI (i1 : Int))]) (fun ⟨i1, u1⟩ => [(1, [vS u1])]) ?_ (⟨0, z1⟩) ⟨Nat.zero_le _, rfl, by show z1.size ≤ 30000 + 0 * 10100; omega⟩
 rintro ⟨i1, u1⟩ ⟨hi1, hI1, hz_1⟩ _ on2
 refine Md ((i1 : Int) < (s.pairs.n : Int)) (fun h3 => ?_) fun h3 => ?_
 · refine Mi ?_ (pA 66 67 (i1 : Int) i1 (s := s.pairs) (fun w hk hr => (Rds.kp hs hk).2.1))
   have hzt11 := mTextB_size (s.pairs.at i1).name
   refine Mo 1 ?_ Try.call134 (fun bs w hS hb => snap_text u1 (s.pairs.at i1).name (bs.getD 1 0) w hb (Sl.ok.at (s := s.pairs) (i := i1) okx.2.1 (by omega)).1 (by first | omega | (simp only [ByteArray.size_append]; omega)))
   rintro y _
   have hzt13 := mTextB_size (s.pairs.at i1).value
   refine Mo 1 ?_ Try.call134 (fun bs w hS hb => snap_text (u1 ++ mTextB (s.pairs.at i1).name) (s.pairs.at i1).value (bs.getD 1 0) w hb (Sl.ok.at (s := s.pairs) (i := i1) okx.2.1 (by omega)).2 (by first | omega | (simp only [ByteArray.size_append]; omega)))
   rintro y _
   refine M1 ?_
   have hzn15 := mNums_size [((s.pairs.at i1).version : Int)]
   simp only [List.length_cons, List.length_nil] at hzn15
   refine Mo 1 ?_ (vs := fun bs => [.pointer (some (adr bs 1 0)), .slice (some (adr bs 5 0)) 1 1]) (cs' := fun _ => [vs (u1 ++ mTextB (s.pairs.at i1).name ++ mTextB (s.pairs.at i1).value ++ mNums [((s.pairs.at i1).version : Int)])]) Try.call133 (fun bs w hS hb => snap_numbers (u1 ++ mTextB (s.pairs.at i1).name ++ mTextB (s.pairs.at i1).value) (⟨some ⟨bs.getD 5 0, 0, none⟩, 1, [((s.pairs.at i1).version : Int)]⟩ : Sl Int) (bs.getD 1 0) w hb (rd_local [((s.pairs.at i1).version : Int)] (hS.loc 5 ⟨3, [vI (s.pairs.at i1).version]⟩ (by kernel_rfl) (by simp)) (by simp)) (by show 1 ≤ 1048576; omega) (by first | omega | (simp only [ByteArray.size_append]; omega)))
   rintro y _
   refine Mi ?_ (pR ((i1 : Int) + 1))
   have hst1 : u1 ++ mTextB (s.pairs.at i1).name ++ mTextB (s.pairs.at i1).value ++ mNums [((s.pairs.at i1).version : Int)] = pairS u1 (s.pairs.xs.getD i1 default) := by
     rfl
   have hzz1 : (u1 ++ mTextB (s.pairs.at i1).name ++ mTextB (s.pairs.at i1).value ++ mNums [((s.pairs.at i1).version : Int)]).size ≤ 30000 + (i1 + 1) * 10100 := by simp only [ByteArray.size_append]; omega
   exact on2 ⟨i1 + 1, u1 ++ mTextB (s.pairs.at i1).name ++ mTextB (s.pairs.at i1).value ++ mNums [((s.pairs.at i1).version : Int)]⟩ ⟨by show i1 + 1 ≤ s.pairs.n; omega, by show _ = (s.pairs.xs.take (i1 + 1)).foldl pairS z1; rw [hst1, hI1]; exact (foldl_take (i := i1) _ _ s.pairs.xs (by omega)).symm, hzz1⟩ (by show s.pairs.n - (i1 + 1) < s.pairs.n - i1; omega)
 refine M1 ?_
 have hzn17 := mNums_size [((s.sessions.n : Int) : Int)]
 simp only [List.length_cons, List.length_nil] at hzn17
 refine Mo 1 ?_ (vs := fun bs => [.pointer (some (adr bs 1 0)), .slice (some (adr bs 4 0)) 1 1]) (cs' := fun _ => [vs (u1 ++ mNums [((s.sessions.n : Int) : Int)])]) Try.call133 (fun bs w hS hb => snap_numbers u1 (⟨some ⟨bs.getD 4 0, 0, none⟩, 1, [((s.sessions.n : Int) : Int)]⟩ : Sl Int) (bs.getD 1 0) w hb (rd_local [((s.sessions.n : Int) : Int)] (hS.loc 4 ⟨3, [vI (s.sessions.n : Int)]⟩ (by kernel_rfl) (by simp)) (by simp)) (by show 1 ≤ 1048576; omega) (by first | omega | (simp only [ByteArray.size_append]; omega)))
 rintro y _
 have hz02 : (u1 ++ mNums [((s.sessions.n : Int) : Int)]).size ≤ 100000 := by first | omega | (simp only [ByteArray.size_append]; omega)
 generalize hu2 : u1 ++ mNums [((s.sessions.n : Int) : Int)] = z2 at hz02 ⊢
 refine Ml (σ := Nat × ByteArray) (fun ⟨i2, u2⟩ => i2 ≤ s.sessions.n ∧ u2 = (s.abs.sessions.take i2).foldl sessS z2 ∧ u2.size ≤ 100000 + i2 * 30000) (fun ⟨i2, u2⟩ => s.sessions.n - i2) (fun _ => []) [91, 90, 89, 5] (fun ⟨i2, u2⟩ => [(91, vI (i2 : Int))]) (fun ⟨i2, u2⟩ => [(1, [vS u2])]) ?_ (⟨0, z2⟩) ⟨Nat.zero_le _, rfl, by show z2.size ≤ 100000 + 0 * 30000; omega⟩
 rintro ⟨i2, u2⟩ ⟨hi2, hI2, hz_2⟩ _ on3
 have hb5i := hb5 i2
 have hnr : (s.sessions.at i2).replies.n = (s.sessions.at i2).replies.xs.length := rfl
 refine Md ((i2 : Int) < (s.sessions.n : Int)) (fun h4 => ?_) fun h4 => ?_
 rotate_left
 · refine Mda 12 [] [] [] Try_mixed ?_
   have hzs25 : (mSeal u2).size = 4 := bstr_size _
   refine Mp ?_ (vs := fun bs => [vs u2]) Try.call131 (fun bs w hS => codec_Seal _ w (by first | assumption | omega | (simp only [emp_size]; omega)))
   refine Mih ?_ (pP (u2.size + (mSeal u2).size ≤ 9223372036854775807) (by first | omega | (simp only [ByteArray.size_append]; omega)))
   refine Mt [vs (u2 ++ (mSeal u2)), vi 0] fun bs w hS => ?_
   refine ⟨?_, hS.kp⟩
   have hb : u2 = mSnapB s.abs := by
     unfold mSnapB
     rw [hI2, List.take_of_length_le (by omega), ← hu2, hI1, List.take_of_length_le (by omega), ← hu1, hI0, List.take_of_length_le (by omega), ← hu0]
     simp only [emp_append]
     rw [hll, hlp, hle]
     rfl
   unfold mSnap
   rw [if_pos (by assumption), ← hb]
   rfl
 refine Mi ?_ (pA 93 94 (i2 : Int) i2 (s := s.sessions) (fun w hk hr => (Rds.kp hs hk).2.2))
 refine M1 ?_
 have hzn19 := mNums_size [((s.sessions.at i2).client : Int), ((s.sessions.at i2).id : Int), ((s.sessions.at i2).acked : Int), ((s.sessions.at i2).last : Int), ((((s.sessions.at i2).replies.n : Nat) : Int) : Int)]
 simp only [List.length_cons, List.length_nil] at hzn19
 refine Mo 1 ?_ (vs := fun bs => [.pointer (some (adr bs 1 0)), .slice (some (adr bs 6 0)) 5 5]) (cs' := fun _ => [vs (u2 ++ mNums [((s.sessions.at i2).client : Int), ((s.sessions.at i2).id : Int), ((s.sessions.at i2).acked : Int), ((s.sessions.at i2).last : Int), ((((s.sessions.at i2).replies.n : Nat) : Int) : Int)])]) Try.call133 (fun bs w hS hb => snap_numbers u2 (⟨some ⟨bs.getD 6 0, 0, none⟩, 5, [((s.sessions.at i2).client : Int), ((s.sessions.at i2).id : Int), ((s.sessions.at i2).acked : Int), ((s.sessions.at i2).last : Int), ((((s.sessions.at i2).replies.n : Nat) : Int) : Int)]⟩ : Sl Int) (bs.getD 1 0) w hb (rd_local [((s.sessions.at i2).client : Int), ((s.sessions.at i2).id : Int), ((s.sessions.at i2).acked : Int), ((s.sessions.at i2).last : Int), ((((s.sessions.at i2).replies.n : Nat) : Int) : Int)] (hS.loc 6 ⟨3, [vI (s.sessions.at i2).client, vI (s.sessions.at i2).id, vI (s.sessions.at i2).acked, vI (s.sessions.at i2).last, vI (((s.sessions.at i2).replies.n : Nat) : Int)]⟩ (by kernel_rfl) (by simp)) (by simp)) (by show 5 ≤ 1048576; omega) (by first | omega | (simp only [ByteArray.size_append]; omega)))
 rintro y _
 have hz03 : (u2 ++ mNums [((s.sessions.at i2).client : Int), ((s.sessions.at i2).id : Int), ((s.sessions.at i2).acked : Int), ((s.sessions.at i2).last : Int), ((((s.sessions.at i2).replies.n : Nat) : Int) : Int)]).size ≤ 100030 + i2 * 30000 := by first | omega | (simp only [ByteArray.size_append]; omega)
 generalize hu3 : u2 ++ mNums [((s.sessions.at i2).client : Int), ((s.sessions.at i2).id : Int), ((s.sessions.at i2).acked : Int), ((s.sessions.at i2).last : Int), ((((s.sessions.at i2).replies.n : Nat) : Int) : Int)] = z3 at hz03 ⊢
 refine Ml (σ := Nat × ByteArray) (fun ⟨i3, u3⟩ => i3 ≤ (s.sessions.at i2).replies.n ∧ u3 = ((s.sessions.at i2).replies.xs.take i3).foldl keptS z3 ∧ u3.size ≤ 100030 + i2 * 30000 + i3 * 5100) (fun ⟨i3, u3⟩ => (s.sessions.at i2).replies.n - i3) (fun _ => []) [112, 111, 110, 91, 90, 89, 5] (fun ⟨i3, u3⟩ => [(112, vI (i3 : Int))]) (fun ⟨i3, u3⟩ => [(1, [vS u3])]) ?_ (⟨0, z3⟩) ⟨Nat.zero_le _, rfl, by show z3.size ≤ 100030 + i2 * 30000 + 0 * 5100; omega⟩
 rintro ⟨i3, u3⟩ ⟨hi3, hI3, hz_3⟩ _ on4
 refine Md ((i3 : Int) < (((s.sessions.at i2).replies.n : Nat) : Int)) (fun h5 => ?_) fun h5 => ?_
 rotate_left
 · refine Mi ?_ (pR ((i2 : Int) + 1))
   have hst2 : u3 = sessS u2 (s.abs.sessions.getD i2 default) := by
     rw [hae, hI3, List.take_of_length_le (by omega), ← hu3]
     rfl
   have hzz2 : (u3).size ≤ 100000 + (i2 + 1) * 30000 := by omega
   exact on3 ⟨i2 + 1, u3⟩ ⟨by show i2 + 1 ≤ s.sessions.n; omega, by show _ = (s.abs.sessions.take (i2 + 1)).foldl sessS z2; rw [hst2, hI2]; exact (foldl_take (i := i2) _ _ s.abs.sessions (by omega)).symm, hzz2⟩ (by show s.sessions.n - (i2 + 1) < s.sessions.n - i2; omega)
 refine Mi ?_ (pA 114 115 (i3 : Int) i3 (s := (s.sessions.at i2).replies) (fun w hk hr => (Sl.rd.sub (s := s.sessions) (i := i2) (Rds.kp hs hk).2.2 (by omega))))
 refine M1 ?_
 have hzn21 := mNums_size [(((s.sessions.at i2).replies.at i3).seq : Int), (((s.sessions.at i2).replies.at i3).reply.code : Int), (((s.sessions.at i2).replies.at i3).reply.n : Int)]
 simp only [List.length_cons, List.length_nil] at hzn21
 refine Mo 1 ?_ (vs := fun bs => [.pointer (some (adr bs 1 0)), .slice (some (adr bs 8 0)) 3 3]) (cs' := fun _ => [vs (u3 ++ mNums [(((s.sessions.at i2).replies.at i3).seq : Int), (((s.sessions.at i2).replies.at i3).reply.code : Int), (((s.sessions.at i2).replies.at i3).reply.n : Int)])]) Try.call133 (fun bs w hS hb => snap_numbers u3 (⟨some ⟨bs.getD 8 0, 0, none⟩, 3, [(((s.sessions.at i2).replies.at i3).seq : Int), (((s.sessions.at i2).replies.at i3).reply.code : Int), (((s.sessions.at i2).replies.at i3).reply.n : Int)]⟩ : Sl Int) (bs.getD 1 0) w hb (rd_local [(((s.sessions.at i2).replies.at i3).seq : Int), (((s.sessions.at i2).replies.at i3).reply.code : Int), (((s.sessions.at i2).replies.at i3).reply.n : Int)] (hS.loc 8 ⟨3, [vI ((s.sessions.at i2).replies.at i3).seq, vI ((s.sessions.at i2).replies.at i3).reply.code, vI ((s.sessions.at i2).replies.at i3).reply.n]⟩ (by kernel_rfl) (by simp)) (by simp)) (by show 3 ≤ 1048576; omega) (by first | omega | (simp only [ByteArray.size_append]; omega)))
 rintro y _
 have hzt23 := mTextB_size ((s.sessions.at i2).replies.at i3).reply.text
 refine Mo 1 ?_ Try.call134 (fun bs w hS hb => snap_text (u3 ++ mNums [(((s.sessions.at i2).replies.at i3).seq : Int), (((s.sessions.at i2).replies.at i3).reply.code : Int), (((s.sessions.at i2).replies.at i3).reply.n : Int)]) ((s.sessions.at i2).replies.at i3).reply.text (bs.getD 1 0) w hb (Sl.ok.at (s := (s.sessions.at i2).replies) (i := i3) (Sl.ok.at (s := s.sessions) (i := i2) okx.2.2 (by omega)) (by omega)) (by first | omega | (simp only [ByteArray.size_append]; omega)))
 rintro y _
 refine Mi ?_ (pR ((i3 : Int) + 1))
 have hst3 : u3 ++ mNums [(((s.sessions.at i2).replies.at i3).seq : Int), (((s.sessions.at i2).replies.at i3).reply.code : Int), (((s.sessions.at i2).replies.at i3).reply.n : Int)] ++ mTextB ((s.sessions.at i2).replies.at i3).reply.text = keptS u3 ((s.sessions.at i2).replies.xs.getD i3 default) := by
   rfl
 have hzz3 : (u3 ++ mNums [(((s.sessions.at i2).replies.at i3).seq : Int), (((s.sessions.at i2).replies.at i3).reply.code : Int), (((s.sessions.at i2).replies.at i3).reply.n : Int)] ++ mTextB ((s.sessions.at i2).replies.at i3).reply.text).size ≤ 100030 + i2 * 30000 + (i3 + 1) * 5100 := by simp only [ByteArray.size_append]; omega
 exact on4 ⟨i3 + 1, u3 ++ mNums [(((s.sessions.at i2).replies.at i3).seq : Int), (((s.sessions.at i2).replies.at i3).reply.code : Int), (((s.sessions.at i2).replies.at i3).reply.n : Int)] ++ mTextB ((s.sessions.at i2).replies.at i3).reply.text⟩ ⟨by show i3 + 1 ≤ (s.sessions.at i2).replies.n; omega, by show _ = ((s.sessions.at i2).replies.xs.take (i3 + 1)).foldl keptS z3; rw [hst3, hI3]; exact (foldl_take (i := i3) _ _ (s.sessions.at i2).replies.xs (by omega)).symm, hzz3⟩ (by show (s.sessions.at i2).replies.n - (i3 + 1) < (s.sessions.at i2).replies.n - i3; omega)

theorem clone_Pair {B : Nat → Prop} (s : Sl DPair) (w : World) (hs : s.rd B w) (hb : s.n * 40 ≤ 140737488355328) : Calls Try.prog 44 #[s.val] w fun e w' => ∃ y : Sl DPair, e = .returned y.val ∧ y.xs = s.xs ∧ Kp [] w w' ∧ Fresh w w' (rowA 72 y.A y.c y.xs) := by
 have oks := Sl.rd.ok hs
 have ncs := Sl.ok.nc oks
 have hns : s.n = s.xs.length := rfl
 refine M0 ?_ Try.func44
 refine Mi ?_ (pG [(4, .val (.bool s.A.isNone))] (oc ((eq_nil Try.underlying22) : ∀ w, (do eqGuard .eql 22 (.tmp 3) (.const vn) s.val vn; binOp .eql 22 s.val vn : Sem Value).run Try.prog w = .ok (.bool s.A.isNone) w) on))
 refine Mb s.A.isNone (fun h1 => ?_) fun h1 => ?_
 · refine Mt [vn] fun bs w hS => ?_
   have hnil : s.xs = [] := Sl.ok.empty oks (by cases h : s.A <;> simp_all)
   exact ⟨Sl.nil, rfl, hnil.symm, hS.kp, rowA_nil 72 w⟩
 refine Mlz ?_ (α := DPair) (e := 72)
 intro A1
 refine Ma ?_ (α := DPair) (L2 := s.xs) 40 (fun bs w hS => Sl.rd.src (s := s) (Sl.rd.kp hs hS.kp))
 intro A2 c2
 exact Mt [.slice A2 ([] ++ s.xs).length c2] fun bs w hS => ⟨⟨A2, c2, [] ++ s.xs⟩, rfl, by simp, hS.kp, hS.out1⟩

theorem same_pairs {B B' : Nat → Prop} (a b : Sl DPair) (w : World) (ha : a.rd B w) (hb : b.rd B' w) (he : a.xs = b.xs) : Calls Try.prog 15 #[a.val, b.val] w fun e w' => e = .returned (vb true) ∧ Kp [] w w' := by
 have oka := Sl.rd.ok ha
 have okb := Sl.rd.ok hb
 have hn := xs_n he
 have nca := Sl.ok.nc oka
 refine M0 ?_ Try.func15
 refine Mdn ((a.n : Int) = (b.n : Int)) (fun h1 => ?_) fun h1 => ?_
 rotate_left
 · exfalso; first | omega | exact h1 (xs_at he i)
 refine Ml (σ := Nat) (fun i => True) (fun i => a.n - i) (fun _ => []) [5, 0, 1] (fun i => [(5, vI (i : Int))]) (fun _ => []) ?_ 0 trivial
 rintro i _ _ on1
 have hat := xs_at he i
 refine Md ((i : Int) < (a.n : Int)) (fun h2 => ?_) fun h2 => ?_
 rotate_left
 · exact Mt [vb true] fun bs w hS => ⟨rfl, hS.kp⟩
 refine Mda 9 [] [] [] Try_mixed ?_
 refine Mih ?_ (pc (pA 19 20 (i : Int) i (rdk ha)) (pc (pA 23 24 (i : Int) i (rdk hb)) (pG [(25, .val (vb (!((decide ((a.at i).name = (b.at i).name)) && ((decide ((a.at i).value = (b.at i).value)) && ((decide ((a.at i).version = (b.at i).version)) && true))))))] (oc ((neq_agg (by kernel_rfl) (by kernel_rfl)) : ∀ w, (do eqGuard .neq 72 (.tmp 20) (.tmp 24) (a.at i).val (b.at i).val; binOp .neq 72 (a.at i).val (b.at i).val : Sem Value).run Try.prog w = .ok (vb (!((decide ((a.at i).name = (b.at i).name)) && ((decide ((a.at i).value = (b.at i).value)) && ((decide ((a.at i).version = (b.at i).version)) && true))))) w) on))))
 refine Mbn ((decide ((a.at i).name = (b.at i).name)) && ((decide ((a.at i).value = (b.at i).value)) && ((decide ((a.at i).version = (b.at i).version)) && true))) (fun h3 => ?_) fun h3 => ?_
 rotate_left
 · exfalso; simp [xs_at he i] at h3
 refine Mi ?_ (pR ((i : Int) + 1))
 exact on1 (i + 1) trivial (by omega)

theorem clone_Int {B : Nat → Prop} (s : Sl Int) (w : World) (hs : s.rd B w) (hb : s.n * 8 ≤ 140737488355328) : Calls Try.prog 143 #[s.val] w fun e w' => ∃ y : Sl Int, e = .returned y.val ∧ y.xs = s.xs ∧ Kp [] w w' ∧ Fresh w w' (rowA 3 y.A y.c y.xs) := by
 have oks := Sl.rd.ok hs
 have ncs := Sl.ok.nc oks
 have hns : s.n = s.xs.length := rfl
 refine M0 ?_ Try.func143
 refine Mi ?_ (pG [(4, .val (.bool s.A.isNone))] (oc ((eq_nil Try.underlying92) : ∀ w, (do eqGuard .eql 92 (.tmp 3) (.const vn) s.val vn; binOp .eql 92 s.val vn : Sem Value).run Try.prog w = .ok (.bool s.A.isNone) w) on))
 refine Mb s.A.isNone (fun h1 => ?_) fun h1 => ?_
 · refine Mt [vn] fun bs w hS => ?_
   have hnil : s.xs = [] := Sl.ok.empty oks (by cases h : s.A <;> simp_all)
   exact ⟨Sl.nil, rfl, hnil.symm, hS.kp, rowA_nil 3 w⟩
 refine Mlz ?_ (α := Int) (e := 3)
 intro A1
 refine Ma ?_ (α := Int) (L2 := s.xs) 8 (fun bs w hS => Sl.rd.src (s := s) (Sl.rd.kp hs hS.kp))
 intro A2 c2
 exact Mt [.slice A2 ([] ++ s.xs).length c2] fun bs w hS => ⟨⟨A2, c2, [] ++ s.xs⟩, rfl, by simp, hS.kp, hS.out1⟩

theorem clone_Kept {B : Nat → Prop} (s : Sl DKept) (w : World) (hs : s.rd B w) (hb : s.n * 40 ≤ 140737488355328) : Calls Try.prog 103 #[s.val] w fun e w' => ∃ y : Sl DKept, e = .returned y.val ∧ y.xs = s.xs ∧ Kp [] w w' ∧ Fresh w w' (rowA 86 y.A y.c y.xs) := by
 have oks := Sl.rd.ok hs
 have ncs := Sl.ok.nc oks
 have hns : s.n = s.xs.length := rfl
 refine M0 ?_ Try.func103
 refine Mi ?_ (pG [(4, .val (.bool s.A.isNone))] (oc ((eq_nil Try.underlying79) : ∀ w, (do eqGuard .eql 79 (.tmp 3) (.const vn) s.val vn; binOp .eql 79 s.val vn : Sem Value).run Try.prog w = .ok (.bool s.A.isNone) w) on))
 refine Mb s.A.isNone (fun h1 => ?_) fun h1 => ?_
 · refine Mt [vn] fun bs w hS => ?_
   have hnil : s.xs = [] := Sl.ok.empty oks (by cases h : s.A <;> simp_all)
   exact ⟨Sl.nil, rfl, hnil.symm, hS.kp, rowA_nil 86 w⟩
 refine Mlz ?_ (α := DKept) (e := 86)
 intro A1
 refine Ma ?_ (α := DKept) (L2 := s.xs) 40 (fun bs w hS => Sl.rd.src (s := s) (Sl.rd.kp hs hS.kp))
 intro A2 c2
 exact Mt [.slice A2 ([] ++ s.xs).length c2] fun bs w hS => ⟨⟨A2, c2, [] ++ s.xs⟩, rfl, by simp, hS.kp, hS.out1⟩

theorem lock_Copy {B : Nat → Prop} (s : Sl CLock) (w : World) (hs : s.rd B w) (hsm : Rds.small s) : Calls Try.prog 114 #[s.val] w fun e w' => ∃ y : Sl CLock, e = .returned y.val ∧ y.xs.map CLock.abs = s.xs.map CLock.abs ∧ Kp [] w w' ∧ Fresh w w' (locksR 94 3 y) := by
 have oks := Sl.rd.ok hs
 have ncs := Sl.ok.nc oks
 refine M0 ?_ Try.func114
 refine m_rowA (α := CLock) 94 ?_
 refine m_nores (ownL (lineR 3) []) rfl (fun w x hx => by cases hx) ?_
 refine Ml (σ := Nat × Option Addr × Nat × List CLock) (fun ⟨i, A, c, L⟩ => i ≤ s.n ∧ L.length = i ∧ L.map CLock.abs = (s.xs.take i).map CLock.abs) (fun ⟨i, A, c, L⟩ => s.n - i) (fun ⟨i, A, c, L⟩ => [ownL (lineR 3) L, rowA 94 A c (L : List CLock)]) [8, 7, 6, 3] (fun ⟨i, A, c, L⟩ => [(8, vI (i : Int)), (3, .v (.slice A L.length c))]) (fun _ => []) ?_ (⟨0, none, 0, []⟩) ⟨Nat.zero_le _, rfl, by simp⟩
 rintro ⟨i, A, c, L⟩ ⟨hi, hL, hI⟩ _ on1
 have hsn : s.n * 56 ≤ 140737488355328 := hsm.1
 refine Md ((i : Int) < (s.n : Int)) (fun h1 => ?_) fun h1 => ?_
 rotate_left
 · refine Mt [.slice A L.length c] fun bs w hS => ?_
   have hn : L.length = s.n := by omega
   exact ⟨⟨A, c, L⟩, rfl, by rw [hI, take_all (by omega)], hS.kp, hS.out⟩
 refine Mi ?_ (pA 10 11 (i : Int) i (rdk hs))
 refine Mf ?_ Try.call143 (fun bs w hS => clone_Int (s.at i).line w (Sl.rd.sub (s := s) (i := i) (Sl.rd.kp hs hS.kp) (by omega)).2 (hsm.2 i (by omega)).1)
 rintro y1 hF1
 refine M1 ?_
 refine m_f2 ?_
 refine Mal (α := CLock) 56 ([(⟨(s.at i).name, (s.at i).holder, (s.at i).fence, y1⟩ : CLock)]) ?_
 intro A3 c3
 refine Mi ?_ (pR ((i : Int) + 1))
 refine m_perm (R' := [rowA 3 y1.A y1.c (y1.xs : List Int), ownL (lineR 3) L, rowA 94 A3 c3 (L ++ [(⟨(s.at i).name, (s.at i).holder, (s.at i).fence, y1⟩ : CLock)] : List CLock)]) (by exact perm3 0 _ _ _) ?_
 refine m_join (ownL (lineR 3) (L ++ [(⟨(s.at i).name, (s.at i).holder, (s.at i).fence, y1⟩ : CLock)])) (ownL_app_fp (lineR 3) L (⟨(s.at i).name, (s.at i).holder, (s.at i).fence, y1⟩ : CLock)) (fun w => ownL_app_p (lineR 3) L (⟨(s.at i).name, (s.at i).holder, (s.at i).fence, y1⟩ : CLock) w) ?_
 exact on1 ⟨i + 1, A3, c3, L ++ [(⟨(s.at i).name, (s.at i).holder, (s.at i).fence, y1⟩ : CLock)]⟩ ⟨by omega, by rw [List.length_append]; simp [hL], map_take_snoc (by omega) hI (by first | simp [CLock.abs, hF1] | simp [CLock.abs])⟩ (by show s.n - (i + 1) < s.n - i; omega)
theorem lock_CopyS {B : Nat → Prop} (s : Sl CLock) (w : World) (hs : s.rd B w) (hsm : Rds.small s) : Calls Try.prog 114 #[s.val] w fun e w' => ∃ y : Sl CLock, e = .returned y.val ∧ y.xs.map CLock.abs = s.xs.map CLock.abs ∧ FreshS w w' y :=
  (lock_Copy s w hs hsm).mono fun e w' ⟨y, h1, h2, h3, h4⟩ => ⟨y, h1, h2, h3, h4.sub fun hp => locksR_rd hp (locks_names hs h2)⟩

theorem session_Copy {B : Nat → Prop} (s : Sl CSession) (w : World) (hs : s.rd B w) (hsm : Rds.small s) : Calls Try.prog 52 #[s.val] w fun e w' => ∃ y : Sl CSession, e = .returned y.val ∧ y.xs.map CSession.abs = s.xs.map CSession.abs ∧ Kp [] w w' ∧ Fresh w w' (sessR 81 86 y) := by
 have oks := Sl.rd.ok hs
 have ncs := Sl.ok.nc oks
 refine M0 ?_ Try.func52
 refine m_rowA (α := CSession) 81 ?_
 refine m_nores (ownL (keptR 86) []) rfl (fun w x hx => by cases hx) ?_
 refine Ml (σ := Nat × Option Addr × Nat × List CSession) (fun ⟨i, A, c, L⟩ => i ≤ s.n ∧ L.length = i ∧ L.map CSession.abs = (s.xs.take i).map CSession.abs) (fun ⟨i, A, c, L⟩ => s.n - i) (fun ⟨i, A, c, L⟩ => [ownL (keptR 86) L, rowA 81 A c (L : List CSession)]) [8, 7, 6, 3] (fun ⟨i, A, c, L⟩ => [(8, vI (i : Int)), (3, .v (.slice A L.length c))]) (fun _ => []) ?_ (⟨0, none, 0, []⟩) ⟨Nat.zero_le _, rfl, by simp⟩
 rintro ⟨i, A, c, L⟩ ⟨hi, hL, hI⟩ _ on1
 have hsn : s.n * 56 ≤ 140737488355328 := hsm.1
 refine Md ((i : Int) < (s.n : Int)) (fun h1 => ?_) fun h1 => ?_
 rotate_left
 · refine Mt [.slice A L.length c] fun bs w hS => ?_
   have hn : L.length = s.n := by omega
   exact ⟨⟨A, c, L⟩, rfl, by rw [hI, take_all (by omega)], hS.kp, hS.out⟩
 refine Mi ?_ (pA 10 11 (i : Int) i (rdk hs))
 refine Mf ?_ Try.call103 (fun bs w hS => clone_Kept (s.at i).replies w (Sl.rd.sub (s := s) (i := i) (Sl.rd.kp hs hS.kp) (by omega)) (hsm.2 i (by omega)).1)
 rintro y1 hF1
 refine M1 ?_
 refine m_f2 ?_
 refine Mal (α := CSession) 56 ([(⟨(s.at i).client, (s.at i).id, (s.at i).acked, (s.at i).last, y1⟩ : CSession)]) ?_
 intro A3 c3
 refine Mi ?_ (pR ((i : Int) + 1))
 refine m_perm (R' := [rowA 86 y1.A y1.c (y1.xs : List DKept), ownL (keptR 86) L, rowA 81 A3 c3 (L ++ [(⟨(s.at i).client, (s.at i).id, (s.at i).acked, (s.at i).last, y1⟩ : CSession)] : List CSession)]) (by exact perm3 0 _ _ _) ?_
 refine m_join (ownL (keptR 86) (L ++ [(⟨(s.at i).client, (s.at i).id, (s.at i).acked, (s.at i).last, y1⟩ : CSession)])) (ownL_app_fp (keptR 86) L (⟨(s.at i).client, (s.at i).id, (s.at i).acked, (s.at i).last, y1⟩ : CSession)) (fun w => ownL_app_p (keptR 86) L (⟨(s.at i).client, (s.at i).id, (s.at i).acked, (s.at i).last, y1⟩ : CSession) w) ?_
 exact on1 ⟨i + 1, A3, c3, L ++ [(⟨(s.at i).client, (s.at i).id, (s.at i).acked, (s.at i).last, y1⟩ : CSession)]⟩ ⟨by omega, by rw [List.length_append]; simp [hL], map_take_snoc (by omega) hI (by first | simp [CSession.abs, hF1] | simp [CSession.abs])⟩ (by show s.n - (i + 1) < s.n - i; omega)
theorem session_CopyS {B : Nat → Prop} (s : Sl CSession) (w : World) (hs : s.rd B w) (hsm : Rds.small s) : Calls Try.prog 52 #[s.val] w fun e w' => ∃ y : Sl CSession, e = .returned y.val ∧ y.xs.map CSession.abs = s.xs.map CSession.abs ∧ FreshS w w' y :=
  (session_Copy s w hs hsm).mono fun e w' ⟨y, h1, h2, h3, h4⟩ => ⟨y, h1, h2, h3, h4.sub fun hp => sessR_rd hp (sess_texts hs h2)⟩

theorem ref_SessionsCopy {B : Nat → Prop} (s : Sl CSession) (w : World) (hs : s.rd B w) (hsm : Rds.small s) : Calls Try.prog 50 #[s.val] w fun e w' => ∃ y : Sl CSession, e = .returned y.val ∧ y.xs.map CSession.abs = s.xs.map CSession.abs ∧ Kp [] w w' ∧ Fresh w w' (sessR 81 86 y) := by
 have oks := Sl.rd.ok hs
 have ncs := Sl.ok.nc oks
 refine M0 ?_ Try.func50
 refine m_rowA (α := CSession) 81 ?_
 refine m_nores (ownL (keptR 86) []) rfl (fun w x hx => by cases hx) ?_
 refine Ml (σ := Nat × Option Addr × Nat × List CSession) (fun ⟨i, A, c, L⟩ => i ≤ s.n ∧ L.length = i ∧ L.map CSession.abs = (s.xs.take i).map CSession.abs) (fun ⟨i, A, c, L⟩ => s.n - i) (fun ⟨i, A, c, L⟩ => [ownL (keptR 86) L, rowA 81 A c (L : List CSession)]) [4, 3, 0] (fun ⟨i, A, c, L⟩ => [(4, vI (i : Int)), (3, .v (.slice A L.length c))]) (fun _ => []) ?_ (⟨0, none, 0, []⟩) ⟨Nat.zero_le _, rfl, by simp⟩
 rintro ⟨i, A, c, L⟩ ⟨hi, hL, hI⟩ _ on1
 have hsn : s.n * 56 ≤ 140737488355328 := hsm.1
 refine Md ((i : Int) < (s.n : Int)) (fun h1 => ?_) fun h1 => ?_
 rotate_left
 · refine Mt [.slice A L.length c] fun bs w hS => ?_
   have hn : L.length = s.n := by omega
   exact ⟨⟨A, c, L⟩, rfl, by rw [hI, take_all (by omega)], hS.kp, hS.out⟩
 refine Mi ?_ (pA 14 15 (i : Int) i (rdk hs))
 refine m_rowA (α := DKept) 86 ?_
 refine Ma ?_ (α := DKept) (L2 := (s.at i).replies.xs) 40 (fun bs w hS => Sl.rd.src (s := (s.at i).replies) (Sl.rd.sub (s := s) (i := i) (Sl.rd.kp hs hS.kp) (by omega))) (h63 := (by first | omega | (simp only [List.length_nil, List.length_cons, List.length_append]; omega) | (have hq : _ * (40 : Nat) ≤ 140737488355328 := (hsm.2 i (by omega)).1; simp only [Sl.n, List.length_nil] at hq ⊢; omega))) (hb := (by first | omega | (simp only [List.length_nil, List.length_cons, List.length_append]; omega) | (have hq : _ * (40 : Nat) ≤ 140737488355328 := (hsm.2 i (by omega)).1; simp only [Sl.n, List.length_nil] at hq ⊢; omega)))
 intro A1 c1
 refine M1 ?_
 refine m_f2 ?_
 refine Mal (α := CSession) 56 ([(⟨(s.at i).client, (s.at i).id, (s.at i).acked, (s.at i).last, ⟨A1, c1, [] ++ (s.at i).replies.xs⟩⟩ : CSession)]) ?_
 intro A2 c2
 refine Mi ?_ (pR ((i : Int) + 1))
 refine m_perm (R' := [rowA 86 A1 c1 ([] ++ (s.at i).replies.xs : List DKept), ownL (keptR 86) L, rowA 81 A2 c2 (L ++ [(⟨(s.at i).client, (s.at i).id, (s.at i).acked, (s.at i).last, ⟨A1, c1, [] ++ (s.at i).replies.xs⟩⟩ : CSession)] : List CSession)]) (by exact perm3 0 _ _ _) ?_
 refine m_join (ownL (keptR 86) (L ++ [(⟨(s.at i).client, (s.at i).id, (s.at i).acked, (s.at i).last, ⟨A1, c1, [] ++ (s.at i).replies.xs⟩⟩ : CSession)])) (ownL_app_fp (keptR 86) L (⟨(s.at i).client, (s.at i).id, (s.at i).acked, (s.at i).last, ⟨A1, c1, [] ++ (s.at i).replies.xs⟩⟩ : CSession)) (fun w => ownL_app_p (keptR 86) L (⟨(s.at i).client, (s.at i).id, (s.at i).acked, (s.at i).last, ⟨A1, c1, [] ++ (s.at i).replies.xs⟩⟩ : CSession) w) ?_
 exact on1 ⟨i + 1, A2, c2, L ++ [(⟨(s.at i).client, (s.at i).id, (s.at i).acked, (s.at i).last, ⟨A1, c1, [] ++ (s.at i).replies.xs⟩⟩ : CSession)]⟩ ⟨by omega, by rw [List.length_append]; simp [hL], map_take_snoc (by omega) hI (by first | simp [CSession.abs, hF1] | simp [CSession.abs])⟩ (by show s.n - (i + 1) < s.n - i; omega)
theorem ref_SessionsCopyS {B : Nat → Prop} (s : Sl CSession) (w : World) (hs : s.rd B w) (hsm : Rds.small s) : Calls Try.prog 50 #[s.val] w fun e w' => ∃ y : Sl CSession, e = .returned y.val ∧ y.xs.map CSession.abs = s.xs.map CSession.abs ∧ FreshS w w' y :=
  (ref_SessionsCopy s w hs hsm).mono fun e w' ⟨y, h1, h2, h3, h4⟩ => ⟨y, h1, h2, h3, h4.sub fun hp => sessR_rd hp (sess_texts hs h2)⟩

theorem ref_LocksCopy {B : Nat → Prop} (s : Sl CLock) (w : World) (hs : s.rd B w) (hsm : Rds.small s) : Calls Try.prog 22 #[s.val] w fun e w' => ∃ y : Sl CLock, e = .returned y.val ∧ y.xs.map CLock.abs = s.xs.map CLock.abs ∧ Kp [] w w' ∧ Fresh w w' (locksR 94 3 y) := by
 have oks := Sl.rd.ok hs
 have ncs := Sl.ok.nc oks
 refine M0 ?_ Try.func22
 refine m_rowA (α := CLock) 94 ?_
 refine m_nores (ownL (lineR 3) []) rfl (fun w x hx => by cases hx) ?_
 refine Ml (σ := Nat × Option Addr × Nat × List CLock) (fun ⟨i, A, c, L⟩ => i ≤ s.n ∧ L.length = i ∧ L.map CLock.abs = (s.xs.take i).map CLock.abs) (fun ⟨i, A, c, L⟩ => s.n - i) (fun ⟨i, A, c, L⟩ => [ownL (lineR 3) L, rowA 94 A c (L : List CLock)]) [4, 3, 0] (fun ⟨i, A, c, L⟩ => [(4, vI (i : Int)), (3, .v (.slice A L.length c))]) (fun _ => []) ?_ (⟨0, none, 0, []⟩) ⟨Nat.zero_le _, rfl, by simp⟩
 rintro ⟨i, A, c, L⟩ ⟨hi, hL, hI⟩ _ on1
 have hsn : s.n * 56 ≤ 140737488355328 := hsm.1
 refine Md ((i : Int) < (s.n : Int)) (fun h1 => ?_) fun h1 => ?_
 rotate_left
 · refine Mt [.slice A L.length c] fun bs w hS => ?_
   have hn : L.length = s.n := by omega
   exact ⟨⟨A, c, L⟩, rfl, by rw [hI, take_all (by omega)], hS.kp, hS.out⟩
 refine Mdr 24 ?_ Try_mixed
 refine Mih ?_ (pc (pI 14 (i : Int) i (rdk hs)) (pc (pF 16 i 0 1 (rdk hs)) (pc (pI 19 (i : Int) i (rdk hs)) (pc (pF 21 i 1 1 (rdk hs)) (pc (pI 24 (i : Int) i (rdk hs)) (pc (pF 26 i 2 1 (rdk hs)) (pc (pI 29 (i : Int) i (rdk hs)) (pF 31 i 3 1 (rdk hs)))))))))
 refine m_rowA (α := Int) 3 ?_
 refine Ma ?_ (α := Int) (L2 := (s.at i).line.xs) 8 (fun bs w hS => Sl.rd.src (s := (s.at i).line) (Sl.rd.sub (s := s) (i := i) (Sl.rd.kp hs hS.kp) (by omega)).2) (h63 := (by first | omega | (simp only [List.length_nil, List.length_cons, List.length_append]; omega) | (have hq : _ * (8 : Nat) ≤ 140737488355328 := (hsm.2 i (by omega)).1; simp only [Sl.n, List.length_nil] at hq ⊢; omega))) (hb := (by first | omega | (simp only [List.length_nil, List.length_cons, List.length_append]; omega) | (have hq : _ * (8 : Nat) ≤ 140737488355328 := (hsm.2 i (by omega)).1; simp only [Sl.n, List.length_nil] at hq ⊢; omega)))
 intro A1 c1
 refine M1 ?_ (hR := (.cons _ (List.Sublist.refl _)))
 refine Mz ?_
 refine m_f2 ?_
 refine Mal (α := CLock) 56 ([(⟨(s.at i).name, (s.at i).holder, (s.at i).fence, ⟨A1, c1, [] ++ (s.at i).line.xs⟩⟩ : CLock)]) ?_
 intro A2 c2
 refine Mi ?_ (pR ((i : Int) + 1))
 refine m_perm (R' := [rowA 3 A1 c1 ([] ++ (s.at i).line.xs : List Int), ownL (lineR 3) L, rowA 94 A2 c2 (L ++ [(⟨(s.at i).name, (s.at i).holder, (s.at i).fence, ⟨A1, c1, [] ++ (s.at i).line.xs⟩⟩ : CLock)] : List CLock)]) (by exact perm3 0 _ _ _) ?_
 refine m_join (ownL (lineR 3) (L ++ [(⟨(s.at i).name, (s.at i).holder, (s.at i).fence, ⟨A1, c1, [] ++ (s.at i).line.xs⟩⟩ : CLock)])) (ownL_app_fp (lineR 3) L (⟨(s.at i).name, (s.at i).holder, (s.at i).fence, ⟨A1, c1, [] ++ (s.at i).line.xs⟩⟩ : CLock)) (fun w => ownL_app_p (lineR 3) L (⟨(s.at i).name, (s.at i).holder, (s.at i).fence, ⟨A1, c1, [] ++ (s.at i).line.xs⟩⟩ : CLock) w) ?_
 exact on1 ⟨i + 1, A2, c2, L ++ [(⟨(s.at i).name, (s.at i).holder, (s.at i).fence, ⟨A1, c1, [] ++ (s.at i).line.xs⟩⟩ : CLock)]⟩ ⟨by omega, by rw [List.length_append]; simp [hL], map_take_snoc (by omega) hI (by first | simp [CLock.abs, hF1] | simp [CLock.abs])⟩ (by show s.n - (i + 1) < s.n - i; omega)
theorem ref_LocksCopyS {B : Nat → Prop} (s : Sl CLock) (w : World) (hs : s.rd B w) (hsm : Rds.small s) : Calls Try.prog 22 #[s.val] w fun e w' => ∃ y : Sl CLock, e = .returned y.val ∧ y.xs.map CLock.abs = s.xs.map CLock.abs ∧ FreshS w w' y :=
  (ref_LocksCopy s w hs hsm).mono fun e w' ⟨y, h1, h2, h3, h4⟩ => ⟨y, h1, h2, h3, h4.sub fun hp => locksR_rd hp (locks_names hs h2)⟩

theorem same_ints {B B' : Nat → Prop} (a b : Sl Int) (w : World) (ha : a.rd B w) (hb : b.rd B' w) (he : a.xs = b.xs) : Calls Try.prog 70 #[a.val, b.val] w fun e w' => e = .returned (vb true) ∧ Kp [] w w' := by
 have oka := Sl.rd.ok ha
 have okb := Sl.rd.ok hb
 have hn := xs_n he
 have nca := Sl.ok.nc oka
 refine M0 ?_ Try.func70
 refine Mdn ((a.n : Int) = (b.n : Int)) (fun h1 => ?_) fun h1 => ?_
 rotate_left
 · exfalso; first | omega | exact h1 (xs_at he i)
 refine Ml (σ := Nat) (fun i => True) (fun i => a.n - i) (fun _ => []) [5, 0, 1] (fun i => [(5, vI (i : Int))]) (fun _ => []) ?_ 0 trivial
 rintro i _ _ on1
 have hat := xs_at he i
 refine Md ((i : Int) < (a.n : Int)) (fun h2 => ?_) fun h2 => ?_
 rotate_left
 · exact Mt [vb true] fun bs w hS => ⟨rfl, hS.kp⟩
 refine Mda 9 [] [] [] Try_mixed ?_
 refine Mih ?_ (pc (pA 19 20 (i : Int) i (rdk ha)) (pA 23 24 (i : Int) i (rdk hb)))
 refine Mdn ((a.at i) = (b.at i)) (fun h3 => ?_) fun h3 => ?_
 rotate_left
 · exfalso; first | omega | exact h3 (xs_at he i)
 refine Mi ?_ (pR ((i : Int) + 1))
 exact on1 (i + 1) trivial (by omega)

theorem same_locks {B B' : Nat → Prop} (a b : Sl CLock) (w : World) (ha : a.rd B w) (hb : b.rd B' w) (he : a.xs.map CLock.abs = b.xs.map CLock.abs) : Calls Try.prog 25 #[a.val, b.val] w fun e w' => e = .returned (vb true) ∧ Kp [] w w' := by
 have oka := Sl.rd.ok ha
 have okb := Sl.rd.ok hb
 have hn := map_n he
 have nca := Sl.ok.nc oka
 refine M0 ?_ Try.func25
 refine Mdn ((a.n : Int) = (b.n : Int)) (fun h1 => ?_) fun h1 => ?_
 rotate_left
 · exfalso; first | omega | exact h1 q1
 refine Ml (σ := Nat) (fun i => True) (fun i => a.n - i) (fun _ => []) [5, 0, 1] (fun i => [(5, vI (i : Int))]) (fun _ => []) ?_ 0 trivial
 rintro i _ _ on1
 have hat := map_at (f := CLock.abs) (g := CLock.abs) rfl he i
 have q1 : (a.at i).name = (b.at i).name := congrArg DLock.name hat
 have q2 : (a.at i).holder = (b.at i).holder := congrArg DLock.holder hat
 have q3 : (a.at i).fence = (b.at i).fence := congrArg DLock.fence hat
 have q4 : (a.at i).line.xs = (b.at i).line.xs := congrArg DLock.line hat
 refine Md ((i : Int) < (a.n : Int)) (fun h2 => ?_) fun h2 => ?_
 rotate_left
 · exact Mt [vb true] fun bs w hS => ⟨rfl, hS.kp⟩
 refine Mda 51 [] [] [] Try_mixed ?_
 refine Mih ?_ (pc (pI 19 (i : Int) i (rdk ha)) (pc (pF 21 i 0 1 (rdk ha)) (pc (pI 24 (i : Int) i (rdk hb)) (pF 26 i 0 1 (rdk hb)))))
 refine Mdn ((a.at i).name = (b.at i).name) (fun h3 => ?_) fun h3 => ?_
 rotate_left
 · exfalso; first | omega | exact h3 q1
 refine Mih ?_ (pc (pI 31 (i : Int) i (rdk ha)) (pc (pF 33 i 1 1 (rdk ha)) (pc (pI 36 (i : Int) i (rdk hb)) (pF 38 i 1 1 (rdk hb)))))
 refine Mdn ((a.at i).holder = (b.at i).holder) (fun h4 => ?_) fun h4 => ?_
 rotate_left
 · exfalso; first | omega | exact h4 q1
 refine Mih ?_ (pc (pI 44 (i : Int) i (rdk ha)) (pc (pF 46 i 2 1 (rdk ha)) (pc (pI 49 (i : Int) i (rdk hb)) (pF 51 i 2 1 (rdk hb)))))
 refine Mdn ((a.at i).fence = (b.at i).fence) (fun h5 => ?_) fun h5 => ?_
 rotate_left
 · exfalso; first | omega | exact h5 q1
 refine Mih ?_ (pc (pI 57 (i : Int) i (rdk ha)) (pc (pF 59 i 3 1 (rdk ha)) (pc (pI 62 (i : Int) i (rdk hb)) (pF 64 i 3 1 (rdk hb)))))
 refine Mp ?_ Try.call70 (fun bs w hS => same_ints _ _ w (Sl.rd.sub (s := a) (i := i) (Sl.rd.kp ha hS.kp) (by omega)).2 (Sl.rd.sub (s := b) (i := i) (Sl.rd.kp hb hS.kp) (by omega)).2 q4)
 refine Mq 67 false ?_ rfl
 refine Mi ?_ (pR ((i : Int) + 1))
 exact on1 (i + 1) trivial (by omega)

theorem same_sessions {B B' : Nat → Prop} (a b : Sl CSession) (w : World) (ha : a.rd B w) (hb : b.rd B' w) (he : a.xs.map CSession.abs = b.xs.map CSession.abs) : Calls Try.prog 19 #[a.val, b.val] w fun e w' => e = .returned (vb true) ∧ Kp [] w w' := by
 have oka := Sl.rd.ok ha
 have okb := Sl.rd.ok hb
 have hn := map_n he
 have nca := Sl.ok.nc oka
 refine M0 ?_ Try.func19
 refine Mdn ((a.n : Int) = (b.n : Int)) (fun h1 => ?_) fun h1 => ?_
 rotate_left
 · exfalso; first | omega | (rw [hbt] at h1; simp at h1)
 refine Ml (σ := Nat) (fun i => True) (fun i => a.n - i) (fun _ => []) [5, 0, 1] (fun i => [(5, vI (i : Int))]) (fun _ => []) ?_ 0 trivial
 rintro i _ _ on1
 have hat := map_at (f := CSession.abs) (g := CSession.abs) rfl he i
 have q0 : (a.at i).client = (b.at i).client := congrArg DSession.client hat
 have q1 : (a.at i).id = (b.at i).id := congrArg DSession.id hat
 have q2 : (a.at i).acked = (b.at i).acked := congrArg DSession.acked hat
 have q3 : (a.at i).last = (b.at i).last := congrArg DSession.last hat
 have q4 : (a.at i).replies.xs = (b.at i).replies.xs := congrArg DSession.replies hat
 have q5 := xs_n q4
 refine Md ((i : Int) < (a.n : Int)) (fun h2 => ?_) fun h2 => ?_
 rotate_left
 · exact Mt [vb true] fun bs w hS => ⟨rfl, hS.kp⟩
 refine Mi ?_ (pc (pA 22 23 (i : Int) i (rdk ha)) (pA 26 27 (i : Int) i (rdk hb)))
 refine Mdn ((a.at i).client = (b.at i).client) (fun h3 => ?_) fun h3 => ?_
 rotate_left
 · exfalso; first | omega | (rw [hbt] at h3; simp at h3)
 refine Mdn ((a.at i).id = (b.at i).id) (fun h4 => ?_) fun h4 => ?_
 rotate_left
 · exfalso; first | omega | (rw [hbt] at h4; simp at h4)
 refine Mdn ((a.at i).acked = (b.at i).acked) (fun h5 => ?_) fun h5 => ?_
 rotate_left
 · exfalso; first | omega | (rw [hbt] at h5; simp at h5)
 refine Mdn ((a.at i).last = (b.at i).last) (fun h6 => ?_) fun h6 => ?_
 rotate_left
 · exfalso; first | omega | (rw [hbt] at h6; simp at h6)
 refine Mdn ((((a.at i).replies.n : Nat) : Int) = (((b.at i).replies.n : Nat) : Int)) (fun h7 => ?_) fun h7 => ?_
 rotate_left
 · exfalso; first | omega | (rw [hbt] at h7; simp at h7)
 refine Ml (σ := Nat) (fun j => True) (fun j => (a.at i).replies.n - j) (fun _ => []) [8, 7, 6, 5, 0, 1] (fun j => [(8, vI (j : Int))]) (fun _ => []) ?_ 0 trivial
 rintro j _ _ on2
 have hbt := xs_at q4 j
 have ncr := Sl.ok.nc (Sl.ok.at oka (show i < a.n by omega))
 refine Md ((j : Int) < (((a.at i).replies.n : Nat) : Int)) (fun h8 => ?_) fun h8 => ?_
 rotate_left
 · refine Mi ?_ (pR ((i : Int) + 1))
   exact on1 (i + 1) trivial (by omega)
 refine Mda 11 [] [] [] Try_mixed ?_
 refine Mih ?_ (pc (pA 73 74 (j : Int) j (s := (a.at i).replies) (fun w hk hr => (Sl.rd.sub (s := a) (i := i) (Sl.rd.kp ha hk) (by omega)))) (pc (pA 78 79 (j : Int) j (s := (b.at i).replies) (fun w hk hr => (Sl.rd.sub (s := b) (i := i) (Sl.rd.kp hb hk) (by omega)))) (pG [(80, .val (vb (!((decide (((a.at i).replies.at j).seq = ((b.at i).replies.at j).seq)) && (((decide (((a.at i).replies.at j).reply.code = ((b.at i).replies.at j).reply.code)) && ((decide (((a.at i).replies.at j).reply.n = ((b.at i).replies.at j).reply.n)) && ((decide (((a.at i).replies.at j).reply.text = ((b.at i).replies.at j).reply.text)) && true))) && true)))))] (oc ((neq_agg (by kernel_rfl) (by kernel_rfl)) : ∀ w, (do eqGuard .neq 86 (.tmp 74) (.tmp 79) ((a.at i).replies.at j).val ((b.at i).replies.at j).val; binOp .neq 86 ((a.at i).replies.at j).val ((b.at i).replies.at j).val : Sem Value).run Try.prog w = .ok (vb (!((decide (((a.at i).replies.at j).seq = ((b.at i).replies.at j).seq)) && (((decide (((a.at i).replies.at j).reply.code = ((b.at i).replies.at j).reply.code)) && ((decide (((a.at i).replies.at j).reply.n = ((b.at i).replies.at j).reply.n)) && ((decide (((a.at i).replies.at j).reply.text = ((b.at i).replies.at j).reply.text)) && true))) && true)))) w) on))))
 refine Mbn ((decide (((a.at i).replies.at j).seq = ((b.at i).replies.at j).seq)) && (((decide (((a.at i).replies.at j).reply.code = ((b.at i).replies.at j).reply.code)) && ((decide (((a.at i).replies.at j).reply.n = ((b.at i).replies.at j).reply.n)) && ((decide (((a.at i).replies.at j).reply.text = ((b.at i).replies.at j).reply.text)) && true))) && true)) (fun h9 => ?_) fun h9 => ?_
 rotate_left
 · exfalso; first | omega | (rw [hbt] at h9; simp at h9)
 refine Mi ?_ (pR ((j : Int) + 1))
 exact on2 (j + 1) trivial (by omega)

theorem log_CopyR {B : Nat → Prop} (x : CLog) (w : World) (hx : Rds.sub B w x) (hb : x.entries.n * 16 ≤ 140737488355328) : Calls Try.prog 78 #[x.val] w fun e w' => ∃ y : Sl ByteArray, e = .returned (.agg #[vi x.base, y.val]) ∧ y.xs = x.entries.xs ∧ Kp [] w w' ∧ Fresh w w' (rowA 9 y.A y.c y.xs) := by
 have okx := Rds.okof hx
 have ncx := Sl.ok.nc okx
 have hnx : x.entries.n = x.entries.xs.length := rfl
 have hla : mLast x.abs = x.base + (x.entries.n : Int) := rfl
 have q1 : x.abs.base = x.base := rfl
 have q2 : x.abs.entries = x.entries.xs := rfl
 have hat : ∀ q, x.entries.xs.getD q default = x.entries.at q := fun _ => rfl
 refine M0 ?_ Try.func78
 refine Mda 6 [] [] [] Try_mixed ?_
 refine Mf ?_ Try.call118 (fun bs w hS => clone_ByteArray x.entries w (Rds.kp hx hS.kp) hb)
 rintro y1 hF1
 exact Mt [.agg #[vi x.base, y1.val]] fun bs w hS => ⟨y1, rfl, hF1, hS.kp, hS.out1⟩
theorem log_Copy {B : Nat → Prop} (x : CLog) (w : World) (hx : Rds.sub B w x) (hsm : Rds.small x) : Calls Try.prog 78 #[x.val] w fun e w' => ∃ y : CLog, e = .returned (y.val) ∧ y.abs = x.abs ∧ FreshS w w' y :=
  (log_CopyR x w hx hsm.1).mono fun e w' ⟨y, h1, h2, h3, h4⟩ => ⟨⟨x.base, y⟩, h1, by simp [CLog.abs, h2], h3, h4.sub fun hp => Rr hp (fun b hb => hb) fun z hz => Sl.rd.mem (s := x.entries) hx z (h2 ▸ hz)⟩

theorem ref_LogCopyR {B : Nat → Prop} (x : CLog) (w : World) (hx : Rds.sub B w x) (hb : x.entries.n * 16 ≤ 140737488355328) : Calls Try.prog 28 #[x.val] w fun e w' => ∃ y : Sl ByteArray, e = .returned (.agg #[vi x.base, y.val]) ∧ y.xs = x.entries.xs ∧ Kp [] w w' ∧ Fresh w w' (rowA 9 y.A y.c y.xs) := by
 have okx := Rds.okof hx
 have ncx := Sl.ok.nc okx
 have hnx : x.entries.n = x.entries.xs.length := rfl
 have hla : mLast x.abs = x.base + (x.entries.n : Int) := rfl
 have q1 : x.abs.base = x.base := rfl
 have q2 : x.abs.entries = x.entries.xs := rfl
 have hat : ∀ q, x.entries.xs.getD q default = x.entries.at q := fun _ => rfl
 refine M0 ?_ Try.func28
 refine Mda 6 [] [] [] Try_mixed ?_
 refine m_rowA (α := ByteArray) 9 ?_
 refine Ma ?_ (α := ByteArray) (L2 := x.entries.xs) 16 (fun bs w hS => Sl.rd.src (s := x.entries) (Rds.kp hx hS.kp))
 intro A1 c1
 exact Mt [.agg #[vi x.base, .slice A1 ([] ++ x.entries.xs).length c1]] fun bs w hS => ⟨⟨A1, c1, [] ++ x.entries.xs⟩, rfl, by simp, hS.kp, hS.out1⟩
theorem ref_LogCopy {B : Nat → Prop} (x : CLog) (w : World) (hx : Rds.sub B w x) (hsm : Rds.small x) : Calls Try.prog 28 #[x.val] w fun e w' => ∃ y : CLog, e = .returned (y.val) ∧ y.abs = x.abs ∧ FreshS w w' y :=
  (ref_LogCopyR x w hx hsm.1).mono fun e w' ⟨y, h1, h2, h3, h4⟩ => ⟨⟨x.base, y⟩, h1, by simp [CLog.abs, h2], h3, h4.sub fun hp => Rr hp (fun b hb => hb) fun z hz => Sl.rd.mem (s := x.entries) hx z (h2 ▸ hz)⟩

theorem snap_number (q : RQ) (b : Nat) (w : World) (hb : (blkR b 165 [vs q.1, vi q.2]).p w) (hz : q.1.size ≤ 9223372036854775807) : Calls Try.prog 149 #[.pointer (some (⟨b, 0, none⟩ : Addr))] w fun e w' => ∃ _ : Unit, e = .returned (vi (rNum q).1) ∧ True ∧ Kp [b] w w' ∧ (blkR b 165 [vs (rNum q).2.1, vi (rNum q).2.2]).p w' := by
 have hbm := mRead_bd q.1
 refine Mj ?_ Try.func149 (WS.start1 w _ hb (by simp [blkR]) (blkR_lt hb))
 refine Mi ?_ (pBk 9 1 1 i0)
 refine Mdn (q.2 = 0) (fun h1 => ?_) fun h1 => ?_
 rotate_left
 · refine Mt [vi 0] fun bs w hS => ?_
   have hm : rNum q = (0, q) := by grind [rNum]
   rw [hm]
   exact ⟨(), rfl, trivial, hS.kp, hS.res _ i0⟩
 refine Mi ?_ (pBk 15 0 1 i0)
 refine Mp ?_ Try.call145 (fun bs w hS => codec_ReadNumber _ w hz)
 refine Msb 0 [vs (mRead q.1).2.1, vi q.2] ?_
 refine Msb 1 [vs (mRead q.1).2.1, vi (mRead q.1).2.2] ?_
 refine Mt [vi (mRead q.1).1] fun bs w hS => ?_
 have hm : rNum q = ((mRead q.1).1, ((mRead q.1).2.1, (mRead q.1).2.2)) := by grind [rNum]
 rw [hm]
 exact ⟨(), rfl, trivial, hS.kp, hS.res _ i0⟩

theorem snap_text_ (q : RQ) (b : Nat) (w : World) (hb : (blkR b 165 [vs q.1, vi q.2]).p w) (hz : q.1.size ≤ 9223372036854775807) : Calls Try.prog 152 #[.pointer (some (⟨b, 0, none⟩ : Addr))] w fun e w' => ∃ _ : Unit, e = .returned (vs (rTxt q).1) ∧ True ∧ Kp [b] w w' ∧ (blkR b 165 [vs (rTxt q).2.1, vi (rTxt q).2.2]).p w' := by
 refine Mj ?_ Try.func152 (WS.start1 w _ hb (by simp [blkR]) (blkR_lt hb))
 refine Mi ?_ (pBk 9 1 1 i0)
 refine Mdn (q.2 = 0) (fun h1 => ?_) fun h1 => ?_
 rotate_left
 · refine Mt [ve] fun bs w hS => ?_
   have hm : rTxt q = (emp, q) := by grind [rTxt]
   rw [hm]
   exact ⟨(), rfl, trivial, hS.kp, hS.res _ i0⟩
 refine Mi ?_ (pBk 15 0 1 i0)
 refine Mp ?_ Try.call146 (fun bs w hS => codec_ReadText _ w hz)
 refine Msb 0 [vs (mTell q.1).2.1, vi q.2] ?_
 refine Msb 1 [vs (mTell q.1).2.1, vi (mTell q.1).2.2] ?_
 refine Mt [vs (mTell q.1).1] fun bs w hS => ?_
 have hm : rTxt q = ((mTell q.1).1, ((mTell q.1).2.1, (mTell q.1).2.2)) := by grind [rTxt]
 rw [hm]
 exact ⟨(), rfl, trivial, hS.kp, hS.res _ i0⟩

theorem snap_count (q : RQ) (m : Int) (b : Nat) (w : World) (hb : (blkR b 165 [vs q.1, vi q.2]).p w) (hz : q.1.size ≤ 9223372036854775807) : Calls Try.prog 150 #[.pointer (some (⟨b, 0, none⟩ : Addr)), vi m] w fun e w' => ∃ _ : Unit, e = .returned (vi (rMany m q).1) ∧ True ∧ Kp [b] w w' ∧ (blkR b 165 [vs (rMany m q).2.1, vi (rMany m q).2.2]).p w' := by
 refine Mj ?_ Try.func150 (WS.start1 w _ hb (by simp [blkR]) (blkR_lt hb))
 refine Mtk ?_ Try.call149 (fun bs w hS => snap_number q b w (hS.res _ i0) hz)
 rintro y _
 refine Mi ?_ (pBk 11 1 1 i0)
 refine Md ((rNum q).2.2 = 0) (fun h1 => ?_) fun h1 => ?_
 rotate_left
 · refine Mi ?_ (pBk 24 1 1 i0)
   refine My false true ?_ (df h1)
   refine Mt [vi 0] fun bs w hS => ?_
   have hm : rMany m q = (0, (rNum q).2) := by grind [rMany]
   rw [hm]
   exact ⟨(), rfl, trivial, hS.kp, hS.res _ i0⟩
 refine Md (m < (rNum q).1) (fun h2 => ?_) fun h2 => ?_
 rotate_left
 · refine Mi ?_ (pBk 24 1 1 i0)
   refine My true true ?_ (dt h1)
   refine Mt [vi (rNum q).1] fun bs w hS => ?_
   have hm : rMany m q = rNum q := by grind [rMany]
   rw [hm]
   exact ⟨(), rfl, trivial, hS.kp, hS.res _ i0⟩
 refine Msb 1 [vs (rNum q).2.1, vi 1] ?_
 refine Mi ?_ (pBk 24 1 1 i0)
 refine Mq 25 true ?_ rfl
 refine Mt [vi 0] fun bs w hS => ?_
 have hm : rMany m q = (0, ((rNum q).2.1, 1)) := by grind [rMany]
 rw [hm]
 exact ⟨(), rfl, trivial, hS.kp, hS.res _ i0⟩

theorem ear_num (q : RQ) (b : Nat) (w : World) (hb : (blkR b 159 [vs q.1, vi q.2]).p w) (hz : q.1.size ≤ 9223372036854775807) : Calls Try.prog 128 #[.pointer (some (⟨b, 0, none⟩ : Addr))] w fun e w' => ∃ _ : Unit, e = .returned (vi (rNum q).1) ∧ True ∧ Kp [b] w w' ∧ (blkR b 159 [vs (rNum q).2.1, vi (rNum q).2.2]).p w' := by
 have hbm := mRead_bd q.1
 refine Mj ?_ Try.func128 (WS.start1 w _ hb (by simp [blkR]) (blkR_lt hb))
 refine Mi ?_ (pBk 9 1 1 i0)
 refine Mdn (q.2 = 0) (fun h1 => ?_) fun h1 => ?_
 rotate_left
 · refine Mt [vi 0] fun bs w hS => ?_
   have hm : rNum q = (0, q) := by grind [rNum]
   rw [hm]
   exact ⟨(), rfl, trivial, hS.kp, hS.res _ i0⟩
 refine Mi ?_ (pBk 15 0 1 i0)
 refine Mp ?_ Try.call121 (fun bs w hS => ref_NumberOf _ w hz)
 refine Msb 0 [vs (mRead q.1).2.1, vi q.2] ?_
 refine Msb 1 [vs (mRead q.1).2.1, vi (mRead q.1).2.2] ?_
 refine Mt [vi (mRead q.1).1] fun bs w hS => ?_
 have hm : rNum q = ((mRead q.1).1, ((mRead q.1).2.1, (mRead q.1).2.2)) := by grind [rNum]
 rw [hm]
 exact ⟨(), rfl, trivial, hS.kp, hS.res _ i0⟩

theorem ear_str (q : RQ) (b : Nat) (w : World) (hb : (blkR b 159 [vs q.1, vi q.2]).p w) (hz : q.1.size ≤ 9223372036854775807) : Calls Try.prog 130 #[.pointer (some (⟨b, 0, none⟩ : Addr))] w fun e w' => ∃ _ : Unit, e = .returned (vs (rTxt q).1) ∧ True ∧ Kp [b] w w' ∧ (blkR b 159 [vs (rTxt q).2.1, vi (rTxt q).2.2]).p w' := by
 refine Mj ?_ Try.func130 (WS.start1 w _ hb (by simp [blkR]) (blkR_lt hb))
 refine Mi ?_ (pBk 9 1 1 i0)
 refine Mdn (q.2 = 0) (fun h1 => ?_) fun h1 => ?_
 rotate_left
 · refine Mt [ve] fun bs w hS => ?_
   have hm : rTxt q = (emp, q) := by grind [rTxt]
   rw [hm]
   exact ⟨(), rfl, trivial, hS.kp, hS.res _ i0⟩
 refine Mi ?_ (pBk 15 0 1 i0)
 refine Mp ?_ Try.call122 (fun bs w hS => ref_TextOf _ w hz)
 refine Msb 0 [vs (mTell q.1).2.1, vi q.2] ?_
 refine Msb 1 [vs (mTell q.1).2.1, vi (mTell q.1).2.2] ?_
 refine Mt [vs (mTell q.1).1] fun bs w hS => ?_
 have hm : rTxt q = ((mTell q.1).1, ((mTell q.1).2.1, (mTell q.1).2.2)) := by grind [rTxt]
 rw [hm]
 exact ⟨(), rfl, trivial, hS.kp, hS.res _ i0⟩

theorem ear_many (q : RQ) (m : Int) (b : Nat) (w : World) (hb : (blkR b 159 [vs q.1, vi q.2]).p w) (hz : q.1.size ≤ 9223372036854775807) : Calls Try.prog 129 #[.pointer (some (⟨b, 0, none⟩ : Addr)), vi m] w fun e w' => ∃ _ : Unit, e = .returned (vi (rMany m q).1) ∧ True ∧ Kp [b] w w' ∧ (blkR b 159 [vs (rMany m q).2.1, vi (rMany m q).2.2]).p w' := by
 refine Mj ?_ Try.func129 (WS.start1 w _ hb (by simp [blkR]) (blkR_lt hb))
 refine Mtk ?_ Try.call128 (fun bs w hS => ear_num q b w (hS.res _ i0) hz)
 rintro y _
 refine Mi ?_ (pBk 11 1 1 i0)
 refine Md ((rNum q).2.2 = 0) (fun h1 => ?_) fun h1 => ?_
 rotate_left
 · refine Mi ?_ (pBk 24 1 1 i0)
   refine My false true ?_ (df h1)
   refine Mt [vi 0] fun bs w hS => ?_
   have hm : rMany m q = (0, (rNum q).2) := by grind [rMany]
   rw [hm]
   exact ⟨(), rfl, trivial, hS.kp, hS.res _ i0⟩
 refine Md (m < (rNum q).1) (fun h2 => ?_) fun h2 => ?_
 rotate_left
 · refine Mi ?_ (pBk 24 1 1 i0)
   refine My true true ?_ (dt h1)
   refine Mt [vi (rNum q).1] fun bs w hS => ?_
   have hm : rMany m q = rNum q := by grind [rMany]
   rw [hm]
   exact ⟨(), rfl, trivial, hS.kp, hS.res _ i0⟩
 refine Msb 1 [vs (rNum q).2.1, vi 1] ?_
 refine Mi ?_ (pBk 24 1 1 i0)
 refine Mq 25 true ?_ rfl
 refine Mt [vi 0] fun bs w hS => ?_
 have hm : rMany m q = (0, ((rNum q).2.1, 1)) := by grind [rMany]
 rw [hm]
 exact ⟨(), rfl, trivial, hS.kp, hS.res _ i0⟩

theorem snap_lock (q : RQ) (b : Nat) (w : World) (hb : (blkR b 165 [vs q.1, vi q.2]).p w) (hz : q.1.size ≤ 9223372036854775807) : Calls Try.prog 151 #[.pointer (some (⟨b, 0, none⟩ : Addr))] w fun e w' => ∃ y : CLock, e = .returned y.val ∧ (y.abs = (rLock q).1 ∧ y.name.size ≤ 9223372036854775807) ∧ TurnedN (blkR b 165 [vs q.1, vi q.2]) w w' (blkR b 165 [vs (rLock q).2.1, vi (rLock q).2.2]) (lineR 3 y) := by
 refine Mj ?_ Try.func151 (WS.start1 w _ hb (by simp [blkR]) (blkR_lt hb))
 refine Mtk ?_ Try.call152 (fun bs w hS => snap_text_ q b w (hS.res _ i0) hz)
 rintro y _
 refine Mtk ?_ Try.call149 (fun bs w hS => snap_number (rTxt q).2 b w (hS.res _ i0) (rTxt_bd q _ hz).1)
 rintro y _
 refine Mtk ?_ Try.call149 (fun bs w hS => snap_number (rNum (rTxt q).2).2 b w (hS.res _ i0) (rNum_bd (rTxt q).2 _ (rTxt_bd q _ hz).1))
 rintro y _
 refine Mtk ?_ Try.call150 (fun bs w hS => snap_count (rNum (rNum (rTxt q).2).2).2 3 b w (hS.res _ i0) (rNum_bd (rNum (rTxt q).2).2 _ (rNum_bd (rTxt q).2 _ (rTxt_bd q _ hz).1)))
 rintro y _
 have hmn5 := rMany_n 3 (by decide) (rNum (rNum (rTxt q).2).2).2
 refine m_rowA (α := Int) 3 ?_
 refine Ml (σ := Nat × Option Addr × Nat) (fun ⟨i0, A0x, c0x⟩ => i0 ≤ (rMany 3 (rNum (rNum (rTxt q).2).2).2).1.toNat) (fun ⟨i0, A0x, c0x⟩ => (rMany 3 (rNum (rNum (rTxt q).2).2).2).1.toNat - i0) (fun ⟨i0, A0x, c0x⟩ => [rowA 3 A0x c0x ((rIter rNum i0 (rMany 3 (rNum (rNum (rTxt q).2).2).2).2).1 : List Int), blkR b 165 [vs (rIter rNum i0 (rMany 3 (rNum (rNum (rTxt q).2).2).2).2).2.1, vi (rIter rNum i0 (rMany 3 (rNum (rNum (rTxt q).2).2).2).2).2.2]]) [13, 12, 3, 2, 0] (fun ⟨i0, A0x, c0x⟩ => [(13, vI (i0 : Int))]) (fun ⟨i0, A0x, c0x⟩ => [(1, [vS (rTxt q).1, vI (rNum (rTxt q).2).1, vI (rNum (rNum (rTxt q).2).2).1, .v (.slice A0x ((rIter rNum i0 (rMany 3 (rNum (rNum (rTxt q).2).2).2).2).1).length c0x)])]) ?_ (⟨0, none, 0⟩) (Nat.zero_le _)
 rintro ⟨i0, A0x, c0x⟩ h0l _ on1
 have h0n : (rIter rNum i0 (rMany 3 (rNum (rNum (rTxt q).2).2).2).2).1.length = i0 := by exact rIter_len _ _ _
 refine Md ((i0 : Int) < (rMany 3 (rNum (rNum (rTxt q).2).2).2).1) (fun h1 => ?_) fun h1 => ?_
 rotate_left
 · have hx_i0 : i0 = (rMany 3 (rNum (rNum (rTxt q).2).2).2).1.toNat := by omega
   subst hx_i0
   refine Mt [.agg #[vs (rTxt q).1, vi (rNum (rTxt q).2).1, vi (rNum (rNum (rTxt q).2).2).1, .slice A0x ((rIter rNum (rMany 3 (rNum (rNum (rTxt q).2).2).2).1.toNat (rMany 3 (rNum (rNum (rTxt q).2).2).2).2).1).length c0x]] fun bs w hS => ?_
   have hS2 := hS.f1
   exact ⟨(⟨(rTxt q).1, (rNum (rTxt q).2).1, (rNum (rNum (rTxt q).2).2).1, ⟨A0x, c0x, (rIter rNum (rMany 3 (rNum (rNum (rTxt q).2).2).2).1.toNat (rMany 3 (rNum (rNum (rTxt q).2).2).2).2).1⟩⟩ : CLock), rfl, ⟨rfl, (rTxt_bd q _ hz).2⟩, (hS2.turnedN (fun _ h => h)).as (allR_one _ _) (allR_one_fp _)⟩
 refine Mda 5 [] [] [rowA 3 A0x c0x ((rIter rNum i0 (rMany 3 (rNum (rNum (rTxt q).2).2).2).2).1 : List Int)] Try_mixed ?_ (hR := (.cons_cons _ (.cons _ .slnil)))
 refine m_f1 ?_
 refine Mtu ?_ (v := fun _ => vi (rNum (rIter rNum i0 (rMany 3 (rNum (rNum (rTxt q).2).2).2).2).2).1) Try.call149 (fun bs w hS => (snap_number (rIter rNum i0 (rMany 3 (rNum (rNum (rTxt q).2).2).2).2).2 b w (hS.res _ (.head _)) (rIter_bd (B := 9223372036854775807) (fun q h => rNum_bd q _ h) i0 (rMany 3 (rNum (rNum (rTxt q).2).2).2).2 (rMany_bd 3 (rNum (rNum (rTxt q).2).2).2 _ (rNum_bd (rNum (rTxt q).2).2 _ (rNum_bd (rTxt q).2 _ (rTxt_bd q _ hz).1))))).mono (fun e w' ⟨y, h1, h2, h3, h4⟩ => ⟨y, h1, h2, h3, h4, (by simp [blkR]), fun x hx => .inl hx⟩))
 rintro y _
 refine M1 ?_ (hR := (.cons _ (List.Sublist.refl _)))
 refine Mz ?_
 refine m_f1 ?_
 refine Mal (α := Int) 8 ([(rNum (rIter rNum i0 (rMany 3 (rNum (rNum (rTxt q).2).2).2).2).2).1]) ?_
 intro A7 c7
 refine Mi ?_ (pR ((i0 : Int) + 1))
 refine m_f1 (m_f1 ?_)
 exact on1 ⟨i0 + 1, A7, c7⟩ (by show i0 + 1 ≤ (rMany 3 (rNum (rNum (rTxt q).2).2).2).1.toNat; omega) (by show (rMany 3 (rNum (rNum (rTxt q).2).2).2).1.toNat - (i0 + 1) < (rMany 3 (rNum (rNum (rTxt q).2).2).2).1.toNat - i0; omega)

theorem snap_session (q : RQ) (b : Nat) (w : World) (hb : (blkR b 165 [vs q.1, vi q.2]).p w) (hz : q.1.size ≤ 9223372036854775807) : Calls Try.prog 153 #[.pointer (some (⟨b, 0, none⟩ : Addr))] w fun e w' => ∃ y : CSession, e = .returned y.val ∧ (y.abs = (rSess q).1 ∧ ∀ k, k ∈ y.replies.xs → k.reply.text.size ≤ 9223372036854775807) ∧ TurnedN (blkR b 165 [vs q.1, vi q.2]) w w' (blkR b 165 [vs (rSess q).2.1, vi (rSess q).2.2]) (keptR 86 y) := by
 refine Mj ?_ Try.func153 (WS.start1 w _ hb (by simp [blkR]) (blkR_lt hb))
 refine Mtk ?_ Try.call149 (fun bs w hS => snap_number q b w (hS.res _ i0) hz)
 rintro y _
 refine Mtk ?_ Try.call149 (fun bs w hS => snap_number (rNum q).2 b w (hS.res _ i0) (rNum_bd q _ hz))
 rintro y _
 refine Mtk ?_ Try.call149 (fun bs w hS => snap_number (rNum (rNum q).2).2 b w (hS.res _ i0) (rNum_bd (rNum q).2 _ (rNum_bd q _ hz)))
 rintro y _
 refine Mtk ?_ Try.call149 (fun bs w hS => snap_number (rNum (rNum (rNum q).2).2).2 b w (hS.res _ i0) (rNum_bd (rNum (rNum q).2).2 _ (rNum_bd (rNum q).2 _ (rNum_bd q _ hz))))
 rintro y _
 refine Mtk ?_ Try.call150 (fun bs w hS => snap_count (rNum (rNum (rNum (rNum q).2).2).2).2 4 b w (hS.res _ i0) (rNum_bd (rNum (rNum (rNum q).2).2).2 _ (rNum_bd (rNum (rNum q).2).2 _ (rNum_bd (rNum q).2 _ (rNum_bd q _ hz)))))
 rintro y _
 have hmn6 := rMany_n 4 (by decide) (rNum (rNum (rNum (rNum q).2).2).2).2
 refine m_rowA (α := DKept) 86 ?_
 refine Ml (σ := Nat × Option Addr × Nat) (fun ⟨i0, A0x, c0x⟩ => i0 ≤ (rMany 4 (rNum (rNum (rNum (rNum q).2).2).2).2).1.toNat ∧ ∀ x, x ∈ (rIter rKept i0 (rMany 4 (rNum (rNum (rNum (rNum q).2).2).2).2).2).1 → x.reply.text.size ≤ 9223372036854775807) (fun ⟨i0, A0x, c0x⟩ => (rMany 4 (rNum (rNum (rNum (rNum q).2).2).2).2).1.toNat - i0) (fun ⟨i0, A0x, c0x⟩ => [rowA 86 A0x c0x ((rIter rKept i0 (rMany 4 (rNum (rNum (rNum (rNum q).2).2).2).2).2).1 : List DKept), blkR b 165 [vs (rIter rKept i0 (rMany 4 (rNum (rNum (rNum (rNum q).2).2).2).2).2).2.1, vi (rIter rKept i0 (rMany 4 (rNum (rNum (rNum (rNum q).2).2).2).2).2).2.2]]) [15, 14, 3, 2, 0] (fun ⟨i0, A0x, c0x⟩ => [(15, vI (i0 : Int))]) (fun ⟨i0, A0x, c0x⟩ => [(1, [vI (rNum q).1, vI (rNum (rNum q).2).1, vI (rNum (rNum (rNum q).2).2).1, vI (rNum (rNum (rNum (rNum q).2).2).2).1, .v (.slice A0x ((rIter rKept i0 (rMany 4 (rNum (rNum (rNum (rNum q).2).2).2).2).2).1).length c0x)])]) ?_ (⟨0, none, 0⟩) ⟨(Nat.zero_le _), (fun x hx => by cases hx)⟩
 rintro ⟨i0, A0x, c0x⟩ ⟨h0l, h0s⟩ _ on1
 have h0n : (rIter rKept i0 (rMany 4 (rNum (rNum (rNum (rNum q).2).2).2).2).2).1.length = i0 := by exact rIter_len _ _ _
 refine Md ((i0 : Int) < (rMany 4 (rNum (rNum (rNum (rNum q).2).2).2).2).1) (fun h1 => ?_) fun h1 => ?_
 rotate_left
 · have hx_i0 : i0 = (rMany 4 (rNum (rNum (rNum (rNum q).2).2).2).2).1.toNat := by omega
   subst hx_i0
   refine Mt [.agg #[vi (rNum q).1, vi (rNum (rNum q).2).1, vi (rNum (rNum (rNum q).2).2).1, vi (rNum (rNum (rNum (rNum q).2).2).2).1, .slice A0x ((rIter rKept (rMany 4 (rNum (rNum (rNum (rNum q).2).2).2).2).1.toNat (rMany 4 (rNum (rNum (rNum (rNum q).2).2).2).2).2).1).length c0x]] fun bs w hS => ?_
   have hS2 := hS.f1
   exact ⟨(⟨(rNum q).1, (rNum (rNum q).2).1, (rNum (rNum (rNum q).2).2).1, (rNum (rNum (rNum (rNum q).2).2).2).1, ⟨A0x, c0x, (rIter rKept (rMany 4 (rNum (rNum (rNum (rNum q).2).2).2).2).1.toNat (rMany 4 (rNum (rNum (rNum (rNum q).2).2).2).2).2).1⟩⟩ : CSession), rfl, ⟨rfl, h0s⟩, (hS2.turnedN (fun _ h => h)).as (allR_one _ _) (allR_one_fp _)⟩
 refine Mda 13 [] [] [rowA 86 A0x c0x ((rIter rKept i0 (rMany 4 (rNum (rNum (rNum (rNum q).2).2).2).2).2).1 : List DKept)] Try_mixed ?_ (hR := (.cons_cons _ (.cons _ .slnil)))
 refine m_f1 ?_
 refine Mtu ?_ (v := fun _ => vi (rNum (rIter rKept i0 (rMany 4 (rNum (rNum (rNum (rNum q).2).2).2).2).2).2).1) Try.call149 (fun bs w hS => (snap_number (rIter rKept i0 (rMany 4 (rNum (rNum (rNum (rNum q).2).2).2).2).2).2 b w (hS.res _ (.head _)) (rIter_bd (B := 9223372036854775807) (fun q h => rKept_bd q _ h) i0 (rMany 4 (rNum (rNum (rNum (rNum q).2).2).2).2).2 (rMany_bd 4 (rNum (rNum (rNum (rNum q).2).2).2).2 _ (rNum_bd (rNum (rNum (rNum q).2).2).2 _ (rNum_bd (rNum (rNum q).2).2 _ (rNum_bd (rNum q).2 _ (rNum_bd q _ hz))))))).mono (fun e w' ⟨y, h1, h2, h3, h4⟩ => ⟨y, h1, h2, h3, h4, (by simp [blkR]), fun x hx => .inl hx⟩))
 rintro y _
 refine Mtu ?_ (v := fun _ => vi (rNum (rNum (rIter rKept i0 (rMany 4 (rNum (rNum (rNum (rNum q).2).2).2).2).2).2).2).1) Try.call149 (fun bs w hS => (snap_number (rNum (rIter rKept i0 (rMany 4 (rNum (rNum (rNum (rNum q).2).2).2).2).2).2).2 b w (hS.res _ (.head _)) (rNum_bd (rIter rKept i0 (rMany 4 (rNum (rNum (rNum (rNum q).2).2).2).2).2).2 _ (rIter_bd (B := 9223372036854775807) (fun q h => rKept_bd q _ h) i0 (rMany 4 (rNum (rNum (rNum (rNum q).2).2).2).2).2 (rMany_bd 4 (rNum (rNum (rNum (rNum q).2).2).2).2 _ (rNum_bd (rNum (rNum (rNum q).2).2).2 _ (rNum_bd (rNum (rNum q).2).2 _ (rNum_bd (rNum q).2 _ (rNum_bd q _ hz)))))))).mono (fun e w' ⟨y, h1, h2, h3, h4⟩ => ⟨y, h1, h2, h3, h4, (by simp [blkR]), fun x hx => .inl hx⟩))
 rintro y _
 refine Mtu ?_ (v := fun _ => vi (rNum (rNum (rNum (rIter rKept i0 (rMany 4 (rNum (rNum (rNum (rNum q).2).2).2).2).2).2).2).2).1) Try.call149 (fun bs w hS => (snap_number (rNum (rNum (rIter rKept i0 (rMany 4 (rNum (rNum (rNum (rNum q).2).2).2).2).2).2).2).2 b w (hS.res _ (.head _)) (rNum_bd (rNum (rIter rKept i0 (rMany 4 (rNum (rNum (rNum (rNum q).2).2).2).2).2).2).2 _ (rNum_bd (rIter rKept i0 (rMany 4 (rNum (rNum (rNum (rNum q).2).2).2).2).2).2 _ (rIter_bd (B := 9223372036854775807) (fun q h => rKept_bd q _ h) i0 (rMany 4 (rNum (rNum (rNum (rNum q).2).2).2).2).2 (rMany_bd 4 (rNum (rNum (rNum (rNum q).2).2).2).2 _ (rNum_bd (rNum (rNum (rNum q).2).2).2 _ (rNum_bd (rNum (rNum q).2).2 _ (rNum_bd (rNum q).2 _ (rNum_bd q _ hz))))))))).mono (fun e w' ⟨y, h1, h2, h3, h4⟩ => ⟨y, h1, h2, h3, h4, (by simp [blkR]), fun x hx => .inl hx⟩))
 rintro y _
 refine Mtu ?_ (v := fun _ => vs (rTxt (rNum (rNum (rNum (rIter rKept i0 (rMany 4 (rNum (rNum (rNum (rNum q).2).2).2).2).2).2).2).2).2).1) Try.call152 (fun bs w hS => (snap_text_ (rNum (rNum (rNum (rIter rKept i0 (rMany 4 (rNum (rNum (rNum (rNum q).2).2).2).2).2).2).2).2).2 b w (hS.res _ (.head _)) (rNum_bd (rNum (rNum (rIter rKept i0 (rMany 4 (rNum (rNum (rNum (rNum q).2).2).2).2).2).2).2).2 _ (rNum_bd (rNum (rIter rKept i0 (rMany 4 (rNum (rNum (rNum (rNum q).2).2).2).2).2).2).2 _ (rNum_bd (rIter rKept i0 (rMany 4 (rNum (rNum (rNum (rNum q).2).2).2).2).2).2 _ (rIter_bd (B := 9223372036854775807) (fun q h => rKept_bd q _ h) i0 (rMany 4 (rNum (rNum (rNum (rNum q).2).2).2).2).2 (rMany_bd 4 (rNum (rNum (rNum (rNum q).2).2).2).2 _ (rNum_bd (rNum (rNum (rNum q).2).2).2 _ (rNum_bd (rNum (rNum q).2).2 _ (rNum_bd (rNum q).2 _ (rNum_bd q _ hz)))))))))).mono (fun e w' ⟨y, h1, h2, h3, h4⟩ => ⟨y, h1, h2, h3, h4, (by simp [blkR]), fun x hx => .inl hx⟩))
 rintro y _
 refine M1 ?_ (hR := (.cons _ (List.Sublist.refl _)))
 refine Mz ?_
 refine m_f1 ?_
 refine Mal (α := DKept) 40 ([(⟨(rNum (rIter rKept i0 (rMany 4 (rNum (rNum (rNum (rNum q).2).2).2).2).2).2).1, ⟨(rNum (rNum (rIter rKept i0 (rMany 4 (rNum (rNum (rNum (rNum q).2).2).2).2).2).2).2).1, (rNum (rNum (rNum (rIter rKept i0 (rMany 4 (rNum (rNum (rNum (rNum q).2).2).2).2).2).2).2).2).1, (rTxt (rNum (rNum (rNum (rIter rKept i0 (rMany 4 (rNum (rNum (rNum (rNum q).2).2).2).2).2).2).2).2).2).1⟩⟩ : DKept)]) ?_
 intro A11 c11
 refine Mi ?_ (pR ((i0 : Int) + 1))
 refine m_f1 (m_f1 ?_)
 exact on1 ⟨i0 + 1, A11, c11⟩ ⟨(by show i0 + 1 ≤ (rMany 4 (rNum (rNum (rNum (rNum q).2).2).2).2).1.toNat; omega), (fun x hx => by rcases List.mem_append.1 hx with hx | hx; exact h0s x hx; rw [List.mem_singleton] at hx; subst hx; exact (rTxt_bd (rNum (rNum (rNum (rIter rKept i0 (rMany 4 (rNum (rNum (rNum (rNum q).2).2).2).2).2).2).2).2).2 _ (rNum_bd (rNum (rNum (rIter rKept i0 (rMany 4 (rNum (rNum (rNum (rNum q).2).2).2).2).2).2).2).2 _ (rNum_bd (rNum (rIter rKept i0 (rMany 4 (rNum (rNum (rNum (rNum q).2).2).2).2).2).2).2 _ (rNum_bd (rIter rKept i0 (rMany 4 (rNum (rNum (rNum (rNum q).2).2).2).2).2).2 _ (rIter_bd (B := 9223372036854775807) (fun q h => rKept_bd q _ h) i0 (rMany 4 (rNum (rNum (rNum (rNum q).2).2).2).2).2 (rMany_bd 4 (rNum (rNum (rNum (rNum q).2).2).2).2 _ (rNum_bd (rNum (rNum (rNum q).2).2).2 _ (rNum_bd (rNum (rNum q).2).2 _ (rNum_bd (rNum q).2 _ (rNum_bd q _ hz)))))))))).2)⟩ (by show (rMany 4 (rNum (rNum (rNum (rNum q).2).2).2).2).1.toNat - (i0 + 1) < (rMany 4 (rNum (rNum (rNum (rNum q).2).2).2).2).1.toNat - i0; omega)

theorem snap_state (q : RQ) (b : Nat) (w : World) (hb : (blkR b 165 [vs q.1, vi q.2]).p w) (hz : q.1.size ≤ 9223372036854775807) : Calls Try.prog 132 #[.pointer (some (⟨b, 0, none⟩ : Addr))] w fun e w' => ∃ y : List Nat × CState, e = .returned y.2.val ∧ (y.2.abs = (rState q).1 ∧ (∀ x, x ∈ y.2.locks.xs → x.name.size ≤ 9223372036854775807) ∧ (∀ x, x ∈ y.2.pairs.xs → x.name.size ≤ 9223372036854775807 ∧ x.value.size ≤ 9223372036854775807) ∧ ∀ x, x ∈ y.2.sessions.xs → ∀ k, k ∈ x.replies.xs → k.reply.text.size ≤ 9223372036854775807) ∧ TurnedN (blkR b 165 [vs q.1, vi q.2]) w w' (blkR b 165 [vs (rState q).2.1, vi (rState q).2.2]) (subR y.1 y.2) := by
 refine Mj ?_ Try.func132 (WS.start1 w _ hb (by simp [blkR]) (blkR_lt hb))
 refine Mtk ?_ Try.call149 (fun bs w hS => snap_number q b w (hS.res _ i0) hz)
 rintro y _
 refine Mtk ?_ Try.call150 (fun bs w hS => snap_count (rNum q).2 5 b w (hS.res _ i0) (rNum_bd q _ hz))
 rintro y _
 have hmn3 := rMany_n 5 (by decide) (rNum q).2
 refine m_rowA (α := CLock) 94 ?_
 refine m_nores (ownL (lineR 3) []) rfl (fun w x hx => by cases hx) ?_
 refine Ml (σ := Nat × Option Addr × Nat × List CLock) (fun ⟨i0, A0x, c0x, M0⟩ => i0 ≤ (rMany 5 (rNum q).2).1.toNat ∧ M0.map CLock.abs = (rIter rLock i0 (rMany 5 (rNum q).2).2).1 ∧ ∀ x, x ∈ M0 → x.name.size ≤ 9223372036854775807) (fun ⟨i0, A0x, c0x, M0⟩ => (rMany 5 (rNum q).2).1.toNat - i0) (fun ⟨i0, A0x, c0x, M0⟩ => [ownL (lineR 3) M0, rowA 94 A0x c0x (M0 : List CLock), blkR b 165 [vs (rIter rLock i0 (rMany 5 (rNum q).2).2).2.1, vi (rIter rLock i0 (rMany 5 (rNum q).2).2).2.2]]) [9, 8, 3, 2, 0] (fun ⟨i0, A0x, c0x, M0⟩ => [(9, vI (i0 : Int))]) (fun ⟨i0, A0x, c0x, M0⟩ => [(1, [vI (rNum q).1, .v (.slice A0x M0.length c0x), .v vn, .v vn])]) ?_ (⟨0, none, 0, []⟩) ⟨(Nat.zero_le _), rfl, (fun x hx => by cases hx)⟩
 rintro ⟨i0, A0x, c0x, M0⟩ ⟨h0l, h0m, h0s⟩ _ on1
 have h0n : M0.length = i0 := by have h9 := congrArg List.length h0m; rw [List.length_map, rIter_len] at h9; exact h9
 refine Md ((i0 : Int) < (rMany 5 (rNum q).2).1) (fun h1 => ?_) fun h1 => ?_
 · refine Mda 5 [] [] [ownL (lineR 3) M0, rowA 94 A0x c0x (M0 : List CLock)] Try_mixed ?_ (hR := (.cons_cons _ (.cons_cons _ (.cons _ .slnil))))
   refine m_f2 ?_
   refine Mtn ?_ Try.call151 (fun bs w hS => snap_lock (rIter rLock i0 (rMany 5 (rNum q).2).2).2 b w (hS.res _ (.head _)) (rIter_bd (B := 9223372036854775807) (fun q h => rLock_bd q _ h) i0 (rMany 5 (rNum q).2).2 (rMany_bd 5 (rNum q).2 _ (rNum_bd q _ hz)))) (hR := fun _ => (.cons _ (.cons _ (List.Sublist.refl _))))
   rintro y4 hF4
   refine M1 ?_ (hR := (.cons _ (.cons _ (List.Sublist.refl _))))
   refine Mz ?_
   refine m_f3 ?_
   refine Mal (α := CLock) 56 ([(⟨y4.name, y4.holder, y4.fence, y4.line⟩ : CLock)]) ?_
   intro A5 c5
   refine Mi ?_ (pR ((i0 : Int) + 1))
   refine m_f3 ?_
   refine m_f2 ?_
   refine m_join (ownL (lineR 3) (M0 ++ [(⟨y4.name, y4.holder, y4.fence, y4.line⟩ : CLock)])) (ownL_app_fp (lineR 3) M0 (⟨y4.name, y4.holder, y4.fence, y4.line⟩ : CLock)) (fun w => ownL_app_p (lineR 3) M0 (⟨y4.name, y4.holder, y4.fence, y4.line⟩ : CLock) w) ?_
   refine m_f2 (m_f2 (m_f2 ?_))
   exact on1 ⟨i0 + 1, A5, c5, M0 ++ [(⟨y4.name, y4.holder, y4.fence, y4.line⟩ : CLock)]⟩ ⟨(by show i0 + 1 ≤ (rMany 5 (rNum q).2).1.toNat; omega), (by rw [List.map_append, h0m]; exact congrArg (fun z => (rIter rLock i0 (rMany 5 (rNum q).2).2).1 ++ [z]) (show CLock.abs (⟨y4.name, y4.holder, y4.fence, y4.line⟩ : CLock) = (rLock (rIter rLock i0 (rMany 5 (rNum q).2).2).2).1 from hF4.1)), (fun x hx => by rcases List.mem_append.1 hx with hx | hx; exact h0s x hx; rw [List.mem_singleton] at hx; subst hx; exact hF4.2)⟩ (by show (rMany 5 (rNum q).2).1.toNat - (i0 + 1) < (rMany 5 (rNum q).2).1.toNat - i0; omega)
 have hx_i0 : i0 = (rMany 5 (rNum q).2).1.toNat := by omega
 subst hx_i0
 have hzQ0 := (rIter_bd (B := 9223372036854775807) (fun q h => rLock_bd q _ h) (rMany 5 (rNum q).2).1.toNat (rMany 5 (rNum q).2).2 (rMany_bd 5 (rNum q).2 _ (rNum_bd q _ hz)))
 try dsimp only
 generalize hQ0 : (rIter rLock (rMany 5 (rNum q).2).1.toNat (rMany 5 (rNum q).2).2) = Q0 at *
 refine m_f2 ?_
 refine Mtk ?_ Try.call150 (fun bs w hS => snap_count Q0.2 5 b w (hS.res _ i0) hzQ0)
 rintro y _
 have hmn7 := rMany_n 5 (by decide) Q0.2
 refine m_rowA (α := DPair) 72 ?_
 refine Ml (σ := Nat × Option Addr × Nat) (fun ⟨i1, A1x, c1x⟩ => i1 ≤ (rMany 5 Q0.2).1.toNat ∧ ∀ x, x ∈ (rIter rPair i1 (rMany 5 Q0.2).2).1 → x.name.size ≤ 9223372036854775807 ∧ x.value.size ≤ 9223372036854775807) (fun ⟨i1, A1x, c1x⟩ => (rMany 5 Q0.2).1.toNat - i1) (fun ⟨i1, A1x, c1x⟩ => [rowA 72 A1x c1x ((rIter rPair i1 (rMany 5 Q0.2).2).1 : List DPair), blkR b 165 [vs (rIter rPair i1 (rMany 5 Q0.2).2).2.1, vi (rIter rPair i1 (rMany 5 Q0.2).2).2.2], ownL (lineR 3) M0, rowA 94 A0x c0x (M0 : List CLock)]) [21, 20, 3, 2, 0] (fun ⟨i1, A1x, c1x⟩ => [(21, vI (i1 : Int))]) (fun ⟨i1, A1x, c1x⟩ => [(1, [vI (rNum q).1, .v (.slice A0x M0.length c0x), .v (.slice A1x ((rIter rPair i1 (rMany 5 Q0.2).2).1).length c1x), .v vn])]) ?_ (⟨0, none, 0⟩) ⟨(Nat.zero_le _), (fun x hx => by cases hx)⟩
 rintro ⟨i1, A1x, c1x⟩ ⟨h1l, h1s⟩ _ on2
 have h1n : (rIter rPair i1 (rMany 5 Q0.2).2).1.length = i1 := by exact rIter_len _ _ _
 refine Md ((i1 : Int) < (rMany 5 Q0.2).1) (fun h2 => ?_) fun h2 => ?_
 · refine Mda 10 [] [] [rowA 72 A1x c1x ((rIter rPair i1 (rMany 5 Q0.2).2).1 : List DPair), ownL (lineR 3) M0, rowA 94 A0x c0x (M0 : List CLock)] Try_mixed ?_ (hR := (.cons_cons _ (.cons _ (List.Sublist.refl _))))
   refine m_f1 ?_
   refine Mtk ?_ Try.call152 (fun bs w hS => snap_text_ (rIter rPair i1 (rMany 5 Q0.2).2).2 b w (hS.res _ i0) (rIter_bd (B := 9223372036854775807) (fun q h => rPair_bd q _ h) i1 (rMany 5 Q0.2).2 (rMany_bd 5 Q0.2 _ hzQ0)))
   rintro y _
   refine Mtk ?_ Try.call152 (fun bs w hS => snap_text_ (rTxt (rIter rPair i1 (rMany 5 Q0.2).2).2).2 b w (hS.res _ i0) (rTxt_bd (rIter rPair i1 (rMany 5 Q0.2).2).2 _ (rIter_bd (B := 9223372036854775807) (fun q h => rPair_bd q _ h) i1 (rMany 5 Q0.2).2 (rMany_bd 5 Q0.2 _ hzQ0))).1)
   rintro y _
   refine Mtk ?_ Try.call149 (fun bs w hS => snap_number (rTxt (rTxt (rIter rPair i1 (rMany 5 Q0.2).2).2).2).2 b w (hS.res _ i0) (rTxt_bd (rTxt (rIter rPair i1 (rMany 5 Q0.2).2).2).2 _ (rTxt_bd (rIter rPair i1 (rMany 5 Q0.2).2).2 _ (rIter_bd (B := 9223372036854775807) (fun q h => rPair_bd q _ h) i1 (rMany 5 Q0.2).2 (rMany_bd 5 Q0.2 _ hzQ0))).1).1)
   rintro y _
   refine M1 ?_ (hR := (.cons _ (List.Sublist.refl _)))
   refine Mz ?_
   refine m_f1 ?_
   refine Mal (α := DPair) 40 ([(⟨(rTxt (rIter rPair i1 (rMany 5 Q0.2).2).2).1, (rTxt (rTxt (rIter rPair i1 (rMany 5 Q0.2).2).2).2).1, (rNum (rTxt (rTxt (rIter rPair i1 (rMany 5 Q0.2).2).2).2).2).1⟩ : DPair)]) ?_
   intro A11 c11
   refine Mi ?_ (pR ((i1 : Int) + 1))
   refine m_f3 (m_f3 (m_f3 (m_f3 ?_)))
   exact on2 ⟨i1 + 1, A11, c11⟩ ⟨(by show i1 + 1 ≤ (rMany 5 Q0.2).1.toNat; omega), (fun x hx => by rcases List.mem_append.1 hx with hx | hx; exact h1s x hx; rw [List.mem_singleton] at hx; subst hx; exact ⟨(rTxt_bd (rIter rPair i1 (rMany 5 Q0.2).2).2 _ (rIter_bd (B := 9223372036854775807) (fun q h => rPair_bd q _ h) i1 (rMany 5 Q0.2).2 (rMany_bd 5 Q0.2 _ hzQ0))).2, (rTxt_bd (rTxt (rIter rPair i1 (rMany 5 Q0.2).2).2).2 _ (rTxt_bd (rIter rPair i1 (rMany 5 Q0.2).2).2 _ (rIter_bd (B := 9223372036854775807) (fun q h => rPair_bd q _ h) i1 (rMany 5 Q0.2).2 (rMany_bd 5 Q0.2 _ hzQ0))).1).2⟩)⟩ (by show (rMany 5 Q0.2).1.toNat - (i1 + 1) < (rMany 5 Q0.2).1.toNat - i1; omega)
 have hx_i1 : i1 = (rMany 5 Q0.2).1.toNat := by omega
 subst hx_i1
 have hzQ1 := (rIter_bd (B := 9223372036854775807) (fun q h => rPair_bd q _ h) (rMany 5 Q0.2).1.toNat (rMany 5 Q0.2).2 (rMany_bd 5 Q0.2 _ hzQ0))
 try dsimp only
 generalize hQ1 : (rIter rPair (rMany 5 Q0.2).1.toNat (rMany 5 Q0.2).2) = Q1 at *
 refine m_f1 ?_
 refine Mtk ?_ Try.call150 (fun bs w hS => snap_count Q1.2 4 b w (hS.res _ i0) hzQ1)
 rintro y _
 have hmn13 := rMany_n 4 (by decide) Q1.2
 refine m_rowA (α := CSession) 81 ?_
 refine m_nores (ownL (keptR 86) []) rfl (fun w x hx => by cases hx) ?_
 refine Ml (σ := Nat × Option Addr × Nat × List CSession) (fun ⟨i2, A2x, c2x, M2⟩ => i2 ≤ (rMany 4 Q1.2).1.toNat ∧ M2.map CSession.abs = (rIter rSess i2 (rMany 4 Q1.2).2).1 ∧ ∀ x, x ∈ M2 → ∀ k, k ∈ x.replies.xs → k.reply.text.size ≤ 9223372036854775807) (fun ⟨i2, A2x, c2x, M2⟩ => (rMany 4 Q1.2).1.toNat - i2) (fun ⟨i2, A2x, c2x, M2⟩ => [ownL (keptR 86) M2, rowA 81 A2x c2x (M2 : List CSession), blkR b 165 [vs (rIter rSess i2 (rMany 4 Q1.2).2).2.1, vi (rIter rSess i2 (rMany 4 Q1.2).2).2.2], rowA 72 A1x c1x (Q1.1 : List DPair), ownL (lineR 3) M0, rowA 94 A0x c0x (M0 : List CLock)]) [38, 37, 3, 2, 0] (fun ⟨i2, A2x, c2x, M2⟩ => [(38, vI (i2 : Int))]) (fun ⟨i2, A2x, c2x, M2⟩ => [(1, [vI (rNum q).1, .v (.slice A0x M0.length c0x), .v (.slice A1x (Q1.1).length c1x), .v (.slice A2x M2.length c2x)])]) ?_ (⟨0, none, 0, []⟩) ⟨(Nat.zero_le _), rfl, (fun x hx => by cases hx)⟩
 rintro ⟨i2, A2x, c2x, M2⟩ ⟨h2l, h2m, h2s⟩ _ on3
 have h2n : M2.length = i2 := by have h9 := congrArg List.length h2m; rw [List.length_map, rIter_len] at h9; exact h9
 refine Md ((i2 : Int) < (rMany 4 Q1.2).1) (fun h3 => ?_) fun h3 => ?_
 rotate_left
 · have hx_i2 : i2 = (rMany 4 Q1.2).1.toNat := by omega
   subst hx_i2
   have hzQ2 := (rIter_bd (B := 9223372036854775807) (fun q h => rSess_bd q _ h) (rMany 4 Q1.2).1.toNat (rMany 4 Q1.2).2 (rMany_bd 4 Q1.2 _ hzQ1))
   try dsimp only
   generalize hQ2 : (rIter rSess (rMany 4 Q1.2).1.toNat (rMany 4 Q1.2).2) = Q2 at *
   refine Mt [.agg #[vi (rNum q).1, .slice A0x M0.length c0x, .slice A1x (Q1.1).length c1x, .slice A2x M2.length c2x]] fun bs w hS => ?_
   have hR := rState_of hQ0 hQ1 hQ2
   rw [hR]
   have hS2 := hS.f5.f5.f5.f4.f4.f5
   refine ⟨((allR [ownL (keptR 86) M2, rowA 81 A2x c2x (M2 : List CSession), rowA 72 A1x c1x (Q1.1 : List DPair), ownL (lineR 3) M0, rowA 94 A0x c0x (M0 : List CLock)]).fp, (⟨(rNum q).1, ⟨A0x, c0x, M0⟩, ⟨A1x, c1x, Q1.1⟩, ⟨A2x, c2x, M2⟩⟩ : CState)), rfl, ⟨?_, h0s, h1s, h2s⟩, (hS2.turnedN (fun _ h => h)).as (fun hp => ?_) rfl⟩
   · show CState.abs (⟨(rNum q).1, ⟨A0x, c0x, M0⟩, ⟨A1x, c1x, Q1.1⟩, ⟨A2x, c2x, M2⟩⟩ : CState) = _; simp only [CState.abs, h0m, h2m]
   · exact ⟨out_locks i4 i3 hp (fun x hx => hx) h0s, allR_row i2 (hp _ i2) h1s, out_sess i1 i0 hp (fun x hx => hx) h2s⟩
 refine Mda 5 [] [] [ownL (keptR 86) M2, rowA 81 A2x c2x (M2 : List CSession), rowA 72 A1x c1x (Q1.1 : List DPair), ownL (lineR 3) M0, rowA 94 A0x c0x (M0 : List CLock)] Try_mixed ?_ (hR := (.cons_cons _ (.cons_cons _ (.cons _ (List.Sublist.refl _)))))
 refine m_f2 ?_
 refine Mtn ?_ Try.call153 (fun bs w hS => snap_session (rIter rSess i2 (rMany 4 Q1.2).2).2 b w (hS.res _ i0) (rIter_bd (B := 9223372036854775807) (fun q h => rSess_bd q _ h) i2 (rMany 4 Q1.2).2 (rMany_bd 4 Q1.2 _ hzQ1))) (hR := fun _ => (.cons _ (.cons _ (List.Sublist.refl _))))
 rintro y14 hF14
 refine M1 ?_ (hR := (.cons _ (.cons _ (List.Sublist.refl _))))
 refine Mz ?_
 refine m_f3 ?_
 refine Mal (α := CSession) 56 ([(⟨y14.client, y14.id, y14.acked, y14.last, y14.replies⟩ : CSession)]) ?_
 intro A15 c15
 refine Mi ?_ (pR ((i2 : Int) + 1))
 refine m_f3 ?_
 refine m_f2 ?_
 refine m_join (ownL (keptR 86) (M2 ++ [(⟨y14.client, y14.id, y14.acked, y14.last, y14.replies⟩ : CSession)])) (ownL_app_fp (keptR 86) M2 (⟨y14.client, y14.id, y14.acked, y14.last, y14.replies⟩ : CSession)) (fun w => ownL_app_p (keptR 86) M2 (⟨y14.client, y14.id, y14.acked, y14.last, y14.replies⟩ : CSession) w) ?_
 refine m_f5 (m_f5 (m_f5 (m_f5 (m_f5 (m_f5 ?_)))))
 exact on3 ⟨i2 + 1, A15, c15, M2 ++ [(⟨y14.client, y14.id, y14.acked, y14.last, y14.replies⟩ : CSession)]⟩ ⟨(by show i2 + 1 ≤ (rMany 4 Q1.2).1.toNat; omega), (by rw [List.map_append, h2m]; exact congrArg (fun z => (rIter rSess i2 (rMany 4 Q1.2).2).1 ++ [z]) (show CSession.abs (⟨y14.client, y14.id, y14.acked, y14.last, y14.replies⟩ : CSession) = (rSess (rIter rSess i2 (rMany 4 Q1.2).2).2).1 from hF14.1)), (fun x hx => by rcases List.mem_append.1 hx with hx | hx; exact h2s x hx; rw [List.mem_singleton] at hx; subst hx; exact hF14.2)⟩ (by show (rMany 4 Q1.2).1.toNat - (i2 + 1) < (rMany 4 Q1.2).1.toNat - i2; omega)

theorem snap_Decode (s : ByteArray) (w : World) (hs : s.size ≤ 9223372036854775807) : Calls Try.prog 91 #[vs s] w fun e w' => ∃ y : CState, e = .returned (.tuple #[y.val, vi (mUnsnap s).2]) ∧ y.abs = (mUnsnap s).1 ∧ FreshS w w' y := by
 refine M0 ?_ Try.func91
 refine Md ((5000 : Int) < (s.size : Int)) (fun h1 => ?_) fun h1 => ?_
 · exact Me2 (unsnap_big (by assumption)) ⟨0, Sl.nil, Sl.nil, Sl.nil⟩ rfl fun bs w hS => hS.outS (y := (⟨0, Sl.nil, Sl.nil, Sl.nil⟩ : CState)) ⟨Sl.rd_nil _ _, Sl.rd_nil _ _, Sl.rd_nil _ _⟩
 refine Md ((s.size : Int) < 4) (fun h2 => ?_) fun h2 => ?_
 · exact Me2 (unsnap_small (by assumption) (by assumption)) ⟨0, Sl.nil, Sl.nil, Sl.nil⟩ rfl fun bs w hS => hS.outS (y := (⟨0, Sl.nil, Sl.nil, Sl.nil⟩ : CState)) ⟨Sl.rd_nil _ _, Sl.rd_nil _ _, Sl.rd_nil _ _⟩
 have hz0 : (s.extract 0 ((s.size : Int) - 4).toNat).size ≤ 9223372036854775807 := by rw [ByteArray.size_extract]; omega
 refine Mi ?_ (pR ((s.size : Int) - 4))
 refine Mda 8 [] [] [] Try_mixed ?_
 refine Mih ?_ (pc (pG [(21, .sl 0 ((s.size : Int) - 4).toNat)] (oc (rfl : 0 = 0) (oc ((by omega) : (s.size : Int) - 4 = ((((s.size : Int) - 4).toNat : Nat) : Int)) (oc ((by omega) : ((s.size : Int) - 4).toNat ≤ s.size) on)))) (pG [(25, .sl ((s.size : Int) - 4).toNat s.size)] (oc ((by omega) : (s.size : Int) - 4 = ((((s.size : Int) - 4).toNat : Nat) : Int)) (oc (rfl : s.size = s.size) (oc ((by omega) : ((s.size : Int) - 4).toNat ≤ s.size) on)))))
 refine Mp ?_ Try.call131 (fun bs w hS => codec_Seal _ w (by first | assumption | omega | (simp only [emp_size]; omega)))
 refine Mdn ((mSeal (s.extract 0 ((s.size : Int) - 4).toNat)) = (s.extract ((s.size : Int) - 4).toNat s.size)) (fun h3 => ?_) fun h3 => ?_
 rotate_left
 · exact Me2 (unsnap_seal h1 h2 h3) ⟨0, Sl.nil, Sl.nil, Sl.nil⟩ rfl fun bs w hS => hS.outS (y := (⟨0, Sl.nil, Sl.nil, Sl.nil⟩ : CState)) ⟨Sl.rd_nil _ _, Sl.rd_nil _ _, Sl.rd_nil _ _⟩
 refine Mi ?_ (pG [(30, .sl 0 ((s.size : Int) - 4).toNat)] (oc (rfl : 0 = 0) (oc ((by omega) : (s.size : Int) - 4 = ((((s.size : Int) - 4).toNat : Nat) : Int)) (oc ((by omega) : ((s.size : Int) - 4).toNat ≤ s.size) on))))
 refine Mon 1 ?_ Try.call132 (fun bs w hS hb => snap_state (rIn s) (bs.getD 1 0) w hb hz0)
 rintro y1 hF1
 refine m_know (F := Rds.ok y1.2) (fun bs w hS => Rds.okof (hS.res _ i0)) fun hok1 => ?_
 refine Md ((rState (rIn s)).2.2 = 0) (fun h4 => ?_) fun h4 => ?_
 rotate_left
 · refine My false true ?_ (df h4)
   refine Mda 7 [] [0] [subR y1.1 y1.2] Try_mixed ?_
   refine Mz ?_
   exact Me2 (unsnap_bad (q := (rIn s)) rfl rfl h1 h2 h3 h4) ⟨0, Sl.nil, Sl.nil, Sl.nil⟩ rfl fun bs w hS => hS.outS (y := (⟨0, Sl.nil, Sl.nil, Sl.nil⟩ : CState)) ⟨Sl.rd_nil _ _, Sl.rd_nil _ _, Sl.rd_nil _ _⟩
 refine Mdn ((rState (rIn s)).2.1 = emp) (fun h5 => ?_) fun h5 => ?_
 rotate_left
 · refine Mq 54 true ?_ rfl
   refine Mda 7 [] [0] [subR y1.1 y1.2] Try_mixed ?_
   refine Mz ?_
   exact Me2 (unsnap_more (q := (rIn s)) rfl rfl h1 h2 h3 h4 h5) ⟨0, Sl.nil, Sl.nil, Sl.nil⟩ rfl fun bs w hS => hS.outS (y := (⟨0, Sl.nil, Sl.nil, Sl.nil⟩ : CState)) ⟨Sl.rd_nil _ _, Sl.rd_nil _ _, Sl.rd_nil _ _⟩
 refine My true true ?_ (dt h4)
 refine Mp ?_ Try.call124 (fun bs w hS => machine_Check y1.2 w (hS.res _ i0))
 refine Mdn (mState y1.2.abs = 0) (fun h7 => ?_) fun h7 => ?_
 rotate_left
 · have hy : y1.2.abs = (rState (rIn s)).1 := hF1.1
   exact Me2 (unsnap_fault (y := y1.2.abs) (q := (rIn s)) rfl rfl h1 h2 h3 h4 h5 hy h7) ⟨0, Sl.nil, Sl.nil, Sl.nil⟩ rfl fun bs w hS => hS.outS (y := (⟨0, Sl.nil, Sl.nil, Sl.nil⟩ : CState)) ⟨Sl.rd_nil _ _, Sl.rd_nil _ _, Sl.rd_nil _ _⟩
 have hy : y1.2.abs = (rState (rIn s)).1 := hF1.1
 exact Me2 (unsnap_ok (y := y1.2.abs) (q := (rIn s)) rfl rfl h1 h2 h3 h4 h5 hy h7) y1.2 rfl fun bs w hS => hS.outS (y := y1.2) (allR_sub i0 (hS.res _ i0))

end Go.Proofs.Ytakdjdfkdbofoab.W
