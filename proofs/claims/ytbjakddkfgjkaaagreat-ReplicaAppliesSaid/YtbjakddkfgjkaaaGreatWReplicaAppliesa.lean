/-
  The functions that the law ReplicaApplies reaches, walked: each returns what its model says.
  Conditions: those that each theorem states.
-/
import Derived.Test.YtbjakddkfgjkaaaGreatFe
import Derived.Test.YtbjakddkfgjkaaaGreatChecked
set_option linter.unusedVariables false
set_option linter.unusedSimpArgs false
set_option maxRecDepth 100000
set_option maxHeartbeats 2000000
namespace Go.Proofs.YtbjakddkfgjkaaaGreat.W
open Go.Proofs.YtbjakddkfgjkaaaGreat.Fw Go.RowKit
attribute [local irreducible] JM nx

theorem Tryz_mixed : Tryz.prog.follows .mixedOrders = true := by kernel_rfl
theorem laid : laidOutB Tryz.prog = true := by kernel_rfl
abbrev tK : TK := ⟨39, 101, 93, 9, 98⟩
abbrev tJ : TK := ⟨39, 101, 93, 9, 110⟩

theorem ref_In (n lo hi : Int) (w : World) : Calls Tryz.prog 51 #[vi n, vi lo, vi hi] w fun e w' => e = .returned (vb (inB n lo hi)) ∧ Kp [] w w' := by
 refine M0 ?_ Tryz.func51
 refine Md (lo ≤ n) (fun h1 => ?_) fun h1 => ?_
 rotate_left
 · exact Mt [vb false] fun bs w hS => ⟨by simp [retOf, den, inB, h1], hS.kp⟩
 exact Mt [vb (decide (n ≤ hi))] fun bs w hS => ⟨by simp [retOf, den, inB, h1], hS.kp⟩

theorem lock_Name1 (c : UInt8) (w : World) : Calls Tryz.prog 187 #[.int .u8 (c.toNat : Int)] w fun e w' => e = .returned (vb (nameBad c)) ∧ Kp [] w w' := by
 refine M0 ?_ Tryz.func187
 refine Md ((c.toNat : Int) < 97) (fun h1 => ?_) fun h1 => ?_
 · exact Mt [vb true] fun bs w hS => ⟨by simp [retOf, den, nameBad, h1], hS.kp⟩
 exact Mt [vb (decide ((122 : Int) < (c.toNat : Int)))] fun bs w hS => ⟨by simp [retOf, den, nameBad, h1], hS.kp⟩

theorem idx_bytes {B : Nat → Prop} (s : Sl UInt8) (w : World) (hs : s.rd B w) : Calls Tryz.prog 216 #[s.val, .func (.func 187) #[] #[]] w fun e w' => e = .returned (vi (mIdx nameBad s.xs)) ∧ Kp [] w w' := by
 have oks := Sl.rd.ok hs
 have ncs := Sl.ok.nc oks
 have hns : s.n = s.xs.length := rfl
 refine Mj ?_ Tryz.func216 (WS.start w)
 refine Ml (σ := Nat) (fun i => i ≤ s.n ∧ ∀ j, j < i → nameBad (s.at j) = false) (fun i => s.n - i) (fun _ => []) [8, 7, 0, 1] (fun i => [(8, vI (i : Int))]) (fun _ => []) ?_ 0 ⟨Nat.zero_le _, fun j hj => absurd hj (Nat.not_lt_zero _)⟩
 rintro i ⟨hi, hI⟩ _ on1
 refine Md ((i : Int) < (s.n : Int)) (fun h1 => ?_) fun h1 => ?_
 rotate_left
 · exact Me0 (-1) (by rw [mIdx_none fun j hj => hI j (by omega)])
 refine Mi ?_ (pA 14 15 (i : Int) i (rdk hs))
 refine Mp ?_ Tryz.call187 (fun bs w hS => lock_Name1 (s.at i) w)
 refine Mb (nameBad (s.at i)) (fun h2 => ?_) fun h2 => ?_
 · exact Me0 (i : Int) (by rw [mIdx_here (by omega) (by assumption) hI])
 refine Mi ?_ (pR ((i : Int) + 1))
 exact on1 (i + 1) ⟨by omega, fun j hj => by rcases Nat.lt_succ_iff_lt_or_eq.1 hj with h | h; exact hI j h; subst h; assumption⟩ (by omega)

theorem has_bytes {B : Nat → Prop} (s : Sl UInt8) (w : World) (hs : s.rd B w) : Calls Tryz.prog 186 #[s.val, .func (.func 187) #[] #[]] w fun e w' => e = .returned (vb (s.xs.any nameBad)) ∧ Kp [] w w' := by
 have oks := Sl.rd.ok hs
 have ncs := Sl.ok.nc oks
 have hns : s.n = s.xs.length := rfl
 refine Mj ?_ Tryz.func186 (WS.start w)
 refine Mp ?_ Tryz.call216 (fun bs w hS => idx_bytes _ w (Sl.rd.kp hs hS.kp))
 exact Meb (decide ((0 : Int) ≤ mIdx nameBad s.xs)) (by simp only [retOf, den, List.map_cons, List.map_nil, mIdx_nonneg])

theorem lock_Name (s : ByteArray) (w : World) (hs : s.size ≤ 9223372036854775807) : Calls Tryz.prog 129 #[vs s] w fun e w' => e = .returned (vb (mName s)) ∧ Kp [] w w' := by
 refine M0 ?_ Tryz.func129
 refine Mdn (s = emp) (fun h1 => ?_) fun h1 => ?_
 · exact Meb false (by simp [retOf, den, mName, *])
 refine Md ((s.size : Int) ≤ 6) (fun h2 => ?_) fun h2 => ?_
 rotate_left
 · exact Meb false (by simp [retOf, den, mName, *])
 refine Msy ?_ (e := 5) (by unfold maxLen; omega)
 rintro fp1 y1 hF1 hok1
 refine Mp ?_ Tryz.call186 (fun bs w hS => has_bytes _ w (hS.res _ i0))
 exact Meb (!(y1.xs.any nameBad)) (by simp [retOf, den, mName, *])

theorem ref_NameMay (s : ByteArray) (w : World) (hs : s.size ≤ 9223372036854775807) : Calls Tryz.prog 107 #[vs s] w fun e w' => e = .returned (vb (mName s)) ∧ Kp [] w w' := by
 refine M0 ?_ Tryz.func107
 refine Ml (σ := Nat) (fun i => i ≤ s.size ∧ ∀ j, j < i → nameBad (s.data.getD j 0) = false) (fun i => s.size - i) (fun _ => []) [3, 0] (fun i => [(3, vI (i : Int))]) (fun _ => []) ?_ 0 ⟨Nat.zero_le _, fun j hj => absurd hj (Nat.not_lt_zero _)⟩
 rintro i ⟨hi, hI⟩ _ on1
 have hu := (s.data.getD i 0).toNat_lt
 refine Md ((i : Int) < (s.size : Int)) (fun h1 => ?_) fun h1 => ?_
 rotate_left
 · refine Mp ?_ Tryz.call51 (fun bs w hS => ref_In (s.size : Int) 1 6 w)
   exact Meb (inB (s.size : Int) 1 6) (by simp only [retOf, den, List.map_cons, List.map_nil, mName_good fun j hj => hI j (by omega)])
 refine Mi ?_ (pc (pG [(12, .sidx i)] (oc (rfl : (i : Int) = (i : Int)) (oc ((by omega) : i < s.size) on))) (pc (pP (0 ≤ ((s.data.getD i 0).toNat : Int))) (pP (((s.data.getD i 0).toNat : Int) ≤ 255))))
 refine Mp ?_ Tryz.call51 (fun bs w hS => ref_In ((s.data.getD i 0).toNat : Int) 97 122 w)
 refine Mbn (inB ((s.data.getD i 0).toNat : Int) 97 122) (fun h2 => ?_) fun h2 => ?_
 rotate_left
 · refine Mt [vb false] fun bs w hS => ?_
   clear on1
   refine ⟨?_, hS.kp⟩
   rw [mName_bad (i := i) (by omega) (by simp only [inB, nameBad, Bool.and_eq_false_iff, Bool.or_eq_true, decide_eq_true_eq, decide_eq_false_iff_not] at *; omega)]
   rfl
 refine Mi ?_ (pR ((i : Int) + 1))
 exact on1 (i + 1) ⟨by omega, fun j hj => by rcases Nat.lt_succ_iff_lt_or_eq.1 hj with h | h; exact hI j h; subst h; simp only [inB, nameBad, Bool.and_eq_true, Bool.or_eq_false_iff, decide_eq_true_eq, decide_eq_false_iff_not] at *; omega⟩ (by omega)

theorem codec_ReadNumber (s : ByteArray) (w : World) (hs : s.size ≤ 9223372036854775807) : Calls Tryz.prog 132 #[.string s] w fun e w' => e = .returned (.tuple #[.int .i64 (mRead s).1, .string (mRead s).2.1, .int .i64 (mRead s).2.2]) ∧ Kp [] w w' := by
 refine M0 ?_ Tryz.func132
 refine Ml (σ := Nat × Int) (fun ⟨i, n⟩ => RdIn s i n) (fun ⟨i, n⟩ => 6 - i) (fun _ => []) [6, 5, 0] (fun ⟨i, n⟩ => [(6, vI (i : Int)), (5, vI n)]) (fun _ => []) ?_ (⟨0, 0⟩) (RdIn.start s)
 rintro ⟨i, n⟩ hI _ on1
 have hle := hI.le
 have hsz := hI.sz
 have hlo := hI.lo
 have hhi := hI.hi
 have hu := (s.data.getD i 0).toNat_lt
 have hbt := and127_bd (s.data.getD i 0)
 refine Md ((i : Int) < 6) (fun h1 => ?_) (fun h1 => ?_)
 rotate_left
 · refine Mt [.int .i64 0, .string emp, .int .i64 4] fun bs w hS => ?_
   refine ⟨?_, hS.kp⟩
   rw [hI.out (by omega)]
   simp only [retOf, den, List.map_cons, List.map_nil]
 refine Md ((i : Int) = (s.size : Int)) (fun h2 => ?_) fun h2 => ?_
 · refine Mt [vi 0, ve, vi 5] fun bs w hS => ?_
   refine ⟨?_, hS.kp⟩
   rw [hI.short (by omega) (by omega)]
   simp only [retOf, den, List.map_cons, List.map_nil]
 refine Mi ?_ (pc (pG [(18, .sidx i)] (oc (rfl : (i : Int) = (i : Int)) (oc ((by omega) : i < s.size) on))) (pc (pP (0 ≤ (bits .and .u8 ((s.data.getD i 0).toNat : Int) 127))) (pc (pP ((bits .and .u8 ((s.data.getD i 0).toNat : Int) 127) ≤ 255)) (pc (pR ((7 : Int) * (i : Int))) (pc (pP ((0 : Int) ≤ (7 : Int) * (i : Int))) (pc (pP ((7 : Int) * (i : Int) ≤ (64 : Int))) (pG [(27, .sidx i)] (oc (rfl : (i : Int) = (i : Int)) (oc ((by omega) : i < s.size) on)))))))))
 refine Md ((128 : Int) ≤ ((s.data.getD i 0).toNat : Int)) (fun h3 => ?_) fun h3 => ?_
 · refine Mi ?_ (pR ((i : Int) + 1))
   exact on1 ⟨i + 1, bits .or .i64 n (IntKind.i64.wrap ((bits .and .u8 ((s.data.getD i 0).toNat : Int) 127) * 2 ^ ((7 : Int) * (i : Int) : Int).toNat))⟩ (by show RdIn s (i + 1) _; rw [or_shift s i n hI.lo hI.hi (by omega)]; exact hI.step (by omega) (by omega) (by omega)) (by show 6 - (i + 1) < 6 - i; omega)
 refine Mi ?_ (pG [(31, .sidx i)] (oc (rfl : (i : Int) = (i : Int)) (oc ((by omega) : i < s.size) on)))
 refine Md (((s.data.getD i 0).toNat : Int) = 0) (fun h4 => ?_) fun h4 => ?_
 rotate_left
 · refine Md ((1099511627776 : Int) < bits .or .i64 n (IntKind.i64.wrap ((bits .and .u8 ((s.data.getD i 0).toNat : Int) 127) * 2 ^ ((7 : Int) * (i : Int) : Int).toNat))) (fun h7 => ?_) fun h7 => ?_
   · refine Mt [.int .i64 0, .string emp, .int .i64 4] fun bs w hS => ?_
     refine ⟨?_, hS.kp⟩
     have hor := or_shift s i n hI.lo hI.hi (by omega)
     try rw [hor] at h7
     try rw [hor]
     rw [hI.last (by omega) (by omega) (by omega), if_pos (by omega)]
     simp only [retOf, den, List.map_cons, List.map_nil]
   refine Mda 8 [] [] [] Tryz_mixed ?_
   refine Mih ?_ (pc (pR ((i : Int) + 1)) (pG [(45, .sl (i + 1) s.size)] (oc ((by omega) : (i : Int) + 1 = (((i + 1) : Nat) : Int)) (oc (rfl : s.size = s.size) (oc ((by omega) : (i + 1) ≤ s.size) on)))))
   refine Mt [vi (bits .or .i64 n (IntKind.i64.wrap ((bits .and .u8 ((s.data.getD i 0).toNat : Int) 127) * 2 ^ ((7 : Int) * (i : Int) : Int).toNat))), vs (s.extract (i + 1) s.size), vi 0] fun bs w hS => ?_
   refine ⟨?_, hS.kp⟩
   have hor := or_shift s i n hI.lo hI.hi (by omega)
   try rw [hor] at h7
   try rw [hor]
   rw [hI.last (by omega) (by omega) (by omega), if_neg (by omega)]
   simp only [retOf, den, List.map_cons, List.map_nil]
 refine Md ((0 : Int) < (i : Int)) (fun h5 => ?_) fun h5 => ?_
 · refine Mt [.int .i64 0, .string emp, .int .i64 4] fun bs w hS => ?_
   refine ⟨?_, hS.kp⟩
   have hor := or_shift s i n hI.lo hI.hi (by omega)
   try rw [hor] at h5
   try rw [hor]
   rw [hI.last (by omega) (by omega) (by omega), if_pos (by omega)]
   simp only [retOf, den, List.map_cons, List.map_nil]
 refine Md ((1099511627776 : Int) < bits .or .i64 n (IntKind.i64.wrap ((bits .and .u8 ((s.data.getD i 0).toNat : Int) 127) * 2 ^ ((7 : Int) * (i : Int) : Int).toNat))) (fun h6 => ?_) fun h6 => ?_
 · refine Mt [.int .i64 0, .string emp, .int .i64 4] fun bs w hS => ?_
   refine ⟨?_, hS.kp⟩
   have hor := or_shift s i n hI.lo hI.hi (by omega)
   try rw [hor] at h6
   try rw [hor]
   rw [hI.last (by omega) (by omega) (by omega), if_pos (by omega)]
   simp only [retOf, den, List.map_cons, List.map_nil]
 refine Mda 8 [] [] [] Tryz_mixed ?_
 refine Mih ?_ (pc (pR ((i : Int) + 1)) (pG [(45, .sl (i + 1) s.size)] (oc ((by omega) : (i : Int) + 1 = (((i + 1) : Nat) : Int)) (oc (rfl : s.size = s.size) (oc ((by omega) : (i + 1) ≤ s.size) on)))))
 refine Mt [vi (bits .or .i64 n (IntKind.i64.wrap ((bits .and .u8 ((s.data.getD i 0).toNat : Int) 127) * 2 ^ ((7 : Int) * (i : Int) : Int).toNat))), vs (s.extract (i + 1) s.size), vi 0] fun bs w hS => ?_
 refine ⟨?_, hS.kp⟩
 have hor := or_shift s i n hI.lo hI.hi (by omega)
 try rw [hor] at h6
 try rw [hor]
 rw [hI.last (by omega) (by omega) (by omega), if_neg (by omega)]
 simp only [retOf, den, List.map_cons, List.map_nil]

theorem ref_NumberOf (s : ByteArray) (w : World) (hs : s.size ≤ 9223372036854775807) : Calls Tryz.prog 95 #[.string s] w fun e w' => e = .returned (.tuple #[.int .i64 (mRead s).1, .string (mRead s).2.1, .int .i64 (mRead s).2.2]) ∧ Kp [] w w' := by
 refine M0 ?_ Tryz.func95
 refine Ml (σ := Nat × Int) (fun ⟨i, n⟩ => RdIn s i n) (fun ⟨i, n⟩ => 6 - i) (fun _ => []) [7, 6, 5, 0] (fun ⟨i, n⟩ => [(7, vI (i : Int)), (6, vI ((128 : Int) ^ i)), (5, vI n)]) (fun _ => []) ?_ (⟨0, 0⟩) (RdIn.start s)
 rintro ⟨i, n⟩ hI _ on1
 have hle := hI.le
 have hsz := hI.sz
 have hlo := hI.lo
 have hhi := hI.hi
 have hu := (s.data.getD i 0).toNat_lt
 have hbt := unit_bd (s.data.getD i 0) i hle
 refine Md ((i : Int) < 6) (fun h1 => ?_) (fun h1 => ?_)
 rotate_left
 · refine Mt [.int .i64 0, .string emp, .int .i64 4] fun bs w hS => ?_
   refine ⟨?_, hS.kp⟩
   rw [hI.out (by omega)]
   simp only [retOf, den, List.map_cons, List.map_nil]
 refine Md ((s.size : Int) ≤ (i : Int)) (fun h2 => ?_) fun h2 => ?_
 · refine Mt [vi 0, ve, vi 5] fun bs w hS => ?_
   refine ⟨?_, hS.kp⟩
   rw [hI.short (by omega) (by omega)]
   simp only [retOf, den, List.map_cons, List.map_nil]
 refine Mi ?_ (pc (pG [(20, .sidx i)] (oc (rfl : (i : Int) = (i : Int)) (oc ((by omega) : i < s.size) on))) (pc (pP (0 ≤ ((s.data.getD i 0).toNat : Int))) (pc (pP (((s.data.getD i 0).toNat : Int) ≤ 255)) (pc (pP (0 ≤ ((s.data.getD i 0).toNat : Int))) (pc (pP ((0 : Int) < 128)) (pc (pR (((128 : Int) ^ i) * (((s.data.getD i 0).toNat : Int) % 128))) (pc (pR (n + (((128 : Int) ^ i) * (((s.data.getD i 0).toNat : Int) % 128)))) (pc (pR (((128 : Int) ^ i) * 128)) (pG [(29, .sidx i)] (oc (rfl : (i : Int) = (i : Int)) (oc ((by omega) : i < s.size) on)))))))))))
 refine Md (((s.data.getD i 0).toNat : Int) < 128) (fun h3 => ?_) fun h3 => ?_
 rotate_left
 · refine Mi ?_ (pR ((i : Int) + 1))
   exact on1 ⟨i + 1, n + (((128 : Int) ^ i) * (((s.data.getD i 0).toNat : Int) % 128))⟩ (hI.step (by omega) (by omega) (by omega)) (by show 6 - (i + 1) < 6 - i; omega) (hp := (by simp only [Int.pow_succ]; kernel_rfl))
 refine Md ((0 : Int) < (i : Int)) (fun h4 => ?_) fun h4 => ?_
 rotate_left
 · refine Md ((1099511627776 : Int) < n + (((128 : Int) ^ i) * (((s.data.getD i 0).toNat : Int) % 128))) (fun h7 => ?_) fun h7 => ?_
   · refine Mt [.int .i64 0, .string emp, .int .i64 4] fun bs w hS => ?_
     refine ⟨?_, hS.kp⟩
     rw [hI.last (by omega) (by omega) (by omega), if_pos (by omega)]
     simp only [retOf, den, List.map_cons, List.map_nil]
   refine Mda 8 [] [] [] Tryz_mixed ?_
   refine Mih ?_ (pc (pR ((i : Int) + 1)) (pG [(47, .sl (i + 1) s.size)] (oc ((by omega) : (i : Int) + 1 = (((i + 1) : Nat) : Int)) (oc (rfl : s.size = s.size) (oc ((by omega) : (i + 1) ≤ s.size) on)))))
   refine Mt [vi (n + (((128 : Int) ^ i) * (((s.data.getD i 0).toNat : Int) % 128))), vs (s.extract (i + 1) s.size), vi 0] fun bs w hS => ?_
   refine ⟨?_, hS.kp⟩
   rw [hI.last (by omega) (by omega) (by omega), if_neg (by omega)]
   simp only [retOf, den, List.map_cons, List.map_nil]
 refine Mi ?_ (pG [(36, .sidx i)] (oc (rfl : (i : Int) = (i : Int)) (oc ((by omega) : i < s.size) on)))
 refine Md (((s.data.getD i 0).toNat : Int) = 0) (fun h5 => ?_) fun h5 => ?_
 · refine Mt [.int .i64 0, .string emp, .int .i64 4] fun bs w hS => ?_
   refine ⟨?_, hS.kp⟩
   rw [hI.last (by omega) (by omega) (by omega), if_pos (by omega)]
   simp only [retOf, den, List.map_cons, List.map_nil]
 refine Md ((1099511627776 : Int) < n + (((128 : Int) ^ i) * (((s.data.getD i 0).toNat : Int) % 128))) (fun h6 => ?_) fun h6 => ?_
 · refine Mt [.int .i64 0, .string emp, .int .i64 4] fun bs w hS => ?_
   refine ⟨?_, hS.kp⟩
   rw [hI.last (by omega) (by omega) (by omega), if_pos (by omega)]
   simp only [retOf, den, List.map_cons, List.map_nil]
 refine Mda 8 [] [] [] Tryz_mixed ?_
 refine Mih ?_ (pc (pR ((i : Int) + 1)) (pG [(47, .sl (i + 1) s.size)] (oc ((by omega) : (i : Int) + 1 = (((i + 1) : Nat) : Int)) (oc (rfl : s.size = s.size) (oc ((by omega) : (i + 1) ≤ s.size) on)))))
 refine Mt [vi (n + (((128 : Int) ^ i) * (((s.data.getD i 0).toNat : Int) % 128))), vs (s.extract (i + 1) s.size), vi 0] fun bs w hS => ?_
 refine ⟨?_, hS.kp⟩
 rw [hI.last (by omega) (by omega) (by omega), if_neg (by omega)]
 simp only [retOf, den, List.map_cons, List.map_nil]

theorem codec_ReadText (s : ByteArray) (w : World) (hs : s.size ≤ 9223372036854775807) : Calls Tryz.prog 133 #[vs s] w fun e w' => e = .returned (.tuple #[vs (mTell s).1, vs (mTell s).2.1, vi (mTell s).2.2]) ∧ Kp [] w w' := by
 have hb := mRead_bd s
 refine M0 ?_ Tryz.func133
 refine Mp ?_ Tryz.call132 (fun bs w hS => codec_ReadNumber _ w (by first | assumption | omega | (simp only [emp_size]; omega)))
 refine Mdn ((mRead s).2.2 = 0) (fun h1 => ?_) fun h1 => ?_
 rotate_left
 · refine Mt [ve, ve, vi (mRead s).2.2] fun bs w hS => ?_
   refine ⟨?_, hS.kp⟩
   simp only [retOf, den, List.map_cons, List.map_nil]
   grind [mTell]
 refine Md ((5000 : Int) < (mRead s).1) (fun h2 => ?_) fun h2 => ?_
 · refine Mt [ve, ve, vi 1] fun bs w hS => ?_
   refine ⟨?_, hS.kp⟩
   simp only [retOf, den, List.map_cons, List.map_nil]
   grind [mTell]
 refine Md (((mRead s).2.1.size : Int) < (mRead s).1) (fun h3 => ?_) fun h3 => ?_
 · refine Mt [ve, ve, vi 5] fun bs w hS => ?_
   refine ⟨?_, hS.kp⟩
   simp only [retOf, den, List.map_cons, List.map_nil]
   grind [mTell]
 refine Mda 9 [] [] [] Tryz_mixed ?_
 refine Mih ?_ (pc (pG [(25, .sl 0 (mRead s).1.toNat)] (oc (rfl : 0 = 0) (oc ((by omega) : (mRead s).1 = (((mRead s).1.toNat : Nat) : Int)) (oc ((by omega) : (mRead s).1.toNat ≤ (mRead s).2.1.size) on)))) (pG [(28, .sl (mRead s).1.toNat (mRead s).2.1.size)] (oc ((by omega) : (mRead s).1 = (((mRead s).1.toNat : Nat) : Int)) (oc (rfl : (mRead s).2.1.size = (mRead s).2.1.size) (oc ((by omega) : (mRead s).1.toNat ≤ (mRead s).2.1.size) on)))))
 refine Mt [vs ((mRead s).2.1.extract 0 (mRead s).1.toNat), vs ((mRead s).2.1.extract (mRead s).1.toNat (mRead s).2.1.size), vi 0] fun bs w hS => ?_
 refine ⟨?_, hS.kp⟩
 simp only [retOf, den, List.map_cons, List.map_nil]
 grind [mTell]

theorem ref_TextOf (s : ByteArray) (w : World) (hs : s.size ≤ 9223372036854775807) : Calls Tryz.prog 96 #[vs s] w fun e w' => e = .returned (.tuple #[vs (mTell s).1, vs (mTell s).2.1, vi (mTell s).2.2]) ∧ Kp [] w w' := by
 have hb := mRead_bd s
 refine M0 ?_ Tryz.func96
 refine Mp ?_ Tryz.call95 (fun bs w hS => ref_NumberOf _ w (by first | assumption | omega | (simp only [emp_size]; omega)))
 refine Md ((mRead s).2.2 = 0) (fun h1 => ?_) fun h1 => ?_
 rotate_left
 · refine My false false ?_ (df h1)
   refine My false true ?_ (df h1)
   refine Mt [ve, ve, vi (mRead s).2.2] fun bs w hS => ?_
   refine ⟨?_, hS.kp⟩
   simp only [retOf, den, List.map_cons, List.map_nil]
   grind [mTell]
 refine Md ((5000 : Int) < (mRead s).1) (fun h2 => ?_) fun h2 => ?_
 · refine Mq 22 false ?_ rfl
   refine Mq 29 true ?_ rfl
   refine Mt [ve, ve, vi 1] fun bs w hS => ?_
   refine ⟨?_, hS.kp⟩
   simp only [retOf, den, List.map_cons, List.map_nil]
   grind [mTell]
 refine My true false ?_ (dt h1)
 refine Md (((mRead s).2.1.size : Int) < (mRead s).1) (fun h4 => ?_) fun h4 => ?_
 · refine Mq 29 true ?_ rfl
   refine Mt [ve, ve, vi 5] fun bs w hS => ?_
   refine ⟨?_, hS.kp⟩
   simp only [retOf, den, List.map_cons, List.map_nil]
   grind [mTell]
 refine My true true ?_ (dt h1)
 refine Mda 9 [] [] [] Tryz_mixed ?_
 refine Mih ?_ (pc (pG [(33, .sl 0 (mRead s).1.toNat)] (oc (rfl : 0 = 0) (oc ((by omega) : (mRead s).1 = (((mRead s).1.toNat : Nat) : Int)) (oc ((by omega) : (mRead s).1.toNat ≤ (mRead s).2.1.size) on)))) (pG [(36, .sl (mRead s).1.toNat (mRead s).2.1.size)] (oc ((by omega) : (mRead s).1 = (((mRead s).1.toNat : Nat) : Int)) (oc (rfl : (mRead s).2.1.size = (mRead s).2.1.size) (oc ((by omega) : (mRead s).1.toNat ≤ (mRead s).2.1.size) on)))))
 refine Mt [vs ((mRead s).2.1.extract 0 (mRead s).1.toNat), vs ((mRead s).2.1.extract (mRead s).1.toNat (mRead s).2.1.size), vi 0] fun bs w hS => ?_
 refine ⟨?_, hS.kp⟩
 simp only [retOf, den, List.map_cons, List.map_nil]
 grind [mTell]

theorem command_CheckOp {B : Nat → Prop} (x : DOp) (w : World) (hx : Rds.sub B w x) : Calls Tryz.prog 134 #[x.val] w fun e w' => e = .returned (vi (mOp x)) ∧ Kp [] w w' := by
 have okx := Rds.okof hx
 refine M0 ?_ Tryz.func134
 refine Md (x.kind < 1) (fun h1 => ?_) fun h1 => ?_
 · exact Me0 3 (by grind [mOp])
 refine Md ((6 : Int) < x.kind) (fun h2 => ?_) fun h2 => ?_
 · exact Me0 3 (by grind [mOp])
 refine Mp ?_ Tryz.call129 (fun bs w hS => lock_Name _ w okx.1)
 refine Mbn (mName x.a) (fun h3 => ?_) fun h3 => ?_
 rotate_left
 · exact Me0 4 (by grind [mOp])
 refine Mdn (x.kind = 5) (fun h4 => ?_) fun h4 => ?_
 · refine Md ((12 : Int) < (x.b.size : Int)) (fun h5 => ?_) fun h5 => ?_
   · exact Me0 1 (by grind [mOp])
   refine My true false ?_ (dt h4)
   refine Md (x.n < 1) (fun h7 => ?_) fun h7 => ?_
   · exact Me0 2 (by grind [mOp])
   refine Md ((1073741824 : Int) < x.n) (fun h8 => ?_) fun h8 => ?_
   · exact Me0 2 (by grind [mOp])
   refine My true true ?_ (dt h4)
   exact Me0 0 (by grind [mOp])
 refine Mdn (x.b = emp) (fun h10 => ?_) fun h10 => ?_
 rotate_left
 · exact Me0 4 (by grind [mOp])
 have hzh10 : x.b.size = 0 := by rw [h10]; rfl
 refine Md ((12 : Int) < (x.b.size : Int)) (fun h11 => ?_) fun h11 => ?_
 · exact Me0 1 (by grind [mOp])
 refine My false false ?_ (df h4)
 refine My false true ?_ (df h4)
 refine Mdn (x.n = 0) (fun h14 => ?_) fun h14 => ?_
 · exact Me0 0 (by grind [mOp])
 exact Me0 2 (by grind [mOp])

theorem ref_OpFault {B : Nat → Prop} (x : DOp) (w : World) (hx : Rds.sub B w x) : Calls Tryz.prog 155 #[x.val] w fun e w' => e = .returned (vi (mOp x)) ∧ Kp [] w w' := by
 have okx := Rds.okof hx
 refine M0 ?_ Tryz.func155
 refine Mp ?_ Tryz.call51 (fun bs w hS => ref_In x.kind 1 6 w)
 refine Mbn (inB x.kind 1 6) (fun h1 => ?_) fun h1 => ?_
 rotate_left
 · simp only [iT, iF] at h1
   exact Me0 3 (by grind [mOp])
 simp only [iT, iF] at h1
 refine Mp ?_ Tryz.call107 (fun bs w hS => ref_NameMay _ w okx.1)
 refine Mbn (mName x.a) (fun h2 => ?_) fun h2 => ?_
 rotate_left
 · exact Me0 4 (by grind [mOp])
 refine Mdn (x.b = emp) (fun h3 => ?_) fun h3 => ?_
 rotate_left
 · refine Mdn (x.kind = 5) (fun h8 => ?_) fun h8 => ?_
   rotate_left
   · exact Me0 4 (by grind [mOp])
   refine Md ((12 : Int) < (x.b.size : Int)) (fun h9 => ?_) fun h9 => ?_
   · exact Me0 1 (by grind [mOp])
   refine My true false ?_ (dt h8)
   refine Mp ?_ Tryz.call51 (fun bs w hS => ref_In x.n 1 1073741824 w)
   refine Mbn (inB x.n 1 1073741824) (fun h11 => ?_) fun h11 => ?_
   · simp only [iT, iF] at h11
     exact Me0 0 (by grind [mOp])
   simp only [iT, iF] at h11
   exact Me0 2 (by grind [mOp])
 have hzh3 : x.b.size = 0 := by rw [h3]; rfl
 refine Md ((12 : Int) < (x.b.size : Int)) (fun h4 => ?_) fun h4 => ?_
 · exact Me0 1 (by grind [mOp])
 refine Md (x.kind = 5) (fun h5 => ?_) fun h5 => ?_
 rotate_left
 · refine Mdn (x.n = 0) (fun h7 => ?_) fun h7 => ?_
   · exact Me0 0 (by grind [mOp])
   exact Me0 2 (by grind [mOp])
 refine Mp ?_ Tryz.call51 (fun bs w hS => ref_In x.n 1 1073741824 w)
 refine Mbn (inB x.n 1 1073741824) (fun h6 => ?_) fun h6 => ?_
 · simp only [iT, iF] at h6
   exact Me0 0 (by grind [mOp])
 simp only [iT, iF] at h6
 exact Me0 2 (by grind [mOp])

theorem command_Check {B : Nat → Prop} (x : DCommand) (w : World) (hx : Rds.sub B w x) : Calls Tryz.prog 67 #[x.val] w fun e w' => e = .returned (vi (mCmd x)) ∧ Kp [] w w' := by
 have okx := Rds.okof hx
 refine M0 ?_ Tryz.func67
 refine Md (x.kind < 1) (fun h1 => ?_) fun h1 => ?_
 · exact Me0 3 (by grind [mCmd])
 refine Md ((3 : Int) < x.kind) (fun h2 => ?_) fun h2 => ?_
 · exact Me0 3 (by grind [mCmd])
 refine Md (x.client < 1) (fun h3 => ?_) fun h3 => ?_
 · exact Me0 2 (by grind [mCmd])
 refine Md ((9 : Int) < x.client) (fun h4 => ?_) fun h4 => ?_
 · exact Me0 2 (by grind [mCmd])
 refine Mdn (x.kind = 2) (fun h5 => ?_) fun h5 => ?_
 rotate_left
 · refine Mdn (x.session = 0) (fun h12 => ?_) fun h12 => ?_
   rotate_left
   · exact Me0 4 (by grind [mCmd])
   refine Mdn (x.seq = 0) (fun h13 => ?_) fun h13 => ?_
   rotate_left
   · exact Me0 4 (by grind [mCmd])
   refine Mdn (x.acked = 0) (fun h14 => ?_) fun h14 => ?_
   rotate_left
   · exact Me0 4 (by grind [mCmd])
   refine Mi ?_ (pG [(39, .val (vb (!((decide (x.op.kind = 0)) && ((decide (x.op.a = emp)) && ((decide (x.op.b = emp)) && ((decide (x.op.n = 0)) && true)))))))] (oc ((neq_agg (by kernel_rfl) (by kernel_rfl)) : ∀ w, (do eqGuard .neq 61 (.tmp 37) (.tmp 38) x.op.val (.agg #[vi 0, ve, ve, vi 0]); binOp .neq 61 x.op.val (.agg #[vi 0, ve, ve, vi 0]) : Sem Value).run Tryz.prog w = .ok (vb (!((decide (x.op.kind = 0)) && ((decide (x.op.a = emp)) && ((decide (x.op.b = emp)) && ((decide (x.op.n = 0)) && true)))))) w) on))
   refine Mbn ((decide (x.op.kind = 0)) && ((decide (x.op.a = emp)) && ((decide (x.op.b = emp)) && ((decide (x.op.n = 0)) && true)))) (fun h15 => ?_) fun h15 => ?_
   · simp only [Bool.and_eq_true, decide_eq_true_eq, and_true] at h15
     exact Me0 0 (by grind [mCmd])
   rw [Bool.eq_false_iff] at h15
   simp only [ne_eq, Bool.and_eq_true, decide_eq_true_eq, and_true] at h15
   exact Me0 4 (by grind [mCmd])
 refine Md (x.session < 1) (fun h6 => ?_) fun h6 => ?_
 · exact Me0 2 (by grind [mCmd])
 refine Md ((1073741824 : Int) < x.session) (fun h7 => ?_) fun h7 => ?_
 · exact Me0 2 (by grind [mCmd])
 refine Md (x.seq < 1) (fun h8 => ?_) fun h8 => ?_
 · exact Me0 2 (by grind [mCmd])
 refine Md ((1048576 : Int) < x.seq) (fun h9 => ?_) fun h9 => ?_
 · exact Me0 2 (by grind [mCmd])
 refine Md (x.acked < 0) (fun h10 => ?_) fun h10 => ?_
 · exact Me0 2 (by grind [mCmd])
 refine Md (x.seq ≤ x.acked) (fun h11 => ?_) fun h11 => ?_
 · exact Me0 2 (by grind [mCmd])
 refine Mp ?_ Tryz.call134 (fun bs w hS => command_CheckOp (B := anyB) x.op w ⟨okx.1, okx.2⟩)
 exact Me0 (mOp x.op) (by grind [mCmd])

theorem ref_CommandFault {B : Nat → Prop} (x : DCommand) (w : World) (hx : Rds.sub B w x) : Calls Tryz.prog 97 #[x.val] w fun e w' => e = .returned (vi (mCmd x)) ∧ Kp [] w w' := by
 have okx := Rds.okof hx
 refine M0 ?_ Tryz.func97
 refine Mp ?_ Tryz.call51 (fun bs w hS => ref_In x.kind 1 3 w)
 refine Mbn (inB x.kind 1 3) (fun h1 => ?_) fun h1 => ?_
 rotate_left
 · simp only [iT, iF] at h1
   exact Me0 3 (by grind [mCmd])
 simp only [iT, iF] at h1
 refine Mp ?_ Tryz.call51 (fun bs w hS => ref_In x.client 1 9 w)
 refine Mbn (inB x.client 1 9) (fun h2 => ?_) fun h2 => ?_
 rotate_left
 · simp only [iT, iF] at h2
   exact Me0 2 (by grind [mCmd])
 simp only [iT, iF] at h2
 refine Md (x.kind = 2) (fun h3 => ?_) fun h3 => ?_
 · refine Mp ?_ Tryz.call51 (fun bs w hS => ref_In x.session 1 1073741824 w)
   refine Mbn (inB x.session 1 1073741824) (fun h4 => ?_) fun h4 => ?_
   rotate_left
   · simp only [iT, iF] at h4
     exact Me0 2 (by grind [mCmd])
   simp only [iT, iF] at h4
   refine Mp ?_ Tryz.call51 (fun bs w hS => ref_In x.seq 1 1048576 w)
   refine Mbn (inB x.seq 1 1048576) (fun h5 => ?_) fun h5 => ?_
   rotate_left
   · simp only [iT, iF] at h5
     exact Me0 2 (by grind [mCmd])
   simp only [iT, iF] at h5
   refine Mi ?_ (pR (x.seq - 1))
   refine Mp ?_ Tryz.call51 (fun bs w hS => ref_In x.acked 0 (x.seq - 1) w)
   refine Mbn (inB x.acked 0 (x.seq - 1)) (fun h6 => ?_) fun h6 => ?_
   rotate_left
   · simp only [iT, iF] at h6
     exact Me0 2 (by grind [mCmd])
   simp only [iT, iF] at h6
   refine Mp ?_ Tryz.call155 (fun bs w hS => ref_OpFault (B := anyB) x.op w ⟨okx.1, okx.2⟩)
   exact Me0 (mOp x.op) (by grind [mCmd])
 refine Mdn (x.session = 0) (fun h7 => ?_) fun h7 => ?_
 rotate_left
 · exact Me0 4 (by grind [mCmd])
 refine Mdn (x.seq = 0) (fun h8 => ?_) fun h8 => ?_
 rotate_left
 · exact Me0 4 (by grind [mCmd])
 refine Mdn (x.acked = 0) (fun h9 => ?_) fun h9 => ?_
 rotate_left
 · exact Me0 4 (by grind [mCmd])
 refine Mdn (x.op.kind = 0) (fun h10 => ?_) fun h10 => ?_
 rotate_left
 · exact Me0 4 (by grind [mCmd])
 refine Mdn (x.op.a = emp) (fun h11 => ?_) fun h11 => ?_
 rotate_left
 · exact Me0 4 (by grind [mCmd])
 have hzh11 : x.op.a.size = 0 := by rw [h11]; rfl
 refine Mdn (x.op.b = emp) (fun h12 => ?_) fun h12 => ?_
 rotate_left
 · exact Me0 4 (by grind [mCmd])
 have hzh12 : x.op.b.size = 0 := by rw [h12]; rfl
 refine Mdn (x.op.n = 0) (fun h13 => ?_) fun h13 => ?_
 · exact Me0 0 (by grind [mCmd])
 exact Me0 4 (by grind [mCmd])

theorem command_body (c : DCommand) (b : Nat) (t : ByteArray) (w : World) (hb : (blkR b 63 [vi c.kind, vi c.client, vi c.session, vi c.seq, vi c.acked, vi c.op.kind, vs c.op.a, vs c.op.b, vi c.op.n]).p w) (ht : t.size ≤ 9223372036854775807) (hc : Rds.ok c) : Calls Tryz.prog 66 #[.pointer (some ⟨b, 0, none⟩), vs t] w fun e w' => ∃ y : DCommand, e = .returned (.tuple #[vs (mBody c t).2.1, vi (mBody c t).2.2]) ∧ (((mBody c t).2.2 = 0 → y = (mBody c t).1) ∧ Rds.ok y) ∧ Kp [b] w w' ∧ (blkR b 63 [vi y.kind, vi y.client, vi y.session, vi y.seq, vi y.acked, vi y.op.kind, vs y.op.a, vs y.op.b, vi y.op.n]).p w' := by
 refine Mj ?_ Tryz.func66 (WS.start1 w _ hb (by simp [blkR]) (blkR_lt hb))
 refine Mdr 20 ?_ Tryz_mixed
 refine M1 ?_
 refine Mz ?_
 refine Mun 6 fun _ on1 => ?_
 refine Mq 32 true ?_ rfl
 refine Mi ?_ (pG [(33, .idx default 0)] (oc (rfl : (0 : Int) = ((0 : Nat) : Int)) (oc ((by omega) : 0 < 5) on)))
 refine Mp ?_ (vs := fun bs => [vs t]) Tryz.call132 (fun bs w hS => codec_ReadNumber _ w (by first | assumption | omega | (simp only [emp_size]; omega)))
 have hzr1 := mRead_bd t
 generalize hr1 : mRead t = r1 at hzr1 ⊢
 refine Msb 2 [vi c.kind, vi c.client, vi r1.1, vi c.seq, vi c.acked, vi c.op.kind, vs c.op.a, vs c.op.b, vi c.op.n] ?_
 refine Mdn (r1.2.2 = 0) (fun h1 => ?_) fun h1 => ?_
 rotate_left
 · refine Mt [ve, vi r1.2.2] fun bs w hS => ?_
   have hm : mBody c t = (c, emp, r1.2.2) := by grind [mBody]
   exact ⟨(⟨c.kind, c.client, r1.1, c.seq, c.acked, ⟨c.op.kind, c.op.a, c.op.b, c.op.n⟩⟩ : DCommand), by rw [hm]; rfl, ⟨fun h0 => absurd h0 (by rw [hm]; exact h1), ⟨hc.1, hc.2⟩⟩, hS.kp, hS.res _ i0⟩
 refine Mi ?_ (pR (1))
 refine on1 5 (J := ?_)
 refine Mq 32 true ?_ rfl
 refine Mi ?_ (pG [(33, .idx default 1)] (oc (rfl : (1 : Int) = ((1 : Nat) : Int)) (oc ((by omega) : 1 < 5) on)))
 refine Mp ?_ (vs := fun bs => [vs r1.2.1]) Tryz.call132 (fun bs w hS => codec_ReadNumber _ w (by first | assumption | omega | (simp only [emp_size]; omega)))
 have hzr2 := mRead_bd r1.2.1
 generalize hr2 : mRead r1.2.1 = r2 at hzr2 ⊢
 refine Msb 3 [vi c.kind, vi c.client, vi r1.1, vi r2.1, vi c.acked, vi c.op.kind, vs c.op.a, vs c.op.b, vi c.op.n] ?_
 refine Mdn (r2.2.2 = 0) (fun h2 => ?_) fun h2 => ?_
 rotate_left
 · refine Mt [ve, vi r2.2.2] fun bs w hS => ?_
   have hm : mBody c t = (c, emp, r2.2.2) := by grind [mBody]
   exact ⟨(⟨c.kind, c.client, r1.1, r2.1, c.acked, ⟨c.op.kind, c.op.a, c.op.b, c.op.n⟩⟩ : DCommand), by rw [hm]; rfl, ⟨fun h0 => absurd h0 (by rw [hm]; exact h2), ⟨hc.1, hc.2⟩⟩, hS.kp, hS.res _ i0⟩
 refine Mi ?_ (pR (2))
 refine on1 4 (J := ?_)
 refine Mq 32 true ?_ rfl
 refine Mi ?_ (pG [(33, .idx default 2)] (oc (rfl : (2 : Int) = ((2 : Nat) : Int)) (oc ((by omega) : 2 < 5) on)))
 refine Mp ?_ (vs := fun bs => [vs r2.2.1]) Tryz.call132 (fun bs w hS => codec_ReadNumber _ w (by first | assumption | omega | (simp only [emp_size]; omega)))
 have hzr3 := mRead_bd r2.2.1
 generalize hr3 : mRead r2.2.1 = r3 at hzr3 ⊢
 refine Msb 4 [vi c.kind, vi c.client, vi r1.1, vi r2.1, vi r3.1, vi c.op.kind, vs c.op.a, vs c.op.b, vi c.op.n] ?_
 refine Mdn (r3.2.2 = 0) (fun h3 => ?_) fun h3 => ?_
 rotate_left
 · refine Mt [ve, vi r3.2.2] fun bs w hS => ?_
   have hm : mBody c t = (c, emp, r3.2.2) := by grind [mBody]
   exact ⟨(⟨c.kind, c.client, r1.1, r2.1, r3.1, ⟨c.op.kind, c.op.a, c.op.b, c.op.n⟩⟩ : DCommand), by rw [hm]; rfl, ⟨fun h0 => absurd h0 (by rw [hm]; exact h3), ⟨hc.1, hc.2⟩⟩, hS.kp, hS.res _ i0⟩
 refine Mi ?_ (pR (3))
 refine on1 3 (J := ?_)
 refine Mq 32 true ?_ rfl
 refine Mi ?_ (pG [(33, .idx default 3)] (oc (rfl : (3 : Int) = ((3 : Nat) : Int)) (oc ((by omega) : 3 < 5) on)))
 refine Mp ?_ (vs := fun bs => [vs r3.2.1]) Tryz.call132 (fun bs w hS => codec_ReadNumber _ w (by first | assumption | omega | (simp only [emp_size]; omega)))
 have hzr4 := mRead_bd r3.2.1
 generalize hr4 : mRead r3.2.1 = r4 at hzr4 ⊢
 refine Msb 5 [vi c.kind, vi c.client, vi r1.1, vi r2.1, vi r3.1, vi r4.1, vs c.op.a, vs c.op.b, vi c.op.n] ?_
 refine Mdn (r4.2.2 = 0) (fun h4 => ?_) fun h4 => ?_
 rotate_left
 · refine Mt [ve, vi r4.2.2] fun bs w hS => ?_
   have hm : mBody c t = (c, emp, r4.2.2) := by grind [mBody]
   exact ⟨(⟨c.kind, c.client, r1.1, r2.1, r3.1, ⟨r4.1, c.op.a, c.op.b, c.op.n⟩⟩ : DCommand), by rw [hm]; rfl, ⟨fun h0 => absurd h0 (by rw [hm]; exact h4), ⟨hc.1, hc.2⟩⟩, hS.kp, hS.res _ i0⟩
 refine Mi ?_ (pR (4))
 refine on1 2 (J := ?_)
 refine Mq 32 true ?_ rfl
 refine Mi ?_ (pG [(33, .idx default 4)] (oc (rfl : (4 : Int) = ((4 : Nat) : Int)) (oc ((by omega) : 4 < 5) on)))
 refine Mp ?_ (vs := fun bs => [vs r4.2.1]) Tryz.call132 (fun bs w hS => codec_ReadNumber _ w (by first | assumption | omega | (simp only [emp_size]; omega)))
 have hzr5 := mRead_bd r4.2.1
 generalize hr5 : mRead r4.2.1 = r5 at hzr5 ⊢
 refine Msb 8 [vi c.kind, vi c.client, vi r1.1, vi r2.1, vi r3.1, vi r4.1, vs c.op.a, vs c.op.b, vi r5.1] ?_
 refine Mdn (r5.2.2 = 0) (fun h5 => ?_) fun h5 => ?_
 rotate_left
 · refine Mt [ve, vi r5.2.2] fun bs w hS => ?_
   have hm : mBody c t = (c, emp, r5.2.2) := by grind [mBody]
   exact ⟨(⟨c.kind, c.client, r1.1, r2.1, r3.1, ⟨r4.1, c.op.a, c.op.b, r5.1⟩⟩ : DCommand), by rw [hm]; rfl, ⟨fun h0 => absurd h0 (by rw [hm]; exact h5), ⟨hc.1, hc.2⟩⟩, hS.kp, hS.res _ i0⟩
 refine Mi ?_ (pR (5))
 refine on1 1 (J := ?_)
 refine Mq 32 false ?_ rfl
 refine Mdr 11 ?_ Tryz_mixed
 refine M1 ?_
 refine Mz ?_
 refine Mun 3 fun _ on2 => ?_
 refine Mq 58 true ?_ rfl
 refine Mi ?_ (pG [(59, .idx default 0)] (oc (rfl : (0 : Int) = ((0 : Nat) : Int)) (oc ((by omega) : 0 < 2) on)))
 refine Mp ?_ (vs := fun bs => [vs r5.2.1]) Tryz.call133 (fun bs w hS => codec_ReadText _ w (by first | assumption | omega | (simp only [emp_size]; omega)))
 have hzr6 := mTell_bd r5.2.1
 generalize hr6 : mTell r5.2.1 = r6 at hzr6 ⊢
 refine Msb 6 [vi c.kind, vi c.client, vi r1.1, vi r2.1, vi r3.1, vi r4.1, vs r6.1, vs c.op.b, vi r5.1] ?_
 refine Mdn (r6.2.2 = 0) (fun h6 => ?_) fun h6 => ?_
 rotate_left
 · refine Mt [ve, vi r6.2.2] fun bs w hS => ?_
   have hm : mBody c t = (c, emp, r6.2.2) := by grind [mBody]
   exact ⟨(⟨c.kind, c.client, r1.1, r2.1, r3.1, ⟨r4.1, r6.1, c.op.b, r5.1⟩⟩ : DCommand), by rw [hm]; rfl, ⟨fun h0 => absurd h0 (by rw [hm]; exact h6), ⟨(show r6.1.size ≤ 9223372036854775807 by omega), hc.2⟩⟩, hS.kp, hS.res _ i0⟩
 refine Mi ?_ (pR (1))
 refine on2 2 (J := ?_)
 refine Mq 58 true ?_ rfl
 refine Mi ?_ (pG [(59, .idx default 1)] (oc (rfl : (1 : Int) = ((1 : Nat) : Int)) (oc ((by omega) : 1 < 2) on)))
 refine Mp ?_ (vs := fun bs => [vs r6.2.1]) Tryz.call133 (fun bs w hS => codec_ReadText _ w (by first | assumption | omega | (simp only [emp_size]; omega)))
 have hzr7 := mTell_bd r6.2.1
 generalize hr7 : mTell r6.2.1 = r7 at hzr7 ⊢
 refine Msb 7 [vi c.kind, vi c.client, vi r1.1, vi r2.1, vi r3.1, vi r4.1, vs r6.1, vs r7.1, vi r5.1] ?_
 refine Mdn (r7.2.2 = 0) (fun h7 => ?_) fun h7 => ?_
 rotate_left
 · refine Mt [ve, vi r7.2.2] fun bs w hS => ?_
   have hm : mBody c t = (c, emp, r7.2.2) := by grind [mBody]
   exact ⟨(⟨c.kind, c.client, r1.1, r2.1, r3.1, ⟨r4.1, r6.1, r7.1, r5.1⟩⟩ : DCommand), by rw [hm]; rfl, ⟨fun h0 => absurd h0 (by rw [hm]; exact h7), ⟨(show r6.1.size ≤ 9223372036854775807 by omega), (show r7.1.size ≤ 9223372036854775807 by omega)⟩⟩, hS.kp, hS.res _ i0⟩
 refine Mi ?_ (pR (2))
 refine on2 1 (J := ?_)
 refine Mq 58 false ?_ rfl
 refine Mt [vs r7.2.1, vi 0] fun bs w hS => ?_
 have hm : mBody c t = ((⟨c.kind, c.client, r1.1, r2.1, r3.1, ⟨r4.1, r6.1, r7.1, r5.1⟩⟩ : DCommand), r7.2.1, 0) := by grind [mBody]
 exact ⟨(⟨c.kind, c.client, r1.1, r2.1, r3.1, ⟨r4.1, r6.1, r7.1, r5.1⟩⟩ : DCommand), by rw [hm]; rfl, ⟨fun _ => by rw [hm], ⟨(show r6.1.size ≤ 9223372036854775807 by omega), (show r7.1.size ≤ 9223372036854775807 by omega)⟩⟩, hS.kp, hS.res _ i0⟩

theorem command_Decode (s : ByteArray) (w : World) (hs : s.size ≤ 9223372036854775807) : Calls Tryz.prog 21 #[vs s] w fun e w' => e = .returned (.tuple #[(mDecode s).1.val, vi (mDecode s).2]) ∧ Kp [] w w' := by
 have hu0 := (s.data.getD 0 0).toNat_lt
 have hu1 := (s.data.getD 1 0).toNat_lt
 have hex : (s.extract 2 s.size).size ≤ s.size := by simp
 refine M0 ?_ Tryz.func21
 refine Md ((5000 : Int) < (s.size : Int)) (fun h1 => ?_) fun h1 => ?_
 · refine Mt [vC, vi 1] fun bs w hS => ?_
   refine ⟨?_, hS.kp⟩
   have hm : mDecode s = ((⟨0, 0, 0, 0, 0, ⟨0, emp, emp, 0⟩⟩ : DCommand), 1) := by
     have hk : (cmd0 s).kind = ((s.data.getD 0 0).toNat : Int) := rfl
     unfold mDecode
     repeat (first | rw [if_pos (by omega)] | rw [if_neg (by omega)])
     rfl
   rw [hm]
   rfl
 refine Md ((s.size : Int) < 2) (fun h2 => ?_) fun h2 => ?_
 · refine Mt [vC, vi 5] fun bs w hS => ?_
   refine ⟨?_, hS.kp⟩
   have hm : mDecode s = ((⟨0, 0, 0, 0, 0, ⟨0, emp, emp, 0⟩⟩ : DCommand), 5) := by
     have hk : (cmd0 s).kind = ((s.data.getD 0 0).toNat : Int) := rfl
     unfold mDecode
     repeat (first | rw [if_pos (by omega)] | rw [if_neg (by omega)])
     rfl
   rw [hm]
   rfl
 refine Mda 8 [] [] [] Tryz_mixed ?_
 refine Mih ?_ (pc (pG [(16, .sidx 0)] (oc (rfl : (0 : Int) = ((0 : Nat) : Int)) (oc ((by omega) : 0 < s.size) on))) (pc (pP (0 ≤ ((s.data.getD 0 0).toNat : Int))) (pc (pP (((s.data.getD 0 0).toNat : Int) ≤ 255)) (pc (pG [(19, .sidx 1)] (oc (rfl : (1 : Int) = ((1 : Nat) : Int)) (oc ((by omega) : 1 < s.size) on))) (pc (pP (0 ≤ ((s.data.getD 1 0).toNat : Int))) (pP (((s.data.getD 1 0).toNat : Int) ≤ 255)))))))
 refine Mi ?_ (pG [(23, .sl 2 s.size)] (oc (rfl : (2 : Int) = ((2 : Nat) : Int)) (oc (rfl : s.size = s.size) (oc ((by omega) : 2 ≤ s.size) on))))
 refine Md (((s.data.getD 0 0).toNat : Int) = 2) (fun h3 => ?_) fun h3 => ?_
 rotate_left
 · refine Mdn ((s.extract 2 s.size) = emp) (fun h7 => ?_) fun h7 => ?_
   rotate_left
   · refine Mt [vC, vi 4] fun bs w hS => ?_
     refine ⟨?_, hS.kp⟩
     have hm : mDecode s = ((⟨0, 0, 0, 0, 0, ⟨0, emp, emp, 0⟩⟩ : DCommand), 4) := by
       have hk : (cmd0 s).kind = ((s.data.getD 0 0).toNat : Int) := rfl
       unfold mDecode
       repeat (first | rw [if_pos (by omega)] | rw [if_neg (by omega)])
       all_goals (simp only [mFin, cmd0, zOp, h7, ne_eq, not_true_eq_false, not_false_eq_true, if_true, if_false, reduceIte]; try rfl)
     rw [hm]
     rfl
   have hzh7 : (s.extract 2 s.size).size = 0 := by rw [h7]; rfl
   refine Mp ?_ Tryz.call67 (fun bs w hS => command_Check (B := anyB) (⟨((s.data.getD 0 0).toNat : Int), ((s.data.getD 1 0).toNat : Int), 0, 0, 0, ⟨0, emp, emp, 0⟩⟩ : DCommand) w ⟨(show emp.size ≤ 9223372036854775807 from (by first | assumption | omega | (simp only [emp_size]; omega))), (show emp.size ≤ 9223372036854775807 from (by first | assumption | omega | (simp only [emp_size]; omega)))⟩)
   refine Mdn (mCmd (⟨((s.data.getD 0 0).toNat : Int), ((s.data.getD 1 0).toNat : Int), 0, 0, 0, ⟨0, emp, emp, 0⟩⟩ : DCommand) = 0) (fun h8 => ?_) fun h8 => ?_
   · refine Mt [.agg #[vi ((s.data.getD 0 0).toNat : Int), vi ((s.data.getD 1 0).toNat : Int), vi 0, vi 0, vi 0, vi 0, ve, ve, vi 0], vi 0] fun bs w hS => ?_
     refine ⟨?_, hS.kp⟩
     have hm : mDecode s = ((⟨((s.data.getD 0 0).toNat : Int), ((s.data.getD 1 0).toNat : Int), 0, 0, 0, ⟨0, emp, emp, 0⟩⟩ : DCommand), 0) := by
       have hk : (cmd0 s).kind = ((s.data.getD 0 0).toNat : Int) := rfl
       unfold mDecode
       repeat (first | rw [if_pos (by omega)] | rw [if_neg (by omega)])
       all_goals (simp only [mFin, cmd0, zOp, h7, h8, ne_eq, not_true_eq_false, not_false_eq_true, if_true, if_false, reduceIte]; try rfl)
     rw [hm]
     rfl
   refine Mt [vC, vi (mCmd (⟨((s.data.getD 0 0).toNat : Int), ((s.data.getD 1 0).toNat : Int), 0, 0, 0, ⟨0, emp, emp, 0⟩⟩ : DCommand))] fun bs w hS => ?_
   refine ⟨?_, hS.kp⟩
   have hm : mDecode s = ((⟨0, 0, 0, 0, 0, ⟨0, emp, emp, 0⟩⟩ : DCommand), mCmd (⟨((s.data.getD 0 0).toNat : Int), ((s.data.getD 1 0).toNat : Int), 0, 0, 0, ⟨0, emp, emp, 0⟩⟩ : DCommand)) := by
     have hk : (cmd0 s).kind = ((s.data.getD 0 0).toNat : Int) := rfl
     unfold mDecode
     repeat (first | rw [if_pos (by omega)] | rw [if_neg (by omega)])
     all_goals (simp only [mFin, cmd0, zOp, h7, h8, ne_eq, not_true_eq_false, not_false_eq_true, if_true, if_false, reduceIte]; try rfl)
   rw [hm]
   rfl
 refine Mo 1 ?_ Tryz.call66 (fun bs w hS hb => command_body (⟨((s.data.getD 0 0).toNat : Int), ((s.data.getD 1 0).toNat : Int), 0, 0, 0, ⟨0, emp, emp, 0⟩⟩ : DCommand) (bs.getD 1 0) (s.extract 2 s.size) w hb (by first | assumption | omega | (simp only [emp_size]; omega)) ⟨(by simp [emp_size]), (by simp [emp_size])⟩)
 rintro y1 ⟨hF1, hG1⟩
 generalize hbd : mBody (⟨((s.data.getD 0 0).toNat : Int), ((s.data.getD 1 0).toNat : Int), 0, 0, 0, ⟨0, emp, emp, 0⟩⟩ : DCommand) (s.extract 2 s.size) = bd at hF1 ⊢
 refine Mdn (bd.2.2 = 0) (fun h4 => ?_) fun h4 => ?_
 rotate_left
 · refine Mt [vC, vi bd.2.2] fun bs w hS => ?_
   refine ⟨?_, hS.kp⟩
   have hm : mDecode s = ((⟨0, 0, 0, 0, 0, ⟨0, emp, emp, 0⟩⟩ : DCommand), bd.2.2) := by
     have hk : (cmd0 s).kind = ((s.data.getD 0 0).toNat : Int) := rfl
     unfold mDecode
     repeat (first | rw [if_pos (by omega)] | rw [if_neg (by omega)])
     rw [show mBody (cmd0 s) (s.extract 2 s.size) = bd from hbd]
     all_goals (simp only [mFin, cmd0, zOp, h4, ne_eq, not_true_eq_false, not_false_eq_true, if_true, if_false, reduceIte]; try rfl)
   rw [hm]
   rfl
 refine Mdn (bd.2.1 = emp) (fun h5 => ?_) fun h5 => ?_
 rotate_left
 · refine Mt [vC, vi 4] fun bs w hS => ?_
   refine ⟨?_, hS.kp⟩
   have hm : mDecode s = ((⟨0, 0, 0, 0, 0, ⟨0, emp, emp, 0⟩⟩ : DCommand), 4) := by
     have hk : (cmd0 s).kind = ((s.data.getD 0 0).toNat : Int) := rfl
     unfold mDecode
     repeat (first | rw [if_pos (by omega)] | rw [if_neg (by omega)])
     rw [show mBody (cmd0 s) (s.extract 2 s.size) = bd from hbd]
     have hbz : bd.2.2 = 0 := by assumption
     all_goals (simp only [mFin, cmd0, zOp, ← hF1 hbz, h4, h5, ne_eq, not_true_eq_false, not_false_eq_true, if_true, if_false, reduceIte]; try rfl)
   rw [hm]
   rfl
 have hzh5 : bd.2.1.size = 0 := by rw [h5]; rfl
 refine Mp ?_ Tryz.call67 (fun bs w hS => command_Check (B := anyB) y1 w hG1)
 refine Mdn (mCmd y1 = 0) (fun h6 => ?_) fun h6 => ?_
 rotate_left
 · refine Mt [vC, vi (mCmd y1)] fun bs w hS => ?_
   refine ⟨?_, hS.kp⟩
   have hm : mDecode s = ((⟨0, 0, 0, 0, 0, ⟨0, emp, emp, 0⟩⟩ : DCommand), mCmd y1) := by
     have hk : (cmd0 s).kind = ((s.data.getD 0 0).toNat : Int) := rfl
     unfold mDecode
     repeat (first | rw [if_pos (by omega)] | rw [if_neg (by omega)])
     rw [show mBody (cmd0 s) (s.extract 2 s.size) = bd from hbd]
     have hbz : bd.2.2 = 0 := by assumption
     all_goals (simp only [mFin, cmd0, zOp, ← hF1 hbz, h4, h5, h6, ne_eq, not_true_eq_false, not_false_eq_true, if_true, if_false, reduceIte]; try rfl)
   rw [hm]
   rfl
 refine Mt [y1.val, vi 0] fun bs w hS => ?_
 refine ⟨?_, hS.kp⟩
 have hm : mDecode s = ((⟨y1.kind, y1.client, y1.session, y1.seq, y1.acked, ⟨y1.op.kind, y1.op.a, y1.op.b, y1.op.n⟩⟩ : DCommand), 0) := by
   have hk : (cmd0 s).kind = ((s.data.getD 0 0).toNat : Int) := rfl
   unfold mDecode
   repeat (first | rw [if_pos (by omega)] | rw [if_neg (by omega)])
   rw [show mBody (cmd0 s) (s.extract 2 s.size) = bd from hbd]
   have hbz : bd.2.2 = 0 := by assumption
   all_goals (simp only [mFin, cmd0, zOp, ← hF1 hbz, h4, h5, h6, ne_eq, not_true_eq_false, not_false_eq_true, if_true, if_false, reduceIte]; try rfl)
 rw [hm]
 rfl

theorem ref_CommandOf (s : ByteArray) (w : World) (hs : s.size ≤ 9223372036854775807) : Calls Tryz.prog 31 #[vs s] w fun e w' => e = .returned (.tuple #[(mDecode s).1.val, vi (mDecode s).2]) ∧ Kp [] w w' := by
 have hu0 := (s.data.getD 0 0).toNat_lt
 have hu1 := (s.data.getD 1 0).toNat_lt
 have hex : (s.extract 2 s.size).size ≤ s.size := by simp
 refine M0 ?_ Tryz.func31
 refine Md ((5000 : Int) < (s.size : Int)) (fun h1 => ?_) fun h1 => ?_
 · refine Mt [vC, vi 1] fun bs w hS => ?_
   refine ⟨?_, hS.kp⟩
   have hm : mDecode s = ((⟨0, 0, 0, 0, 0, ⟨0, emp, emp, 0⟩⟩ : DCommand), 1) := by
     have hk : (cmd0 s).kind = ((s.data.getD 0 0).toNat : Int) := rfl
     unfold mDecode
     repeat (first | rw [if_pos (by omega)] | rw [if_neg (by omega)])
     rfl
   rw [hm]
   rfl
 refine Md ((s.size : Int) < 2) (fun h2 => ?_) fun h2 => ?_
 · refine Mt [vC, vi 5] fun bs w hS => ?_
   refine ⟨?_, hS.kp⟩
   have hm : mDecode s = ((⟨0, 0, 0, 0, 0, ⟨0, emp, emp, 0⟩⟩ : DCommand), 5) := by
     have hk : (cmd0 s).kind = ((s.data.getD 0 0).toNat : Int) := rfl
     unfold mDecode
     repeat (first | rw [if_pos (by omega)] | rw [if_neg (by omega)])
     rfl
   rw [hm]
   rfl
 refine Mda 8 [] [] [] Tryz_mixed ?_
 refine Mih ?_ (pc (pG [(27, .sidx 0)] (oc (rfl : (0 : Int) = ((0 : Nat) : Int)) (oc ((by omega) : 0 < s.size) on))) (pc (pP (0 ≤ ((s.data.getD 0 0).toNat : Int))) (pc (pP (((s.data.getD 0 0).toNat : Int) ≤ 255)) (pc (pG [(30, .sidx 1)] (oc (rfl : (1 : Int) = ((1 : Nat) : Int)) (oc ((by omega) : 1 < s.size) on))) (pc (pP (0 ≤ ((s.data.getD 1 0).toNat : Int))) (pP (((s.data.getD 1 0).toNat : Int) ≤ 255)))))))
 refine Mi ?_ (pG [(34, .sl 2 s.size)] (oc (rfl : (2 : Int) = ((2 : Nat) : Int)) (oc (rfl : s.size = s.size) (oc ((by omega) : 2 ≤ s.size) on))))
 refine Md (((s.data.getD 0 0).toNat : Int) = 2) (fun h3 => ?_) fun h3 => ?_
 rotate_left
 · refine Mdn ((s.extract 2 s.size) = emp) (fun h13 => ?_) fun h13 => ?_
   rotate_left
   · refine Mt [vC, vi 4] fun bs w hS => ?_
     refine ⟨?_, hS.kp⟩
     have hm : mDecode s = ((⟨0, 0, 0, 0, 0, ⟨0, emp, emp, 0⟩⟩ : DCommand), 4) := by
       have hk : (cmd0 s).kind = ((s.data.getD 0 0).toNat : Int) := rfl
       unfold mDecode
       repeat (first | rw [if_pos (by omega)] | rw [if_neg (by omega)])
       all_goals (simp only [mFin, mBody, cmd0, zOp, h13, ne_eq, not_true_eq_false, not_false_eq_true, if_true, if_false, reduceIte]; try rfl)
     rw [hm]
     rfl
   have hzh13 : (s.extract 2 s.size).size = 0 := by rw [h13]; rfl
   refine Mp ?_ Tryz.call97 (fun bs w hS => ref_CommandFault (B := anyB) (⟨((s.data.getD 0 0).toNat : Int), ((s.data.getD 1 0).toNat : Int), 0, 0, 0, ⟨0, emp, emp, 0⟩⟩ : DCommand) w ⟨(show emp.size ≤ 9223372036854775807 from (by first | assumption | omega | (simp only [emp_size]; omega))), (show emp.size ≤ 9223372036854775807 from (by first | assumption | omega | (simp only [emp_size]; omega)))⟩)
   refine Mdn (mCmd (⟨((s.data.getD 0 0).toNat : Int), ((s.data.getD 1 0).toNat : Int), 0, 0, 0, ⟨0, emp, emp, 0⟩⟩ : DCommand) = 0) (fun h14 => ?_) fun h14 => ?_
   · refine Mt [.agg #[vi ((s.data.getD 0 0).toNat : Int), vi ((s.data.getD 1 0).toNat : Int), vi 0, vi 0, vi 0, vi 0, ve, ve, vi 0], vi 0] fun bs w hS => ?_
     refine ⟨?_, hS.kp⟩
     have hm : mDecode s = ((⟨((s.data.getD 0 0).toNat : Int), ((s.data.getD 1 0).toNat : Int), 0, 0, 0, ⟨0, emp, emp, 0⟩⟩ : DCommand), 0) := by
       have hk : (cmd0 s).kind = ((s.data.getD 0 0).toNat : Int) := rfl
       unfold mDecode
       repeat (first | rw [if_pos (by omega)] | rw [if_neg (by omega)])
       all_goals (simp only [mFin, mBody, cmd0, zOp, h13, h14, ne_eq, not_true_eq_false, not_false_eq_true, if_true, if_false, reduceIte]; try rfl)
     rw [hm]
     rfl
   refine Mt [vC, vi (mCmd (⟨((s.data.getD 0 0).toNat : Int), ((s.data.getD 1 0).toNat : Int), 0, 0, 0, ⟨0, emp, emp, 0⟩⟩ : DCommand))] fun bs w hS => ?_
   refine ⟨?_, hS.kp⟩
   have hm : mDecode s = ((⟨0, 0, 0, 0, 0, ⟨0, emp, emp, 0⟩⟩ : DCommand), mCmd (⟨((s.data.getD 0 0).toNat : Int), ((s.data.getD 1 0).toNat : Int), 0, 0, 0, ⟨0, emp, emp, 0⟩⟩ : DCommand)) := by
     have hk : (cmd0 s).kind = ((s.data.getD 0 0).toNat : Int) := rfl
     unfold mDecode
     repeat (first | rw [if_pos (by omega)] | rw [if_neg (by omega)])
     all_goals (simp only [mFin, mBody, cmd0, zOp, h13, h14, ne_eq, not_true_eq_false, not_false_eq_true, if_true, if_false, reduceIte]; try rfl)
   rw [hm]
   rfl
 refine Mun 6 fun _ on1 => ?_
 refine Mq 39 true ?_ rfl
 refine Mp ?_ (vs := fun bs => [vs (s.extract 2 s.size)]) Tryz.call95 (fun bs w hS => ref_NumberOf _ w (by first | assumption | omega | (simp only [emp_size]; omega)))
 have hzr1 := mRead_bd (s.extract 2 s.size)
 generalize hr1 : mRead (s.extract 2 s.size) = r1 at hzr1 ⊢
 refine Mdn (r1.2.2 = 0) (fun h4 => ?_) fun h4 => ?_
 rotate_left
 · refine Mt [vC, vi r1.2.2] fun bs w hS => ?_
   refine ⟨?_, hS.kp⟩
   have hm : mDecode s = ((⟨0, 0, 0, 0, 0, ⟨0, emp, emp, 0⟩⟩ : DCommand), r1.2.2) := by
     have hk : (cmd0 s).kind = ((s.data.getD 0 0).toNat : Int) := rfl
     unfold mDecode
     repeat (first | rw [if_pos (by omega)] | rw [if_neg (by omega)])
     all_goals (simp only [mFin, mBody, cmd0, zOp, hr1, h4, ne_eq, not_true_eq_false, not_false_eq_true, if_true, if_false, reduceIte]; try rfl)
   rw [hm]
   rfl
 refine Mi ?_ (pc (pG [(54, .idx default 0)] (oc (rfl : (0 : Int) = ((0 : Nat) : Int)) (oc ((by omega) : 0 < 5) on))) (pR (1)))
 refine on1 5 (J := ?_)
 refine Mq 39 true ?_ rfl
 refine Mp ?_ (vs := fun bs => [vs r1.2.1]) Tryz.call95 (fun bs w hS => ref_NumberOf _ w (by first | assumption | omega | (simp only [emp_size]; omega)))
 have hzr2 := mRead_bd r1.2.1
 generalize hr2 : mRead r1.2.1 = r2 at hzr2 ⊢
 refine Mdn (r2.2.2 = 0) (fun h5 => ?_) fun h5 => ?_
 rotate_left
 · refine Mt [vC, vi r2.2.2] fun bs w hS => ?_
   refine ⟨?_, hS.kp⟩
   have hm : mDecode s = ((⟨0, 0, 0, 0, 0, ⟨0, emp, emp, 0⟩⟩ : DCommand), r2.2.2) := by
     have hk : (cmd0 s).kind = ((s.data.getD 0 0).toNat : Int) := rfl
     unfold mDecode
     repeat (first | rw [if_pos (by omega)] | rw [if_neg (by omega)])
     all_goals (simp only [mFin, mBody, cmd0, zOp, hr1, hr2, h4, h5, ne_eq, not_true_eq_false, not_false_eq_true, if_true, if_false, reduceIte]; try rfl)
   rw [hm]
   rfl
 refine Mi ?_ (pc (pG [(54, .idx default 1)] (oc (rfl : (1 : Int) = ((1 : Nat) : Int)) (oc ((by omega) : 1 < 5) on))) (pR (2)))
 refine on1 4 (J := ?_)
 refine Mq 39 true ?_ rfl
 refine Mp ?_ (vs := fun bs => [vs r2.2.1]) Tryz.call95 (fun bs w hS => ref_NumberOf _ w (by first | assumption | omega | (simp only [emp_size]; omega)))
 have hzr3 := mRead_bd r2.2.1
 generalize hr3 : mRead r2.2.1 = r3 at hzr3 ⊢
 refine Mdn (r3.2.2 = 0) (fun h6 => ?_) fun h6 => ?_
 rotate_left
 · refine Mt [vC, vi r3.2.2] fun bs w hS => ?_
   refine ⟨?_, hS.kp⟩
   have hm : mDecode s = ((⟨0, 0, 0, 0, 0, ⟨0, emp, emp, 0⟩⟩ : DCommand), r3.2.2) := by
     have hk : (cmd0 s).kind = ((s.data.getD 0 0).toNat : Int) := rfl
     unfold mDecode
     repeat (first | rw [if_pos (by omega)] | rw [if_neg (by omega)])
     all_goals (simp only [mFin, mBody, cmd0, zOp, hr1, hr2, hr3, h4, h5, h6, ne_eq, not_true_eq_false, not_false_eq_true, if_true, if_false, reduceIte]; try rfl)
   rw [hm]
   rfl
 refine Mi ?_ (pc (pG [(54, .idx default 2)] (oc (rfl : (2 : Int) = ((2 : Nat) : Int)) (oc ((by omega) : 2 < 5) on))) (pR (3)))
 refine on1 3 (J := ?_)
 refine Mq 39 true ?_ rfl
 refine Mp ?_ (vs := fun bs => [vs r3.2.1]) Tryz.call95 (fun bs w hS => ref_NumberOf _ w (by first | assumption | omega | (simp only [emp_size]; omega)))
 have hzr4 := mRead_bd r3.2.1
 generalize hr4 : mRead r3.2.1 = r4 at hzr4 ⊢
 refine Mdn (r4.2.2 = 0) (fun h7 => ?_) fun h7 => ?_
 rotate_left
 · refine Mt [vC, vi r4.2.2] fun bs w hS => ?_
   refine ⟨?_, hS.kp⟩
   have hm : mDecode s = ((⟨0, 0, 0, 0, 0, ⟨0, emp, emp, 0⟩⟩ : DCommand), r4.2.2) := by
     have hk : (cmd0 s).kind = ((s.data.getD 0 0).toNat : Int) := rfl
     unfold mDecode
     repeat (first | rw [if_pos (by omega)] | rw [if_neg (by omega)])
     all_goals (simp only [mFin, mBody, cmd0, zOp, hr1, hr2, hr3, hr4, h4, h5, h6, h7, ne_eq, not_true_eq_false, not_false_eq_true, if_true, if_false, reduceIte]; try rfl)
   rw [hm]
   rfl
 refine Mi ?_ (pc (pG [(54, .idx default 3)] (oc (rfl : (3 : Int) = ((3 : Nat) : Int)) (oc ((by omega) : 3 < 5) on))) (pR (4)))
 refine on1 2 (J := ?_)
 refine Mq 39 true ?_ rfl
 refine Mp ?_ (vs := fun bs => [vs r4.2.1]) Tryz.call95 (fun bs w hS => ref_NumberOf _ w (by first | assumption | omega | (simp only [emp_size]; omega)))
 have hzr5 := mRead_bd r4.2.1
 generalize hr5 : mRead r4.2.1 = r5 at hzr5 ⊢
 refine Mdn (r5.2.2 = 0) (fun h8 => ?_) fun h8 => ?_
 rotate_left
 · refine Mt [vC, vi r5.2.2] fun bs w hS => ?_
   refine ⟨?_, hS.kp⟩
   have hm : mDecode s = ((⟨0, 0, 0, 0, 0, ⟨0, emp, emp, 0⟩⟩ : DCommand), r5.2.2) := by
     have hk : (cmd0 s).kind = ((s.data.getD 0 0).toNat : Int) := rfl
     unfold mDecode
     repeat (first | rw [if_pos (by omega)] | rw [if_neg (by omega)])
     all_goals (simp only [mFin, mBody, cmd0, zOp, hr1, hr2, hr3, hr4, hr5, h4, h5, h6, h7, h8, ne_eq, not_true_eq_false, not_false_eq_true, if_true, if_false, reduceIte]; try rfl)
   rw [hm]
   rfl
 refine Mi ?_ (pc (pG [(54, .idx default 4)] (oc (rfl : (4 : Int) = ((4 : Nat) : Int)) (oc ((by omega) : 4 < 5) on))) (pR (5)))
 refine on1 1 (J := ?_)
 refine Mq 39 false ?_ rfl
 refine Mi ?_ (pc (pG [(56, .idx default 0)] (oc (rfl : (0 : Int) = ((0 : Nat) : Int)) (oc ((by omega) : 0 < 5) on))) (pc (pG [(59, .idx default 1)] (oc (rfl : (1 : Int) = ((1 : Nat) : Int)) (oc ((by omega) : 1 < 5) on))) (pc (pG [(62, .idx default 2)] (oc (rfl : (2 : Int) = ((2 : Nat) : Int)) (oc ((by omega) : 2 < 5) on))) (pc (pG [(65, .idx default 3)] (oc (rfl : (3 : Int) = ((3 : Nat) : Int)) (oc ((by omega) : 3 < 5) on))) (pG [(69, .idx default 4)] (oc (rfl : (4 : Int) = ((4 : Nat) : Int)) (oc ((by omega) : 4 < 5) on)))))))
 refine Mp ?_ (vs := fun bs => [vs r5.2.1]) Tryz.call96 (fun bs w hS => ref_TextOf _ w (by first | assumption | omega | (simp only [emp_size]; omega)))
 have hzr6 := mTell_bd r5.2.1
 generalize hr6 : mTell r5.2.1 = r6 at hzr6 ⊢
 refine Mdn (r6.2.2 = 0) (fun h9 => ?_) fun h9 => ?_
 rotate_left
 · refine Mt [vC, vi r6.2.2] fun bs w hS => ?_
   refine ⟨?_, hS.kp⟩
   have hm : mDecode s = ((⟨0, 0, 0, 0, 0, ⟨0, emp, emp, 0⟩⟩ : DCommand), r6.2.2) := by
     have hk : (cmd0 s).kind = ((s.data.getD 0 0).toNat : Int) := rfl
     unfold mDecode
     repeat (first | rw [if_pos (by omega)] | rw [if_neg (by omega)])
     all_goals (simp only [mFin, mBody, cmd0, zOp, hr1, hr2, hr3, hr4, hr5, hr6, h4, h5, h6, h7, h8, h9, ne_eq, not_true_eq_false, not_false_eq_true, if_true, if_false, reduceIte]; try rfl)
   rw [hm]
   rfl
 refine Mp ?_ (vs := fun bs => [vs r6.2.1]) Tryz.call96 (fun bs w hS => ref_TextOf _ w (by first | assumption | omega | (simp only [emp_size]; omega)))
 have hzr7 := mTell_bd r6.2.1
 generalize hr7 : mTell r6.2.1 = r7 at hzr7 ⊢
 refine Mdn (r7.2.2 = 0) (fun h10 => ?_) fun h10 => ?_
 rotate_left
 · refine Mt [vC, vi r7.2.2] fun bs w hS => ?_
   refine ⟨?_, hS.kp⟩
   have hm : mDecode s = ((⟨0, 0, 0, 0, 0, ⟨0, emp, emp, 0⟩⟩ : DCommand), r7.2.2) := by
     have hk : (cmd0 s).kind = ((s.data.getD 0 0).toNat : Int) := rfl
     unfold mDecode
     repeat (first | rw [if_pos (by omega)] | rw [if_neg (by omega)])
     all_goals (simp only [mFin, mBody, cmd0, zOp, hr1, hr2, hr3, hr4, hr5, hr6, hr7, h4, h5, h6, h7, h8, h9, h10, ne_eq, not_true_eq_false, not_false_eq_true, if_true, if_false, reduceIte]; try rfl)
   rw [hm]
   rfl
 refine Mdn (r7.2.1 = emp) (fun h11 => ?_) fun h11 => ?_
 rotate_left
 · refine Mt [vC, vi 4] fun bs w hS => ?_
   refine ⟨?_, hS.kp⟩
   have hm : mDecode s = ((⟨0, 0, 0, 0, 0, ⟨0, emp, emp, 0⟩⟩ : DCommand), 4) := by
     have hk : (cmd0 s).kind = ((s.data.getD 0 0).toNat : Int) := rfl
     unfold mDecode
     repeat (first | rw [if_pos (by omega)] | rw [if_neg (by omega)])
     all_goals (simp only [mFin, mBody, cmd0, zOp, hr1, hr2, hr3, hr4, hr5, hr6, hr7, h4, h5, h6, h7, h8, h9, h10, h11, ne_eq, not_true_eq_false, not_false_eq_true, if_true, if_false, reduceIte]; try rfl)
   rw [hm]
   rfl
 have hzh11 : r7.2.1.size = 0 := by rw [h11]; rfl
 refine Mp ?_ Tryz.call97 (fun bs w hS => ref_CommandFault (B := anyB) (⟨((s.data.getD 0 0).toNat : Int), ((s.data.getD 1 0).toNat : Int), r1.1, r2.1, r3.1, ⟨r4.1, r6.1, r7.1, r5.1⟩⟩ : DCommand) w ⟨(show r6.1.size ≤ 9223372036854775807 from (by first | assumption | omega | (simp only [emp_size]; omega))), (show r7.1.size ≤ 9223372036854775807 from (by first | assumption | omega | (simp only [emp_size]; omega)))⟩)
 refine Mdn (mCmd (⟨((s.data.getD 0 0).toNat : Int), ((s.data.getD 1 0).toNat : Int), r1.1, r2.1, r3.1, ⟨r4.1, r6.1, r7.1, r5.1⟩⟩ : DCommand) = 0) (fun h12 => ?_) fun h12 => ?_
 · refine Mt [.agg #[vi ((s.data.getD 0 0).toNat : Int), vi ((s.data.getD 1 0).toNat : Int), vi r1.1, vi r2.1, vi r3.1, vi r4.1, vs r6.1, vs r7.1, vi r5.1], vi 0] fun bs w hS => ?_
   refine ⟨?_, hS.kp⟩
   have hm : mDecode s = ((⟨((s.data.getD 0 0).toNat : Int), ((s.data.getD 1 0).toNat : Int), r1.1, r2.1, r3.1, ⟨r4.1, r6.1, r7.1, r5.1⟩⟩ : DCommand), 0) := by
     have hk : (cmd0 s).kind = ((s.data.getD 0 0).toNat : Int) := rfl
     unfold mDecode
     repeat (first | rw [if_pos (by omega)] | rw [if_neg (by omega)])
     all_goals (simp only [mFin, mBody, cmd0, zOp, hr1, hr2, hr3, hr4, hr5, hr6, hr7, h4, h5, h6, h7, h8, h9, h10, h11, h12, ne_eq, not_true_eq_false, not_false_eq_true, if_true, if_false, reduceIte]; try rfl)
   rw [hm]
   rfl
 refine Mt [vC, vi (mCmd (⟨((s.data.getD 0 0).toNat : Int), ((s.data.getD 1 0).toNat : Int), r1.1, r2.1, r3.1, ⟨r4.1, r6.1, r7.1, r5.1⟩⟩ : DCommand))] fun bs w hS => ?_
 refine ⟨?_, hS.kp⟩
 have hm : mDecode s = ((⟨0, 0, 0, 0, 0, ⟨0, emp, emp, 0⟩⟩ : DCommand), mCmd (⟨((s.data.getD 0 0).toNat : Int), ((s.data.getD 1 0).toNat : Int), r1.1, r2.1, r3.1, ⟨r4.1, r6.1, r7.1, r5.1⟩⟩ : DCommand)) := by
   have hk : (cmd0 s).kind = ((s.data.getD 0 0).toNat : Int) := rfl
   unfold mDecode
   repeat (first | rw [if_pos (by omega)] | rw [if_neg (by omega)])
   all_goals (simp only [mFin, mBody, cmd0, zOp, hr1, hr2, hr3, hr4, hr5, hr6, hr7, h4, h5, h6, h7, h8, h9, h10, h11, h12, ne_eq, not_true_eq_false, not_false_eq_true, if_true, if_false, reduceIte]; try rfl)
 rw [hm]
 rfl

theorem lock_client (n : Int) (w : World) : Calls Tryz.prog 130 #[vi n] w fun e w' => e = .returned (vb (inB n 1 9)) ∧ Kp [] w w' := by
 refine M0 ?_ Tryz.func130
 refine Md ((1 : Int) ≤ n) (fun h1 => ?_) fun h1 => ?_
 rotate_left
 · exact Mt [vb false] fun bs w hS => ⟨by simp [retOf, den, inB, h1], hS.kp⟩
 exact Mt [vb (decide (n ≤ 9))] fun bs w hS => ⟨by simp [retOf, den, inB, h1], hS.kp⟩

theorem idx_ints {B : Nat → Prop} (s : Sl Int) (k : Nat) (n : Int) (w : World) (hs : s.rd B w) (hk : k ≤ s.n) : Calls Tryz.prog 138 #[.slice s.A k s.c, vi n] w fun e w' => e = .returned (vi (mIdx (fun z => decide (z = n)) (s.xs.take k))) ∧ Kp [] w w' := by
 have oks := Sl.rd.ok hs
 have ncs := Sl.ok.nc oks
 have hns : s.n = s.xs.length := rfl
 refine M0 ?_ Tryz.func138
 refine Ml (σ := Nat) (fun i => i ≤ k ∧ ∀ j, j < i → decide (s.at j = n) = false) (fun i => k - i) (fun _ => []) [8, 7, 0, 1] (fun i => [(8, vI (i : Int))]) (fun _ => []) ?_ 0 ⟨Nat.zero_le _, fun j hj => absurd hj (Nat.not_lt_zero _)⟩
 rintro i ⟨hi, hI⟩ _ on1
 refine Md ((i : Int) < (k : Int)) (fun h1 => ?_) fun h1 => ?_
 rotate_left
 · exact Me0 (-1) (by rw [mIdxT_none hk fun j hj => hI j (by omega)])
 refine Mi ?_ (pc (pIk 14 (i : Int) i k (rdk hs)) (pE 15 i (rdk hs)))
 refine Md (n = (s.at i)) (fun h2 => ?_) fun h2 => ?_
 · exact Me0 (i : Int) (by rw [mIdxT_here (i := i) hk (by omega) (decide_eq_true (by omega)) hI])
 refine Mi ?_ (pR ((i : Int) + 1))
 exact on1 (i + 1) ⟨by omega, fun j hj => by rcases Nat.lt_succ_iff_lt_or_eq.1 hj with h | h; exact hI j h; subst h; exact decide_eq_false (fun e => by omega)⟩ (by omega)

theorem has_ints {B : Nat → Prop} (s : Sl Int) (k : Nat) (n : Int) (w : World) (hs : s.rd B w) (hk : k ≤ s.n) : Calls Tryz.prog 150 #[.slice s.A k s.c, vi n] w fun e w' => e = .returned (vb ((s.xs.take k).any fun z => decide (z = n))) ∧ Kp [] w w' := by
 have oks := Sl.rd.ok hs
 have ncs := Sl.ok.nc oks
 have hns : s.n = s.xs.length := rfl
 refine M0 ?_ Tryz.func150
 refine Mp ?_ Tryz.call138 (fun bs w hS => idx_ints s k n w (Sl.rd.kp hs hS.kp) (by omega))
 exact Meb (decide ((0 : Int) ≤ mIdx (fun z => decide (z = n)) (s.xs.take k))) (by simp only [retOf, den, List.map_cons, List.map_nil, mIdx_nonneg])

theorem ref_has {B : Nat → Prop} (s : Sl Int) (k : Nat) (n : Int) (w : World) (hs : s.rd B w) (hk : k ≤ s.n) : Calls Tryz.prog 103 #[.slice s.A k s.c, vi n] w fun e w' => e = .returned (vb ((s.xs.take k).any fun z => decide (z = n))) ∧ Kp [] w w' := by
 have oks := Sl.rd.ok hs
 have ncs := Sl.ok.nc oks
 have hns : s.n = s.xs.length := rfl
 refine M0 ?_ Tryz.func103
 refine Ml (σ := Nat) (fun i => i ≤ k ∧ ∀ j, j < i → ¬ s.at j = n) (fun i => k - i) (fun _ => []) [5, 0, 1] (fun i => [(5, vI (i : Int))]) (fun _ => []) ?_ 0 ⟨Nat.zero_le _, fun j hj => absurd hj (Nat.not_lt_zero _)⟩
 rintro i ⟨hi, hI⟩ _ on1
 refine Md ((i : Int) < (k : Int)) (fun h1 => ?_) fun h1 => ?_
 rotate_left
 · exact Meb false (by rw [any_none hk fun j hj => hI j (by omega)])
 refine Mi ?_ (pc (pIk 14 (i : Int) i k (rdk hs)) (pE 15 i (rdk hs)))
 refine Md ((s.at i) = n) (fun h2 => ?_) fun h2 => ?_
 · exact Meb true (by rw [any_here (j := i) hk (by omega) (by assumption)])
 refine Mi ?_ (pR ((i : Int) + 1))
 exact on1 (i + 1) ⟨by omega, fun j hj => by rcases Nat.lt_succ_iff_lt_or_eq.1 hj with h | h; exact hI j h; subst h; assumption⟩ (by omega)

theorem lock_line {B : Nat → Prop} (x : CLock) (w : World) (hx : Rds.sub B w x) : Calls Tryz.prog 131 #[x.val] w fun e w' => e = .returned (vb (lineOk x.abs)) ∧ Kp [] w w' := by
 have okx := Rds.okof hx
 have ncx := Sl.ok.nc okx.2
 have hnx : x.line.n = x.line.xs.length := rfl
 have hll : x.abs.line.length = x.line.n := rfl
 have hho : x.abs.holder = x.holder := rfl
 have hp : ∀ q, posOk x.abs q = (inB (x.line.at q) 1 9 && (!decide (x.line.at q = x.holder) && !((x.line.xs.take q).any fun z => decide (z = x.line.at q)))) := fun _ => rfl
 refine M0 ?_ Tryz.func131
 refine Ml (σ := Nat) (fun i => i ≤ x.line.n ∧ allTo (posOk x.abs) i = true) (fun i => x.line.n - i) (fun _ => []) [8, 7, 6, 1] (fun i => [(8, vI (i : Int))]) (fun _ => []) ?_ 0 ⟨Nat.zero_le _, rfl⟩
 rintro i ⟨hi, hI⟩ _ on1
 refine Md ((i : Int) < (x.line.n : Int)) (fun h1 => ?_) fun h1 => ?_
 rotate_left
 · refine Md ((x.line.n : Int) ≤ 3) (fun h5 => ?_) fun h5 => ?_
   rotate_left
   · have hall : allTo (posOk x.abs) x.line.n = true := by rw [show x.line.n = i by omega]; exact hI
     have hm : lineOk x.abs = (false) := by
       rw [Bool.eq_iff_iff]
       simp only [lineOk, hll, hho, hall, Bool.true_and, Bool.and_eq_true, Bool.or_eq_true, Bool.not_eq_true', decide_eq_true_eq, decide_eq_false_iff_not, Bool.false_eq_true, iff_true, iff_false]
       omega
     exact Meb false hm
   refine Mdn (x.holder = 0) (fun h6 => ?_) fun h6 => ?_
   rotate_left
   · have hall : allTo (posOk x.abs) x.line.n = true := by rw [show x.line.n = i by omega]; exact hI
     have hm : lineOk x.abs = (true) := by
       rw [Bool.eq_iff_iff]
       simp only [lineOk, hll, hho, hall, Bool.true_and, Bool.and_eq_true, Bool.or_eq_true, Bool.not_eq_true', decide_eq_true_eq, decide_eq_false_iff_not, Bool.false_eq_true, iff_true, iff_false]
       omega
     exact Meb true hm
   have hall : allTo (posOk x.abs) x.line.n = true := by rw [show x.line.n = i by omega]; exact hI
   have hm : lineOk x.abs = (decide ((x.line.n : Int) = 0)) := by
     rw [Bool.eq_iff_iff]
     simp only [lineOk, hll, hho, hall, Bool.true_and, Bool.and_eq_true, Bool.or_eq_true, Bool.not_eq_true', decide_eq_true_eq, decide_eq_false_iff_not, Bool.false_eq_true, iff_true, iff_false]
     omega
   exact Meb (decide ((x.line.n : Int) = 0)) hm
 refine Mi ?_ (pA 11 12 (i : Int) i (s := x.line) (fun w hk hr => (Rds.kp hx hk).2))
 refine Mp ?_ Tryz.call130 (fun bs w hS => lock_client (x.line.at i) w)
 refine Mbn (inB (x.line.at i) 1 9) (fun h2 => ?_) fun h2 => ?_
 rotate_left
 · have hb : posOk x.abs i = false := by rw [hp]; simp [h1, h2]
   have hm : lineOk x.abs = false := by unfold lineOk; rw [allTo_bad hb (show i < x.abs.line.length by rw [hll]; omega)]; rfl
   exact Meb false hm
 refine Md ((x.line.at i) = x.holder) (fun h3 => ?_) fun h3 => ?_
 · have hb : posOk x.abs i = false := by rw [hp]; simp [h1, h2, h3]
   have hm : lineOk x.abs = false := by unfold lineOk; rw [allTo_bad hb (show i < x.abs.line.length by rw [hll]; omega)]; rfl
   exact Meb false hm
 refine Mi ?_ (pG [(26, .sl 0 i)] (oc (rfl : 0 = 0) (oc (rfl : (i : Int) = (i : Int)) (oc ((by omega) : i ≤ x.line.c) on))))
 refine Mp ?_ Tryz.call150 (fun bs w hS => has_ints x.line i (x.line.at i) w (Rds.kp hx hS.kp).2 (by omega))
 refine Mb ((x.line.xs.take i).any fun z => decide (z = (x.line.at i))) (fun h4 => ?_) fun h4 => ?_
 rotate_left
 · refine Mi ?_ (pR ((i : Int) + 1))
   exact on1 (i + 1) ⟨by omega, by show (allTo _ i && posOk x.abs i) = true; rw [hI, hp]; simp [*]⟩ (by omega)
 have hb : posOk x.abs i = false := by rw [hp]; simp [h1, h2, h3, h4]
 have hm : lineOk x.abs = false := by unfold lineOk; rw [allTo_bad hb (show i < x.abs.line.length by rw [hll]; omega)]; rfl
 exact Meb false hm

theorem lock_Check {B : Nat → Prop} (s : Sl CLock) (w : World) (hs : s.rd B w) : Calls Tryz.prog 64 #[s.val] w fun e w' => e = .returned (vi (mLocks (s.xs.map CLock.abs))) ∧ Kp [] w w' := by
 have oks := Sl.rd.ok hs
 have ncs := Sl.ok.nc oks
 have hns : s.n = s.xs.length := rfl
 have hat : ∀ q, (s.xs.map CLock.abs).getD q default = (s.at q).abs := fun q => abs_at q
 have hq1 : ∀ q, (s.at q).abs.name = (s.at q).name := fun _ => rfl
 have hq2 : ∀ q, (s.at q).abs.holder = (s.at q).holder := fun _ => rfl
 have hq3 : ∀ q, (s.at q).abs.fence = (s.at q).fence := fun _ => rfl
 have hml : (s.xs.map CLock.abs).length = s.n := by simp
 refine M0 ?_ Tryz.func64
 refine Md ((5 : Int) < (s.n : Int)) (fun h1 => ?_) fun h1 => ?_
 · have hm : mLocks (s.xs.map CLock.abs) = 1 := by
     grind [mLocks]
   exact Me0 1 hm
 refine Ml (σ := Nat) (fun i => i ≤ s.n ∧ mLocks (s.xs.map CLock.abs) = firstF (lockF (s.xs.map CLock.abs)) (s.n - i) i) (fun i => s.n - i) (fun _ => []) [10, 9, 8, 0] (fun i => [(10, vI (i : Int))]) (fun _ => []) ?_ 0 ⟨Nat.zero_le _, by unfold mLocks; rw [hml, if_neg (by omega)]⟩
 rintro i ⟨hi, hI⟩ _ on1
 refine Md ((i : Int) < (s.n : Int)) (fun h2 => ?_) fun h2 => ?_
 rotate_left
 · exact Me0 0 (by rw [hI, firstF_end (by omega)])
 refine Mi ?_ (pA 13 14 (i : Int) i (rdk hs))
 refine Mp ?_ Tryz.call129 (fun bs w hS => lock_Name _ w (Sl.ok.at (s := s) (i := i) oks (by omega)).1)
 refine Mbn (mName (s.at i).name) (fun h3 => ?_) fun h3 => ?_
 rotate_left
 · refine Me0 4 ?_
   have hf : lockF (s.xs.map CLock.abs) i = 4 := by
     grind [lockF]
   rw [hI, firstF_here (by omega) hf (by omega)]
 refine Mdn ((s.at i).holder = 0) (fun h4 => ?_) fun h4 => ?_
 · refine Mp ?_ Tryz.call131 (fun bs w hS => lock_line (s.at i) w (Sl.rd.sub (s := s) (i := i) (Sl.rd.kp hs hS.kp) (by omega)))
   refine Mbn (lineOk (s.at i).abs) (fun h5 => ?_) fun h5 => ?_
   rotate_left
   · refine Me0 4 ?_
     have hf : lockF (s.xs.map CLock.abs) i = 4 := by
       grind [lockF]
     rw [hI, firstF_here (by omega) hf (by omega)]
   refine Md ((s.at i).fence < 1) (fun h6 => ?_) fun h6 => ?_
   · refine Me0 2 ?_
     have hf : lockF (s.xs.map CLock.abs) i = 2 := by
       grind [lockF]
     rw [hI, firstF_here (by omega) hf (by omega)]
   refine Md ((1073741824 : Int) < (s.at i).fence) (fun h7 => ?_) fun h7 => ?_
   · refine Me0 2 ?_
     have hf : lockF (s.xs.map CLock.abs) i = 2 := by
       grind [lockF]
     rw [hI, firstF_here (by omega) hf (by omega)]
   refine Mda 13 [] [] [] Tryz_mixed ?_
   refine Md ((0 : Int) < (i : Int)) (fun h8 => ?_) fun h8 => ?_
   rotate_left
   · refine Mi ?_ (pR ((i : Int) + 1))
     have hf0 : lockF (s.xs.map CLock.abs) i = 0 := by
       grind [lockF]
     exact on1 (i + 1) ⟨by omega, by rw [hI]; exact firstF_step (by omega) hf0⟩ (by omega)
   refine Mih ?_ (pc (pR ((i : Int) - 1)) (pc (pI 49 ((i : Int) - 1) (i - 1) (rdk hs)) (pF 51 (i - 1) 0 1 (rdk hs))))
   refine Mbn (Op.bytesLess ((s.at (i - 1)).name).toList ((s.at i).name).toList) (fun h9 => ?_) fun h9 => ?_
   · refine Mi ?_ (pR ((i : Int) + 1))
     have hf0 : lockF (s.xs.map CLock.abs) i = 0 := by
       grind [lockF]
     exact on1 (i + 1) ⟨by omega, by rw [hI]; exact firstF_step (by omega) hf0⟩ (by omega)
   refine Me0 14 ?_
   have hf : lockF (s.xs.map CLock.abs) i = 14 := by
     grind [lockF]
   rw [hI, firstF_here (by omega) hf (by omega)]
 refine Mp ?_ Tryz.call130 (fun bs w hS => lock_client (s.at i).holder w)
 refine Mbn (inB (s.at i).holder 1 9) (fun h10 => ?_) fun h10 => ?_
 rotate_left
 · simp only [iT, iF] at h10
   refine Me0 4 ?_
   have hf : lockF (s.xs.map CLock.abs) i = 4 := by
     grind [lockF]
   rw [hI, firstF_here (by omega) hf (by omega)]
 simp only [iT, iF] at h10
 refine Mp ?_ Tryz.call131 (fun bs w hS => lock_line (s.at i) w (Sl.rd.sub (s := s) (i := i) (Sl.rd.kp hs hS.kp) (by omega)))
 refine Mbn (lineOk (s.at i).abs) (fun h11 => ?_) fun h11 => ?_
 rotate_left
 · refine Me0 4 ?_
   have hf : lockF (s.xs.map CLock.abs) i = 4 := by
     grind [lockF]
   rw [hI, firstF_here (by omega) hf (by omega)]
 refine Md ((s.at i).fence < 1) (fun h12 => ?_) fun h12 => ?_
 · refine Me0 2 ?_
   have hf : lockF (s.xs.map CLock.abs) i = 2 := by
     grind [lockF]
   rw [hI, firstF_here (by omega) hf (by omega)]
 refine Md ((1073741824 : Int) < (s.at i).fence) (fun h13 => ?_) fun h13 => ?_
 · refine Me0 2 ?_
   have hf : lockF (s.xs.map CLock.abs) i = 2 := by
     grind [lockF]
   rw [hI, firstF_here (by omega) hf (by omega)]
 refine Mda 13 [] [] [] Tryz_mixed ?_
 refine Md ((0 : Int) < (i : Int)) (fun h14 => ?_) fun h14 => ?_
 rotate_left
 · refine Mi ?_ (pR ((i : Int) + 1))
   have hf0 : lockF (s.xs.map CLock.abs) i = 0 := by
     grind [lockF]
   exact on1 (i + 1) ⟨by omega, by rw [hI]; exact firstF_step (by omega) hf0⟩ (by omega)
 refine Mih ?_ (pc (pR ((i : Int) - 1)) (pc (pI 49 ((i : Int) - 1) (i - 1) (rdk hs)) (pF 51 (i - 1) 0 1 (rdk hs))))
 refine Mbn (Op.bytesLess ((s.at (i - 1)).name).toList ((s.at i).name).toList) (fun h15 => ?_) fun h15 => ?_
 · refine Mi ?_ (pR ((i : Int) + 1))
   have hf0 : lockF (s.xs.map CLock.abs) i = 0 := by
     grind [lockF]
   exact on1 (i + 1) ⟨by omega, by rw [hI]; exact firstF_step (by omega) hf0⟩ (by omega)
 refine Me0 14 ?_
 have hf : lockF (s.xs.map CLock.abs) i = 14 := by
   grind [lockF]
 rw [hI, firstF_here (by omega) hf (by omega)]

theorem ref_LocksFault {B : Nat → Prop} (s : Sl CLock) (w : World) (hs : s.rd B w) : Calls Tryz.prog 93 #[.slice s.A s.n s.c] w fun e w' => e = .returned (.int .i64 (mLocks (s.xs.map CLock.abs))) ∧ Kp [] w w' := by
 have oks := Sl.rd.ok hs
 have ncs := Sl.ok.nc oks
 have hns : s.n = s.xs.length := rfl
 have hat : ∀ q, (s.xs.map CLock.abs).getD q default = (s.at q).abs := fun q => abs_at q
 have hq1 : ∀ q, (s.at q).abs.name = (s.at q).name := fun _ => rfl
 have hq2 : ∀ q, (s.at q).abs.holder = (s.at q).holder := fun _ => rfl
 have hq3 : ∀ q, (s.at q).abs.fence = (s.at q).fence := fun _ => rfl
 have hml : (s.xs.map CLock.abs).length = s.n := by simp
 refine M0 ?_ Tryz.func93
 refine Md ((5 : Int) < (s.n : Int)) (fun h1 => ?_) (fun h1 => ?_)
 · refine Mt [.int .i64 1] fun bs w hS => ?_
   refine ⟨?_, hS.kp⟩
   simp only [retOf, den, List.map_cons, List.map_nil]
   have hm : mLocks (s.xs.map CLock.abs) = 1 := by
     grind [mLocks]
   rw [hm]
 refine Ml (σ := Nat) (fun i => i ≤ s.n ∧ mLocks (s.xs.map CLock.abs) = firstF (lockF (s.xs.map CLock.abs)) (s.n - i) i) (fun i => s.n - i) (fun _ => []) [3, 0] (fun i => [(3, vI (i : Int))]) (fun _ => []) ?_ 0 ⟨Nat.zero_le _, by unfold mLocks; rw [hml, if_neg (by omega)]⟩
 rintro i ⟨hi, hI⟩ _ on1
 have hp : ∀ q, posOk (s.at i).abs q = (inB ((s.at i).line.at q) 1 9 && (!decide ((s.at i).line.at q = (s.at i).holder) && !(((s.at i).line.xs.take q).any fun z => decide (z = (s.at i).line.at q)))) := fun _ => rfl
 refine Md ((i : Int) < (s.n : Int)) (fun h2 => ?_) (fun h2 => ?_)
 rotate_left
 · refine Mt [.int .i64 0] fun bs w hS => ?_
   refine ⟨?_, hS.kp⟩
   simp only [retOf, den, List.map_cons, List.map_nil]
   rw [hI, firstF_end (by omega)]
 refine Mi ?_ (pA 18 19 (i : Int) i (rdk hs))
 refine Mp ?_ (vs := fun bs => [.string (s.at i).name]) Tryz.call107 (fun bs w hS => ref_NameMay _ w (And.left (Sl.ok.at (s := s) (i := i) oks (by omega))))
 refine Mbn (mName (s.at i).name) (fun h3 => ?_) (fun h3 => ?_)
 rotate_left
 · refine Ml (σ := Nat × Bool) (fun ⟨j, b⟩ => j ≤ (s.at i).line.n ∧ b = (true || !(allTo (posOk (s.at i).abs) j))) (fun ⟨j, b⟩ => (s.at i).line.n - j) (fun _ => []) [6, 5, 4, 3, 0] (fun ⟨j, b⟩ => [(6, vI (j : Int)), (5, vB b)]) (fun _ => []) ?_ (⟨0, true⟩) ⟨Nat.zero_le _, by simp [allTo]⟩
   rintro ⟨j, b⟩ ⟨hj, hJ⟩ _ on7
   have ncl := Sl.ok.nc (Sl.ok.at oks (show i < s.n by omega)).2
   refine Md ((j : Int) < (((s.at i).line.n : Nat) : Int)) (fun h33 => ?_) fun h33 => ?_
   · refine Mda 33 [] [] [] Tryz_mixed ?_
     refine Mb b (fun h34 => ?_) fun h34 => ?_
     rotate_left
     · exfalso; rw [h34] at hJ; simp at hJ
     refine Mi ?_ (pR ((j : Int) + 1))
     exact on7 ⟨j + 1, true⟩ ⟨by omega, by simp only [allTo, hp]; simp_all⟩ (by show (s.at i).line.n - (j + 1) < (s.at i).line.n - j; omega)
   refine Mb b (fun h35 => ?_) fun h35 => ?_
   rotate_left
   · exfalso; rw [h35] at hJ; simp at hJ
   refine Mt [vi 4] fun bs w hS => ?_
   clear on1 on7
   refine ⟨?_, hS.kp⟩
   simp only [retOf, den, List.map_cons, List.map_nil]
   have hf : lockF (s.xs.map CLock.abs) i = 4 := by
     have hor : mName (s.at i).name = false ∨ (s.at i).holder < 0 ∨ 9 < (s.at i).holder ∨ lineOk (s.at i).abs = false := by
       first | exact .inl (by assumption) | exact .inr ((show (s.at i).holder < 0 ∨ 9 < (s.at i).holder by omega).elim .inl (fun h => .inr (.inl h))) | exact .inr (.inr (.inr (lineOk_false (.inr (.inl (by show 3 < (s.at i).line.n; omega)))))) | exact .inr (.inr (.inr (lineOk_false (.inr (.inr ⟨by show (s.at i).holder = 0; omega, by show 0 < (s.at i).line.n; omega⟩))))) | exact .inr (.inr (.inr (lineOk_false (.inl (by show allTo _ (s.at i).line.n = false; rw [show (s.at i).line.n = j by omega]; cases hq : allTo (posOk (s.at i).abs) j <;> simp_all)))))
     grind [lockF]
   rw [hI, firstF_here (by omega) hf (by omega)]
 refine Mp ?_ Tryz.call51 (fun bs w hS => ref_In (s.at i).holder 0 9 w)
 refine Mbn (inB (s.at i).holder 0 9) (fun h4 => ?_) fun h4 => ?_
 rotate_left
 · simp only [iT, iF] at h4
   refine Ml (σ := Nat × Bool) (fun ⟨j, b⟩ => j ≤ (s.at i).line.n ∧ b = (true || !(allTo (posOk (s.at i).abs) j))) (fun ⟨j, b⟩ => (s.at i).line.n - j) (fun _ => []) [6, 5, 4, 3, 0] (fun ⟨j, b⟩ => [(6, vI (j : Int)), (5, vB b)]) (fun _ => []) ?_ (⟨0, true⟩) ⟨Nat.zero_le _, by simp [allTo]⟩
   rintro ⟨j, b⟩ ⟨hj, hJ⟩ _ on6
   have ncl := Sl.ok.nc (Sl.ok.at oks (show i < s.n by omega)).2
   refine Md ((j : Int) < (((s.at i).line.n : Nat) : Int)) (fun h30 => ?_) fun h30 => ?_
   · refine Mda 33 [] [] [] Tryz_mixed ?_
     refine Mb b (fun h31 => ?_) fun h31 => ?_
     rotate_left
     · exfalso; rw [h31] at hJ; simp at hJ
     refine Mi ?_ (pR ((j : Int) + 1))
     exact on6 ⟨j + 1, true⟩ ⟨by omega, by simp only [allTo, hp]; simp_all⟩ (by show (s.at i).line.n - (j + 1) < (s.at i).line.n - j; omega)
   refine Mb b (fun h32 => ?_) fun h32 => ?_
   rotate_left
   · exfalso; rw [h32] at hJ; simp at hJ
   refine Mt [vi 4] fun bs w hS => ?_
   clear on1 on6
   refine ⟨?_, hS.kp⟩
   simp only [retOf, den, List.map_cons, List.map_nil]
   have hf : lockF (s.xs.map CLock.abs) i = 4 := by
     have hor : mName (s.at i).name = false ∨ (s.at i).holder < 0 ∨ 9 < (s.at i).holder ∨ lineOk (s.at i).abs = false := by
       first | exact .inl (by assumption) | exact .inr ((show (s.at i).holder < 0 ∨ 9 < (s.at i).holder by omega).elim .inl (fun h => .inr (.inl h))) | exact .inr (.inr (.inr (lineOk_false (.inr (.inl (by show 3 < (s.at i).line.n; omega)))))) | exact .inr (.inr (.inr (lineOk_false (.inr (.inr ⟨by show (s.at i).holder = 0; omega, by show 0 < (s.at i).line.n; omega⟩))))) | exact .inr (.inr (.inr (lineOk_false (.inl (by show allTo _ (s.at i).line.n = false; rw [show (s.at i).line.n = j by omega]; cases hq : allTo (posOk (s.at i).abs) j <;> simp_all)))))
     grind [lockF]
   rw [hI, firstF_here (by omega) hf (by omega)]
 simp only [iT, iF] at h4
 refine Md ((3 : Int) < (((s.at i).line.n : Nat) : Int)) (fun h5 => ?_) fun h5 => ?_
 · refine Ml (σ := Nat × Bool) (fun ⟨j, b⟩ => j ≤ (s.at i).line.n ∧ b = (true || !(allTo (posOk (s.at i).abs) j))) (fun ⟨j, b⟩ => (s.at i).line.n - j) (fun _ => []) [6, 5, 4, 3, 0] (fun ⟨j, b⟩ => [(6, vI (j : Int)), (5, vB b)]) (fun _ => []) ?_ (⟨0, true⟩) ⟨Nat.zero_le _, by simp [allTo]⟩
   rintro ⟨j, b⟩ ⟨hj, hJ⟩ _ on2
   have ncl := Sl.ok.nc (Sl.ok.at oks (show i < s.n by omega)).2
   refine Md ((j : Int) < (((s.at i).line.n : Nat) : Int)) (fun h6 => ?_) fun h6 => ?_
   · refine Mda 33 [] [] [] Tryz_mixed ?_
     refine Mb b (fun h7 => ?_) fun h7 => ?_
     rotate_left
     · exfalso; rw [h7] at hJ; simp at hJ
     refine Mi ?_ (pR ((j : Int) + 1))
     exact on2 ⟨j + 1, true⟩ ⟨by omega, by simp only [allTo, hp]; simp_all⟩ (by show (s.at i).line.n - (j + 1) < (s.at i).line.n - j; omega)
   refine Mb b (fun h8 => ?_) fun h8 => ?_
   rotate_left
   · exfalso; rw [h8] at hJ; simp at hJ
   refine Mt [vi 4] fun bs w hS => ?_
   clear on1 on2
   refine ⟨?_, hS.kp⟩
   simp only [retOf, den, List.map_cons, List.map_nil]
   have hf : lockF (s.xs.map CLock.abs) i = 4 := by
     have hor : mName (s.at i).name = false ∨ (s.at i).holder < 0 ∨ 9 < (s.at i).holder ∨ lineOk (s.at i).abs = false := by
       first | exact .inl (by assumption) | exact .inr ((show (s.at i).holder < 0 ∨ 9 < (s.at i).holder by omega).elim .inl (fun h => .inr (.inl h))) | exact .inr (.inr (.inr (lineOk_false (.inr (.inl (by show 3 < (s.at i).line.n; omega)))))) | exact .inr (.inr (.inr (lineOk_false (.inr (.inr ⟨by show (s.at i).holder = 0; omega, by show 0 < (s.at i).line.n; omega⟩))))) | exact .inr (.inr (.inr (lineOk_false (.inl (by show allTo _ (s.at i).line.n = false; rw [show (s.at i).line.n = j by omega]; cases hq : allTo (posOk (s.at i).abs) j <;> simp_all)))))
     grind [lockF]
   rw [hI, firstF_here (by omega) hf (by omega)]
 refine Md ((s.at i).holder = 0) (fun h9 => ?_) fun h9 => ?_
 rotate_left
 · refine Ml (σ := Nat × Bool) (fun ⟨j, b⟩ => j ≤ (s.at i).line.n ∧ b = (false || !(allTo (posOk (s.at i).abs) j))) (fun ⟨j, b⟩ => (s.at i).line.n - j) (fun _ => []) [6, 5, 4, 3, 0] (fun ⟨j, b⟩ => [(6, vI (j : Int)), (5, vB b)]) (fun _ => []) ?_ (⟨0, false⟩) ⟨Nat.zero_le _, by simp [allTo]⟩
   rintro ⟨j, b⟩ ⟨hj, hJ⟩ _ on5
   have ncl := Sl.ok.nc (Sl.ok.at oks (show i < s.n by omega)).2
   refine Md ((j : Int) < (((s.at i).line.n : Nat) : Int)) (fun h22 => ?_) fun h22 => ?_
   · refine Mda 33 [] [] [] Tryz_mixed ?_
     refine Mb b (fun h23 => ?_) fun h23 => ?_
     · refine Mi ?_ (pR ((j : Int) + 1))
       exact on5 ⟨j + 1, true⟩ ⟨by omega, by simp only [allTo, hp]; simp_all⟩ (by show (s.at i).line.n - (j + 1) < (s.at i).line.n - j; omega)
     refine Mih ?_ (pA 59 60 (j : Int) j (s := (s.at i).line) (fun w hk hr => (Sl.rd.sub (s := s) (i := i) (Sl.rd.kp hs hk) (by omega)).2))
     refine Mp ?_ Tryz.call51 (fun bs w hS => ref_In ((s.at i).line.at j) 1 9 w)
     refine Mbn (inB ((s.at i).line.at j) 1 9) (fun h24 => ?_) fun h24 => ?_
     rotate_left
     · refine Mi ?_ (pR ((j : Int) + 1))
       exact on5 ⟨j + 1, true⟩ ⟨by omega, by simp only [allTo, hp]; simp_all⟩ (by show (s.at i).line.n - (j + 1) < (s.at i).line.n - j; omega)
     refine Mih ?_ (pA 68 69 (j : Int) j (s := (s.at i).line) (fun w hk hr => (Sl.rd.sub (s := s) (i := i) (Sl.rd.kp hs hk) (by omega)).2))
     refine Md (((s.at i).line.at j) = (s.at i).holder) (fun h25 => ?_) fun h25 => ?_
     · refine Mi ?_ (pR ((j : Int) + 1))
       exact on5 ⟨j + 1, true⟩ ⟨by omega, by simp only [allTo, hp]; simp_all⟩ (by show (s.at i).line.n - (j + 1) < (s.at i).line.n - j; omega)
     refine Mih ?_ (pc (pG [(78, .sl 0 j)] (oc (rfl : 0 = 0) (oc (rfl : (j : Int) = (j : Int)) (oc ((by omega) : j ≤ (s.at i).line.c) on)))) (pA 82 83 (j : Int) j (s := (s.at i).line) (fun w hk hr => (Sl.rd.sub (s := s) (i := i) (Sl.rd.kp hs hk) (by omega)).2)))
     refine Mp ?_ Tryz.call103 (fun bs w hS => ref_has (s.at i).line j ((s.at i).line.at j) w (Sl.rd.sub (s := s) (i := i) (Sl.rd.kp hs hS.kp) (by omega)).2 (by omega))
     refine Mi ?_ (pR ((j : Int) + 1))
     exact on5 ⟨j + 1, ((s.at i).line.xs.take j).any fun z => decide (z = ((s.at i).line.at j))⟩ ⟨by omega, by simp only [allTo, hp]; simp_all⟩ (by show (s.at i).line.n - (j + 1) < (s.at i).line.n - j; omega)
   refine Mb b (fun h26 => ?_) fun h26 => ?_
   · refine Mt [vi 4] fun bs w hS => ?_
     clear on1 on5
     refine ⟨?_, hS.kp⟩
     simp only [retOf, den, List.map_cons, List.map_nil]
     have hf : lockF (s.xs.map CLock.abs) i = 4 := by
       have hor : mName (s.at i).name = false ∨ (s.at i).holder < 0 ∨ 9 < (s.at i).holder ∨ lineOk (s.at i).abs = false := by
         first | exact .inl (by assumption) | exact .inr ((show (s.at i).holder < 0 ∨ 9 < (s.at i).holder by omega).elim .inl (fun h => .inr (.inl h))) | exact .inr (.inr (.inr (lineOk_false (.inr (.inl (by show 3 < (s.at i).line.n; omega)))))) | exact .inr (.inr (.inr (lineOk_false (.inr (.inr ⟨by show (s.at i).holder = 0; omega, by show 0 < (s.at i).line.n; omega⟩))))) | exact .inr (.inr (.inr (lineOk_false (.inl (by show allTo _ (s.at i).line.n = false; rw [show (s.at i).line.n = j by omega]; cases hq : allTo (posOk (s.at i).abs) j <;> simp_all)))))
       grind [lockF]
     rw [hI, firstF_here (by omega) hf (by omega)]
   refine Mp ?_ Tryz.call51 (fun bs w hS => ref_In (s.at i).fence 1 1073741824 w)
   refine Mbn (inB (s.at i).fence 1 1073741824) (fun h27 => ?_) fun h27 => ?_
   rotate_left
   · simp only [iT, iF] at h27
     refine Mt [vi 2] fun bs w hS => ?_
     clear on1 on5
     refine ⟨?_, hS.kp⟩
     simp only [retOf, den, List.map_cons, List.map_nil]
     have hf : lockF (s.xs.map CLock.abs) i = 2 := by
       have hjn : (s.at i).line.n = j := by omega
       have hall : allTo (posOk (s.at i).abs) (s.at i).line.n = true := by rw [hjn]; cases hq : allTo (posOk (s.at i).abs) j <;> simp_all
       have hlo : lineOk (s.at i).abs = true := lineOk_true hall (by show (s.at i).line.n ≤ 3; omega) (by show ¬ (s.at i).holder = 0 ∨ (s.at i).line.n = 0; omega)
       grind [lockF]
     rw [hI, firstF_here (by omega) hf (by omega)]
   simp only [iT, iF] at h27
   refine Mda 13 [] [] [] Tryz_mixed ?_
   refine Md ((0 : Int) < (i : Int)) (fun h28 => ?_) fun h28 => ?_
   rotate_left
   · refine Mi ?_ (pR ((i : Int) + 1))
     have hf0 : lockF (s.xs.map CLock.abs) i = 0 := by
       have hjn : (s.at i).line.n = j := by omega
       have hall : allTo (posOk (s.at i).abs) (s.at i).line.n = true := by rw [hjn]; cases hq : allTo (posOk (s.at i).abs) j <;> simp_all
       have hlo : lineOk (s.at i).abs = true := lineOk_true hall (by show (s.at i).line.n ≤ 3; omega) (by show ¬ (s.at i).holder = 0 ∨ (s.at i).line.n = 0; omega)
       grind [lockF]
     exact on1 (i + 1) ⟨by omega, by rw [hI]; exact firstF_step (by omega) hf0⟩ (by omega)
   refine Mih ?_ (pc (pR ((i : Int) - 1)) (pc (pI 99 ((i : Int) - 1) (i - 1) (rdk hs)) (pF 101 (i - 1) 0 1 (rdk hs))))
   refine Mb (Op.bytesLess ((s.at i).name).toList ((s.at (i - 1)).name).toList || decide ((s.at i).name = (s.at (i - 1)).name)) (fun h29 => ?_) fun h29 => ?_
   rotate_left
   · rw [bytes_total] at h29
     simp only [Bool.not_eq_true', Bool.not_eq_false', Bool.not_eq_true, Bool.not_eq_false] at h29
     refine Mi ?_ (pR ((i : Int) + 1))
     have hf0 : lockF (s.xs.map CLock.abs) i = 0 := by
       have hjn : (s.at i).line.n = j := by omega
       have hall : allTo (posOk (s.at i).abs) (s.at i).line.n = true := by rw [hjn]; cases hq : allTo (posOk (s.at i).abs) j <;> simp_all
       have hlo : lineOk (s.at i).abs = true := lineOk_true hall (by show (s.at i).line.n ≤ 3; omega) (by show ¬ (s.at i).holder = 0 ∨ (s.at i).line.n = 0; omega)
       grind [lockF]
     exact on1 (i + 1) ⟨by omega, by rw [hI]; exact firstF_step (by omega) hf0⟩ (by omega)
   rw [bytes_total] at h29
   simp only [Bool.not_eq_true', Bool.not_eq_false', Bool.not_eq_true, Bool.not_eq_false] at h29
   refine Mt [vi 14] fun bs w hS => ?_
   clear on1 on5
   refine ⟨?_, hS.kp⟩
   simp only [retOf, den, List.map_cons, List.map_nil]
   have hf : lockF (s.xs.map CLock.abs) i = 14 := by
     have hjn : (s.at i).line.n = j := by omega
     have hall : allTo (posOk (s.at i).abs) (s.at i).line.n = true := by rw [hjn]; cases hq : allTo (posOk (s.at i).abs) j <;> simp_all
     have hlo : lineOk (s.at i).abs = true := lineOk_true hall (by show (s.at i).line.n ≤ 3; omega) (by show ¬ (s.at i).holder = 0 ∨ (s.at i).line.n = 0; omega)
     grind [lockF]
   rw [hI, firstF_here (by omega) hf (by omega)]
 by_cases h10 : (0 : Int) < (((s.at i).line.n : Nat) : Int)
 · refine Mq 5 true ?_ (dT h10)
   refine Ml (σ := Nat × Bool) (fun ⟨j, b⟩ => j ≤ (s.at i).line.n ∧ b = (true || !(allTo (posOk (s.at i).abs) j))) (fun ⟨j, b⟩ => (s.at i).line.n - j) (fun _ => []) [6, 5, 4, 3, 0] (fun ⟨j, b⟩ => [(6, vI (j : Int)), (5, vB b)]) (fun _ => []) ?_ (⟨0, true⟩) ⟨Nat.zero_le _, by simp [allTo]⟩
   rintro ⟨j, b⟩ ⟨hj, hJ⟩ _ on3
   have ncl := Sl.ok.nc (Sl.ok.at oks (show i < s.n by omega)).2
   refine Md ((j : Int) < (((s.at i).line.n : Nat) : Int)) (fun h11 => ?_) fun h11 => ?_
   · refine Mda 33 [] [] [] Tryz_mixed ?_
     refine Mb b (fun h12 => ?_) fun h12 => ?_
     rotate_left
     · exfalso; rw [h12] at hJ; simp at hJ
     refine Mi ?_ (pR ((j : Int) + 1))
     exact on3 ⟨j + 1, true⟩ ⟨by omega, by simp only [allTo, hp]; simp_all⟩ (by show (s.at i).line.n - (j + 1) < (s.at i).line.n - j; omega)
   refine Mb b (fun h13 => ?_) fun h13 => ?_
   rotate_left
   · exfalso; rw [h13] at hJ; simp at hJ
   refine Mt [vi 4] fun bs w hS => ?_
   clear on1 on3
   refine ⟨?_, hS.kp⟩
   simp only [retOf, den, List.map_cons, List.map_nil]
   have hf : lockF (s.xs.map CLock.abs) i = 4 := by
     have hor : mName (s.at i).name = false ∨ (s.at i).holder < 0 ∨ 9 < (s.at i).holder ∨ lineOk (s.at i).abs = false := by
       first | exact .inl (by assumption) | exact .inr ((show (s.at i).holder < 0 ∨ 9 < (s.at i).holder by omega).elim .inl (fun h => .inr (.inl h))) | exact .inr (.inr (.inr (lineOk_false (.inr (.inl (by show 3 < (s.at i).line.n; omega)))))) | exact .inr (.inr (.inr (lineOk_false (.inr (.inr ⟨by show (s.at i).holder = 0; omega, by show 0 < (s.at i).line.n; omega⟩))))) | exact .inr (.inr (.inr (lineOk_false (.inl (by show allTo _ (s.at i).line.n = false; rw [show (s.at i).line.n = j by omega]; cases hq : allTo (posOk (s.at i).abs) j <;> simp_all)))))
     grind [lockF]
   rw [hI, firstF_here (by omega) hf (by omega)]
 refine Mq 5 false ?_ (dF h10)
 refine Ml (σ := Nat × Bool) (fun ⟨j, b⟩ => j ≤ (s.at i).line.n ∧ b = (false || !(allTo (posOk (s.at i).abs) j))) (fun ⟨j, b⟩ => (s.at i).line.n - j) (fun _ => []) [6, 5, 4, 3, 0] (fun ⟨j, b⟩ => [(6, vI (j : Int)), (5, vB b)]) (fun _ => []) ?_ (⟨0, false⟩) ⟨Nat.zero_le _, by simp [allTo]⟩
 rintro ⟨j, b⟩ ⟨hj, hJ⟩ _ on4
 have ncl := Sl.ok.nc (Sl.ok.at oks (show i < s.n by omega)).2
 refine Md ((j : Int) < (((s.at i).line.n : Nat) : Int)) (fun h14 => ?_) fun h14 => ?_
 · refine Mda 33 [] [] [] Tryz_mixed ?_
   refine Mb b (fun h15 => ?_) fun h15 => ?_
   · refine Mi ?_ (pR ((j : Int) + 1))
     exact on4 ⟨j + 1, true⟩ ⟨by omega, by simp only [allTo, hp]; simp_all⟩ (by show (s.at i).line.n - (j + 1) < (s.at i).line.n - j; omega)
   refine Mih ?_ (pA 59 60 (j : Int) j (s := (s.at i).line) (fun w hk hr => (Sl.rd.sub (s := s) (i := i) (Sl.rd.kp hs hk) (by omega)).2))
   refine Mp ?_ Tryz.call51 (fun bs w hS => ref_In ((s.at i).line.at j) 1 9 w)
   refine Mbn (inB ((s.at i).line.at j) 1 9) (fun h16 => ?_) fun h16 => ?_
   rotate_left
   · refine Mi ?_ (pR ((j : Int) + 1))
     exact on4 ⟨j + 1, true⟩ ⟨by omega, by simp only [allTo, hp]; simp_all⟩ (by show (s.at i).line.n - (j + 1) < (s.at i).line.n - j; omega)
   refine Mih ?_ (pA 68 69 (j : Int) j (s := (s.at i).line) (fun w hk hr => (Sl.rd.sub (s := s) (i := i) (Sl.rd.kp hs hk) (by omega)).2))
   refine Md (((s.at i).line.at j) = (s.at i).holder) (fun h17 => ?_) fun h17 => ?_
   · refine Mi ?_ (pR ((j : Int) + 1))
     exact on4 ⟨j + 1, true⟩ ⟨by omega, by simp only [allTo, hp]; simp_all⟩ (by show (s.at i).line.n - (j + 1) < (s.at i).line.n - j; omega)
   refine Mih ?_ (pc (pG [(78, .sl 0 j)] (oc (rfl : 0 = 0) (oc (rfl : (j : Int) = (j : Int)) (oc ((by omega) : j ≤ (s.at i).line.c) on)))) (pA 82 83 (j : Int) j (s := (s.at i).line) (fun w hk hr => (Sl.rd.sub (s := s) (i := i) (Sl.rd.kp hs hk) (by omega)).2)))
   refine Mp ?_ Tryz.call103 (fun bs w hS => ref_has (s.at i).line j ((s.at i).line.at j) w (Sl.rd.sub (s := s) (i := i) (Sl.rd.kp hs hS.kp) (by omega)).2 (by omega))
   refine Mi ?_ (pR ((j : Int) + 1))
   exact on4 ⟨j + 1, ((s.at i).line.xs.take j).any fun z => decide (z = ((s.at i).line.at j))⟩ ⟨by omega, by simp only [allTo, hp]; simp_all⟩ (by show (s.at i).line.n - (j + 1) < (s.at i).line.n - j; omega)
 refine Mb b (fun h18 => ?_) fun h18 => ?_
 · refine Mt [vi 4] fun bs w hS => ?_
   clear on1 on4
   refine ⟨?_, hS.kp⟩
   simp only [retOf, den, List.map_cons, List.map_nil]
   have hf : lockF (s.xs.map CLock.abs) i = 4 := by
     have hor : mName (s.at i).name = false ∨ (s.at i).holder < 0 ∨ 9 < (s.at i).holder ∨ lineOk (s.at i).abs = false := by
       first | exact .inl (by assumption) | exact .inr ((show (s.at i).holder < 0 ∨ 9 < (s.at i).holder by omega).elim .inl (fun h => .inr (.inl h))) | exact .inr (.inr (.inr (lineOk_false (.inr (.inl (by show 3 < (s.at i).line.n; omega)))))) | exact .inr (.inr (.inr (lineOk_false (.inr (.inr ⟨by show (s.at i).holder = 0; omega, by show 0 < (s.at i).line.n; omega⟩))))) | exact .inr (.inr (.inr (lineOk_false (.inl (by show allTo _ (s.at i).line.n = false; rw [show (s.at i).line.n = j by omega]; cases hq : allTo (posOk (s.at i).abs) j <;> simp_all)))))
     grind [lockF]
   rw [hI, firstF_here (by omega) hf (by omega)]
 refine Mp ?_ Tryz.call51 (fun bs w hS => ref_In (s.at i).fence 1 1073741824 w)
 refine Mbn (inB (s.at i).fence 1 1073741824) (fun h19 => ?_) fun h19 => ?_
 rotate_left
 · simp only [iT, iF] at h19
   refine Mt [vi 2] fun bs w hS => ?_
   clear on1 on4
   refine ⟨?_, hS.kp⟩
   simp only [retOf, den, List.map_cons, List.map_nil]
   have hf : lockF (s.xs.map CLock.abs) i = 2 := by
     have hjn : (s.at i).line.n = j := by omega
     have hall : allTo (posOk (s.at i).abs) (s.at i).line.n = true := by rw [hjn]; cases hq : allTo (posOk (s.at i).abs) j <;> simp_all
     have hlo : lineOk (s.at i).abs = true := lineOk_true hall (by show (s.at i).line.n ≤ 3; omega) (by show ¬ (s.at i).holder = 0 ∨ (s.at i).line.n = 0; omega)
     grind [lockF]
   rw [hI, firstF_here (by omega) hf (by omega)]
 simp only [iT, iF] at h19
 refine Mda 13 [] [] [] Tryz_mixed ?_
 refine Md ((0 : Int) < (i : Int)) (fun h20 => ?_) fun h20 => ?_
 rotate_left
 · refine Mi ?_ (pR ((i : Int) + 1))
   have hf0 : lockF (s.xs.map CLock.abs) i = 0 := by
     have hjn : (s.at i).line.n = j := by omega
     have hall : allTo (posOk (s.at i).abs) (s.at i).line.n = true := by rw [hjn]; cases hq : allTo (posOk (s.at i).abs) j <;> simp_all
     have hlo : lineOk (s.at i).abs = true := lineOk_true hall (by show (s.at i).line.n ≤ 3; omega) (by show ¬ (s.at i).holder = 0 ∨ (s.at i).line.n = 0; omega)
     grind [lockF]
   exact on1 (i + 1) ⟨by omega, by rw [hI]; exact firstF_step (by omega) hf0⟩ (by omega)
 refine Mih ?_ (pc (pR ((i : Int) - 1)) (pc (pI 99 ((i : Int) - 1) (i - 1) (rdk hs)) (pF 101 (i - 1) 0 1 (rdk hs))))
 refine Mb (Op.bytesLess ((s.at i).name).toList ((s.at (i - 1)).name).toList || decide ((s.at i).name = (s.at (i - 1)).name)) (fun h21 => ?_) fun h21 => ?_
 rotate_left
 · rw [bytes_total] at h21
   simp only [Bool.not_eq_true', Bool.not_eq_false', Bool.not_eq_true, Bool.not_eq_false] at h21
   refine Mi ?_ (pR ((i : Int) + 1))
   have hf0 : lockF (s.xs.map CLock.abs) i = 0 := by
     have hjn : (s.at i).line.n = j := by omega
     have hall : allTo (posOk (s.at i).abs) (s.at i).line.n = true := by rw [hjn]; cases hq : allTo (posOk (s.at i).abs) j <;> simp_all
     have hlo : lineOk (s.at i).abs = true := lineOk_true hall (by show (s.at i).line.n ≤ 3; omega) (by show ¬ (s.at i).holder = 0 ∨ (s.at i).line.n = 0; omega)
     grind [lockF]
   exact on1 (i + 1) ⟨by omega, by rw [hI]; exact firstF_step (by omega) hf0⟩ (by omega)
 rw [bytes_total] at h21
 simp only [Bool.not_eq_true', Bool.not_eq_false', Bool.not_eq_true, Bool.not_eq_false] at h21
 refine Mt [vi 14] fun bs w hS => ?_
 clear on1 on4
 refine ⟨?_, hS.kp⟩
 simp only [retOf, den, List.map_cons, List.map_nil]
 have hf : lockF (s.xs.map CLock.abs) i = 14 := by
   have hjn : (s.at i).line.n = j := by omega
   have hall : allTo (posOk (s.at i).abs) (s.at i).line.n = true := by rw [hjn]; cases hq : allTo (posOk (s.at i).abs) j <;> simp_all
   have hlo : lineOk (s.at i).abs = true := lineOk_true hall (by show (s.at i).line.n ≤ 3; omega) (by show ¬ (s.at i).holder = 0 ∨ (s.at i).line.n = 0; omega)
   grind [lockF]
 rw [hI, firstF_here (by omega) hf (by omega)]

theorem session_replies {B : Nat → Prop} (x : CSession) (w : World) (hx : Rds.sub B w x) (hb : 0 ≤ x.acked ∧ x.acked ≤ 1048576) : Calls Tryz.prog 91 #[x.val] w fun e w' => e = .returned (vb (mReplies x.abs)) ∧ Kp [] w w' := by
 have okx := Rds.okof hx
 have ncx := Sl.ok.nc okx
 have hns : x.replies.n = x.replies.xs.length := rfl
 have hat : ∀ q, x.abs.replies.getD q default = x.replies.at q := fun _ => rfl
 have hac : x.abs.acked = x.acked := rfl
 have hln : x.abs.replies.length = x.replies.n := rfl
 refine M0 ?_ Tryz.func91
 refine Ml (σ := Nat) (fun i => i ≤ x.replies.n ∧ allTo (keptOk x.abs) i = true) (fun i => x.replies.n - i) (fun _ => []) [9, 8, 7, 1] (fun i => [(9, vI (i : Int))]) (fun _ => []) ?_ 0 ⟨Nat.zero_le _, rfl⟩
 rintro i ⟨hi, hI⟩ _ on1
 refine Md ((i : Int) < (x.replies.n : Int)) (fun h1 => ?_) fun h1 => ?_
 rotate_left
 · have hm : mReplies x.abs = true := by show allTo _ x.abs.replies.length = true; rw [hln, show x.replies.n = i by omega]; exact hI
   exact Meb true hm
 refine Mi ?_ (pA 12 13 (i : Int) i (s := x.replies) (fun w hk hr => (Rds.kp hx hk)))
 refine Mda 29 [] [] [] Tryz_mixed ?_
 refine Md ((x.replies.at i).seq ≤ x.acked) (fun h2 => ?_) fun h2 => ?_
 · have hm : mReplies x.abs = false := allTo_bad (j := i) (decide_eq_false (fun hk => by simp only [hat, hac] at hk; omega)) (show i < x.abs.replies.length by rw [hln]; omega)
   exact Meb false hm
 refine Mih ?_ (pR (x.acked + 4))
 refine Md (x.acked + 4 < (x.replies.at i).seq) (fun h3 => ?_) fun h3 => ?_
 · have hm : mReplies x.abs = false := allTo_bad (j := i) (decide_eq_false (fun hk => by simp only [hat, hac] at hk; omega)) (show i < x.abs.replies.length by rw [hln]; omega)
   exact Meb false hm
 refine Md ((0 : Int) < (i : Int)) (fun h4 => ?_) fun h4 => ?_
 rotate_left
 · refine Md ((x.replies.at i).reply.code < 0) (fun h11 => ?_) fun h11 => ?_
   · have hm : mReplies x.abs = false := allTo_bad (j := i) (decide_eq_false (fun hk => by simp only [hat, hac] at hk; omega)) (show i < x.abs.replies.length by rw [hln]; omega)
     exact Meb false hm
   refine Md ((15 : Int) < (x.replies.at i).reply.code) (fun h12 => ?_) fun h12 => ?_
   · have hm : mReplies x.abs = false := allTo_bad (j := i) (decide_eq_false (fun hk => by simp only [hat, hac] at hk; omega)) (show i < x.abs.replies.length by rw [hln]; omega)
     exact Meb false hm
   refine Md ((x.replies.at i).reply.n < 0) (fun h13 => ?_) fun h13 => ?_
   · have hm : mReplies x.abs = false := allTo_bad (j := i) (decide_eq_false (fun hk => by simp only [hat, hac] at hk; omega)) (show i < x.abs.replies.length by rw [hln]; omega)
     exact Meb false hm
   refine Md ((1073741824 : Int) < (x.replies.at i).reply.n) (fun h14 => ?_) fun h14 => ?_
   · have hm : mReplies x.abs = false := allTo_bad (j := i) (decide_eq_false (fun hk => by simp only [hat, hac] at hk; omega)) (show i < x.abs.replies.length by rw [hln]; omega)
     exact Meb false hm
   refine Md ((12 : Int) < ((x.replies.at i).reply.text.size : Int)) (fun h15 => ?_) fun h15 => ?_
   rotate_left
   · refine Mi ?_ (pR ((i : Int) + 1))
     exact on1 (i + 1) ⟨by omega, allTo_step hI (decide_eq_true (by simp only [hat, hac]; exact ⟨by omega, by omega, by omega, by omega, by omega, by omega, by omega, by omega⟩))⟩ (by omega)
   have hm : mReplies x.abs = false := allTo_bad (j := i) (decide_eq_false (fun hk => by simp only [hat, hac] at hk; omega)) (show i < x.abs.replies.length by rw [hln]; omega)
   exact Meb false hm
 refine Mih ?_ (pc (pR ((i : Int) - 1)) (pc (pI 35 ((i : Int) - 1) (i - 1) (s := x.replies) (fun w hk hr => (Rds.kp hx hk))) (pF 37 (i - 1) 0 1 (s := x.replies) (fun w hk hr => (Rds.kp hx hk)))))
 refine Md ((x.replies.at i).seq ≤ (x.replies.at (i - 1)).seq) (fun h5 => ?_) fun h5 => ?_
 · have hm : mReplies x.abs = false := allTo_bad (j := i) (decide_eq_false (fun hk => by simp only [hat, hac] at hk; omega)) (show i < x.abs.replies.length by rw [hln]; omega)
   exact Meb false hm
 refine Md ((x.replies.at i).reply.code < 0) (fun h6 => ?_) fun h6 => ?_
 · have hm : mReplies x.abs = false := allTo_bad (j := i) (decide_eq_false (fun hk => by simp only [hat, hac] at hk; omega)) (show i < x.abs.replies.length by rw [hln]; omega)
   exact Meb false hm
 refine Md ((15 : Int) < (x.replies.at i).reply.code) (fun h7 => ?_) fun h7 => ?_
 · have hm : mReplies x.abs = false := allTo_bad (j := i) (decide_eq_false (fun hk => by simp only [hat, hac] at hk; omega)) (show i < x.abs.replies.length by rw [hln]; omega)
   exact Meb false hm
 refine Md ((x.replies.at i).reply.n < 0) (fun h8 => ?_) fun h8 => ?_
 · have hm : mReplies x.abs = false := allTo_bad (j := i) (decide_eq_false (fun hk => by simp only [hat, hac] at hk; omega)) (show i < x.abs.replies.length by rw [hln]; omega)
   exact Meb false hm
 refine Md ((1073741824 : Int) < (x.replies.at i).reply.n) (fun h9 => ?_) fun h9 => ?_
 · have hm : mReplies x.abs = false := allTo_bad (j := i) (decide_eq_false (fun hk => by simp only [hat, hac] at hk; omega)) (show i < x.abs.replies.length by rw [hln]; omega)
   exact Meb false hm
 refine Md ((12 : Int) < ((x.replies.at i).reply.text.size : Int)) (fun h10 => ?_) fun h10 => ?_
 rotate_left
 · refine Mi ?_ (pR ((i : Int) + 1))
   exact on1 (i + 1) ⟨by omega, allTo_step hI (decide_eq_true (by simp only [hat, hac]; exact ⟨by omega, by omega, by omega, by omega, by omega, by omega, by omega, by omega⟩))⟩ (by omega)
 have hm : mReplies x.abs = false := allTo_bad (j := i) (decide_eq_false (fun hk => by simp only [hat, hac] at hk; omega)) (show i < x.abs.replies.length by rw [hln]; omega)
 exact Meb false hm

theorem ref_repliesMay {B : Nat → Prop} (x : CSession) (w : World) (hx : Rds.sub B w x) (hb : 0 ≤ x.acked ∧ x.acked ≤ 1048576) : Calls Tryz.prog 108 #[x.val] w fun e w' => e = .returned (vb (mReplies x.abs)) ∧ Kp [] w w' := by
 have okx := Rds.okof hx
 have ncx := Sl.ok.nc okx
 have hns : x.replies.n = x.replies.xs.length := rfl
 have hat : ∀ q, x.abs.replies.getD q default = x.replies.at q := fun _ => rfl
 have hac : x.abs.acked = x.acked := rfl
 have hln : x.abs.replies.length = x.replies.n := rfl
 refine M0 ?_ Tryz.func108
 refine Ml (σ := Nat × Int) (fun ⟨i, la⟩ => i ≤ x.replies.n ∧ allTo (keptOk x.abs) i = true ∧ x.acked ≤ la ∧ la ≤ x.acked + 4 ∧ (i = 0 → la = x.acked) ∧ (0 < i → la = (x.replies.at (i - 1)).seq)) (fun ⟨i, la⟩ => x.replies.n - i) (fun _ => []) [4, 3, 1] (fun ⟨i, la⟩ => [(4, vI (i : Int)), (3, vI la)]) (fun _ => []) ?_ (⟨0, x.acked⟩) ⟨Nat.zero_le _, rfl, by omega, by omega, fun _ => rfl, fun h => absurd h (by omega)⟩
 rintro ⟨i, la⟩ ⟨hi, hI, hl1, hl2, hl3, hl4⟩ _ on1
 have hz : i = 0 ∧ la = x.acked ∨ 0 < i ∧ la = (x.replies.at (i - 1)).seq := by rcases Nat.eq_zero_or_pos i with h | h; exact .inl ⟨h, hl3 h⟩; exact .inr ⟨h, hl4 h⟩
 refine Md ((i : Int) < (x.replies.n : Int)) (fun h1 => ?_) fun h1 => ?_
 rotate_left
 · have hm : mReplies x.abs = true := by show allTo _ x.abs.replies.length = true; rw [hln, show x.replies.n = i by omega]; exact hI
   exact Meb true hm
 refine Mi ?_ (pc (pA 18 19 (i : Int) i (s := x.replies) (fun w hk hr => (Rds.kp hx hk))) (pc (pR (la + 1)) (pR (x.acked + 4))))
 refine Mp ?_ Tryz.call51 (fun bs w hS => ref_In (x.replies.at i).seq (la + 1) (x.acked + 4) w)
 refine Mbn (inB (x.replies.at i).seq (la + 1) (x.acked + 4)) (fun h2 => ?_) fun h2 => ?_
 rotate_left
 · simp only [iT, iF] at h2
   have hm : mReplies x.abs = false := allTo_bad (j := i) (decide_eq_false (fun hk => by simp only [hat, hac] at hk; omega)) (show i < x.abs.replies.length by rw [hln]; omega)
   exact Meb false hm
 simp only [iT, iF] at h2
 refine Mp ?_ Tryz.call51 (fun bs w hS => ref_In (x.replies.at i).reply.code 0 15 w)
 refine Mbn (inB (x.replies.at i).reply.code 0 15) (fun h3 => ?_) fun h3 => ?_
 rotate_left
 · simp only [iT, iF] at h3
   have hm : mReplies x.abs = false := allTo_bad (j := i) (decide_eq_false (fun hk => by simp only [hat, hac] at hk; omega)) (show i < x.abs.replies.length by rw [hln]; omega)
   exact Meb false hm
 simp only [iT, iF] at h3
 refine Mp ?_ Tryz.call51 (fun bs w hS => ref_In (x.replies.at i).reply.n 0 1073741824 w)
 refine Mbn (inB (x.replies.at i).reply.n 0 1073741824) (fun h4 => ?_) fun h4 => ?_
 rotate_left
 · simp only [iT, iF] at h4
   have hm : mReplies x.abs = false := allTo_bad (j := i) (decide_eq_false (fun hk => by simp only [hat, hac] at hk; omega)) (show i < x.abs.replies.length by rw [hln]; omega)
   exact Meb false hm
 simp only [iT, iF] at h4
 refine Md ((12 : Int) < ((x.replies.at i).reply.text.size : Int)) (fun h5 => ?_) fun h5 => ?_
 · have hm : mReplies x.abs = false := allTo_bad (j := i) (decide_eq_false (fun hk => by simp only [hat, hac] at hk; omega)) (show i < x.abs.replies.length by rw [hln]; omega)
   exact Meb false hm
 refine Mi ?_ (pR ((i : Int) + 1))
 exact on1 ⟨i + 1, (x.replies.at i).seq⟩ ⟨by omega, allTo_step hI (decide_eq_true (by simp only [hat, hac]; exact ⟨by omega, by omega, by omega, by omega, by omega, by omega, by omega, by omega⟩)), by omega, by omega, fun h => absurd h (by omega), fun _ => rfl⟩ (by show x.replies.n - (i + 1) < x.replies.n - i; omega)

theorem session_Check {B : Nat → Prop} (s : Sl CSession) (n : Int) (w : World) (hs : s.rd B w) : Calls Tryz.prog 63 #[s.val, vi n] w fun e w' => e = .returned (vi (mSess (s.xs.map CSession.abs) n)) ∧ Kp [] w w' := by
 have oks := Sl.rd.ok hs
 have ncs := Sl.ok.nc oks
 have hns : s.n = s.xs.length := rfl
 have hat : ∀ q, (s.xs.map CSession.abs).getD q default = (s.at q).abs := fun q => sabs_at q
 have hq0 : ∀ q, (s.at q).abs.client = (s.at q).client := fun _ => rfl
 have hq1 : ∀ q, (s.at q).abs.id = (s.at q).id := fun _ => rfl
 have hq2 : ∀ q, (s.at q).abs.acked = (s.at q).acked := fun _ => rfl
 have hq3 : ∀ q, (s.at q).abs.last = (s.at q).last := fun _ => rfl
 have hml : (s.xs.map CSession.abs).length = s.n := by simp
 refine M0 ?_ Tryz.func63
 refine Md (n < 0) (fun h1 => ?_) fun h1 => ?_
 · have hm : mSess (s.xs.map CSession.abs) n = 2 := by
     unfold mSess; rw [hml]
     first | rw [if_pos (by omega)] | rw [if_neg (by omega), if_pos (by omega)]
   exact Me0 2 hm
 refine Md ((1073741824 : Int) < n) (fun h2 => ?_) fun h2 => ?_
 · have hm : mSess (s.xs.map CSession.abs) n = 2 := by
     unfold mSess; rw [hml]
     first | rw [if_pos (by omega)] | rw [if_neg (by omega), if_pos (by omega)]
   exact Me0 2 hm
 refine Md ((4 : Int) < (s.n : Int)) (fun h3 => ?_) fun h3 => ?_
 · have hm : mSess (s.xs.map CSession.abs) n = 1 := by
     unfold mSess; rw [hml]
     first | rw [if_pos (by omega)] | rw [if_neg (by omega), if_pos (by omega)]
   exact Me0 1 hm
 refine Ml (σ := Nat) (fun i => i ≤ s.n ∧ mSess (s.xs.map CSession.abs) n = firstF (sessF (s.xs.map CSession.abs) n) (s.n - i) i) (fun i => s.n - i) (fun _ => []) [18, 17, 16, 0, 1] (fun i => [(18, vI (i : Int))]) (fun _ => []) ?_ 0 ⟨Nat.zero_le _, by unfold mSess; rw [hml, if_neg (by omega), if_neg (by omega)]⟩
 rintro i ⟨hi, hI⟩ _ on1
 refine Md ((i : Int) < (s.n : Int)) (fun h4 => ?_) fun h4 => ?_
 rotate_left
 · exact Me0 0 (by rw [hI, firstF_end (by omega)])
 refine Mi ?_ (pA 21 22 (i : Int) i (rdk hs))
 refine Md ((s.at i).client < 1) (fun h5 => ?_) fun h5 => ?_
 · refine Me0 2 ?_
   have hf : sessF (s.xs.map CSession.abs) n i = 2 := by
     grind [sessF]
   rw [hI, firstF_here (by omega) hf (by omega)]
 refine Md ((9 : Int) < (s.at i).client) (fun h6 => ?_) fun h6 => ?_
 · refine Me0 2 ?_
   have hf : sessF (s.xs.map CSession.abs) n i = 2 := by
     grind [sessF]
   rw [hI, firstF_here (by omega) hf (by omega)]
 refine Md ((s.at i).acked < 0) (fun h7 => ?_) fun h7 => ?_
 · refine Me0 2 ?_
   have hf : sessF (s.xs.map CSession.abs) n i = 2 := by
     grind [sessF]
   rw [hI, firstF_here (by omega) hf (by omega)]
 refine Md ((1048576 : Int) < (s.at i).acked) (fun h8 => ?_) fun h8 => ?_
 · refine Me0 2 ?_
   have hf : sessF (s.xs.map CSession.abs) n i = 2 := by
     grind [sessF]
   rw [hI, firstF_here (by omega) hf (by omega)]
 refine Md ((s.at i).id < 1) (fun h9 => ?_) fun h9 => ?_
 · refine Me0 2 ?_
   have hf : sessF (s.xs.map CSession.abs) n i = 2 := by
     grind [sessF]
   rw [hI, firstF_here (by omega) hf (by omega)]
 refine Md ((s.at i).last < (s.at i).id) (fun h10 => ?_) fun h10 => ?_
 · refine Me0 2 ?_
   have hf : sessF (s.xs.map CSession.abs) n i = 2 := by
     grind [sessF]
   rw [hI, firstF_here (by omega) hf (by omega)]
 refine Md (n < (s.at i).last) (fun h11 => ?_) fun h11 => ?_
 · refine Me0 2 ?_
   have hf : sessF (s.xs.map CSession.abs) n i = 2 := by
     grind [sessF]
   rw [hI, firstF_here (by omega) hf (by omega)]
 refine Mp ?_ Tryz.call91 (fun bs w hS => session_replies (s.at i) w (Sl.rd.sub (s := s) (i := i) (Sl.rd.kp hs hS.kp) (by omega)) (by first | exact ⟨by omega, by omega⟩ | (simp only [] at *; exact ⟨by omega, by omega⟩)))
 refine Mbn (mReplies (s.at i).abs) (fun h12 => ?_) fun h12 => ?_
 rotate_left
 · refine Me0 4 ?_
   have hf : sessF (s.xs.map CSession.abs) n i = 4 := by
     grind [sessF]
   rw [hI, firstF_here (by omega) hf (by omega)]
 refine Mda 13 [] [] [] Tryz_mixed ?_
 refine Md ((0 : Int) < (i : Int)) (fun h13 => ?_) fun h13 => ?_
 rotate_left
 · refine Mi ?_ (pR ((i : Int) + 1))
   have hf0 : sessF (s.xs.map CSession.abs) n i = 0 := by
     grind [sessF]
   exact on1 (i + 1) ⟨by omega, by rw [hI]; exact firstF_step (by omega) hf0⟩ (by omega)
 refine Mih ?_ (pc (pR ((i : Int) - 1)) (pc (pI 68 ((i : Int) - 1) (i - 1) (rdk hs)) (pF 70 (i - 1) 0 1 (rdk hs))))
 refine Md ((s.at i).client ≤ (s.at (i - 1)).client) (fun h14 => ?_) fun h14 => ?_
 rotate_left
 · refine Mi ?_ (pR ((i : Int) + 1))
   have hf0 : sessF (s.xs.map CSession.abs) n i = 0 := by
     grind [sessF]
   exact on1 (i + 1) ⟨by omega, by rw [hI]; exact firstF_step (by omega) hf0⟩ (by omega)
 refine Me0 14 ?_
 have hf : sessF (s.xs.map CSession.abs) n i = 14 := by
   grind [sessF]
 rw [hI, firstF_here (by omega) hf (by omega)]

theorem ref_SessionsFault {B : Nat → Prop} (s : Sl CSession) (n : Int) (w : World) (hs : s.rd B w) : Calls Tryz.prog 92 #[s.val, vi n] w fun e w' => e = .returned (vi (mSess (s.xs.map CSession.abs) n)) ∧ Kp [] w w' := by
 have oks := Sl.rd.ok hs
 have ncs := Sl.ok.nc oks
 have hns : s.n = s.xs.length := rfl
 have hat : ∀ q, (s.xs.map CSession.abs).getD q default = (s.at q).abs := fun q => sabs_at q
 have hq0 : ∀ q, (s.at q).abs.client = (s.at q).client := fun _ => rfl
 have hq1 : ∀ q, (s.at q).abs.id = (s.at q).id := fun _ => rfl
 have hq2 : ∀ q, (s.at q).abs.acked = (s.at q).acked := fun _ => rfl
 have hq3 : ∀ q, (s.at q).abs.last = (s.at q).last := fun _ => rfl
 have hml : (s.xs.map CSession.abs).length = s.n := by simp
 refine M0 ?_ Tryz.func92
 refine Mp ?_ Tryz.call51 (fun bs w hS => ref_In n 0 1073741824 w)
 refine Mbn (inB n 0 1073741824) (fun h1 => ?_) fun h1 => ?_
 rotate_left
 · simp only [iT, iF] at h1
   have hm : mSess (s.xs.map CSession.abs) n = 2 := by
     unfold mSess; rw [hml]
     first | rw [if_pos (by omega)] | rw [if_neg (by omega), if_pos (by omega)]
   exact Me0 2 hm
 simp only [iT, iF] at h1
 refine Md ((4 : Int) < (s.n : Int)) (fun h2 => ?_) fun h2 => ?_
 · have hm : mSess (s.xs.map CSession.abs) n = 1 := by
     unfold mSess; rw [hml]
     first | rw [if_pos (by omega)] | rw [if_neg (by omega), if_pos (by omega)]
   exact Me0 1 hm
 refine Ml (σ := Nat) (fun i => i ≤ s.n ∧ mSess (s.xs.map CSession.abs) n = firstF (sessF (s.xs.map CSession.abs) n) (s.n - i) i) (fun i => s.n - i) (fun _ => []) [5, 0, 1] (fun i => [(5, vI (i : Int))]) (fun _ => []) ?_ 0 ⟨Nat.zero_le _, by unfold mSess; rw [hml, if_neg (by omega), if_neg (by omega)]⟩
 rintro i ⟨hi, hI⟩ _ on1
 refine Md ((i : Int) < (s.n : Int)) (fun h3 => ?_) fun h3 => ?_
 rotate_left
 · exact Me0 0 (by rw [hI, firstF_end (by omega)])
 refine Mi ?_ (pA 21 22 (i : Int) i (rdk hs))
 refine Mp ?_ Tryz.call51 (fun bs w hS => ref_In (s.at i).client 1 9 w)
 refine Mbn (inB (s.at i).client 1 9) (fun h4 => ?_) fun h4 => ?_
 rotate_left
 · simp only [iT, iF] at h4
   refine Me0 2 ?_
   have hf : sessF (s.xs.map CSession.abs) n i = 2 := by
     grind [sessF]
   rw [hI, firstF_here (by omega) hf (by omega)]
 simp only [iT, iF] at h4
 refine Mp ?_ Tryz.call51 (fun bs w hS => ref_In (s.at i).acked 0 1048576 w)
 refine Mbn (inB (s.at i).acked 0 1048576) (fun h5 => ?_) fun h5 => ?_
 rotate_left
 · simp only [iT, iF] at h5
   refine Me0 2 ?_
   have hf : sessF (s.xs.map CSession.abs) n i = 2 := by
     grind [sessF]
   rw [hI, firstF_here (by omega) hf (by omega)]
 simp only [iT, iF] at h5
 refine Mp ?_ Tryz.call51 (fun bs w hS => ref_In (s.at i).id 1 n w)
 refine Mbn (inB (s.at i).id 1 n) (fun h6 => ?_) fun h6 => ?_
 rotate_left
 · simp only [iT, iF] at h6
   refine Me0 2 ?_
   have hf : sessF (s.xs.map CSession.abs) n i = 2 := by
     grind [sessF]
   rw [hI, firstF_here (by omega) hf (by omega)]
 simp only [iT, iF] at h6
 refine Mp ?_ Tryz.call51 (fun bs w hS => ref_In (s.at i).last (s.at i).id n w)
 refine Mbn (inB (s.at i).last (s.at i).id n) (fun h7 => ?_) fun h7 => ?_
 rotate_left
 · simp only [iT, iF] at h7
   refine Me0 2 ?_
   have hf : sessF (s.xs.map CSession.abs) n i = 2 := by
     grind [sessF]
   rw [hI, firstF_here (by omega) hf (by omega)]
 simp only [iT, iF] at h7
 refine Mp ?_ Tryz.call108 (fun bs w hS => ref_repliesMay (s.at i) w (Sl.rd.sub (s := s) (i := i) (Sl.rd.kp hs hS.kp) (by omega)) (by first | exact ⟨by omega, by omega⟩ | (simp only [] at *; exact ⟨by omega, by omega⟩)))
 refine Mbn (mReplies (s.at i).abs) (fun h8 => ?_) fun h8 => ?_
 rotate_left
 · refine Me0 4 ?_
   have hf : sessF (s.xs.map CSession.abs) n i = 4 := by
     grind [sessF]
   rw [hI, firstF_here (by omega) hf (by omega)]
 refine Mda 13 [] [] [] Tryz_mixed ?_
 refine Md ((0 : Int) < (i : Int)) (fun h9 => ?_) fun h9 => ?_
 rotate_left
 · refine Mi ?_ (pR ((i : Int) + 1))
   have hf0 : sessF (s.xs.map CSession.abs) n i = 0 := by
     grind [sessF]
   exact on1 (i + 1) ⟨by omega, by rw [hI]; exact firstF_step (by omega) hf0⟩ (by omega)
 refine Mih ?_ (pc (pR ((i : Int) - 1)) (pc (pI 60 ((i : Int) - 1) (i - 1) (rdk hs)) (pF 62 (i - 1) 0 1 (rdk hs))))
 refine Md ((s.at i).client ≤ (s.at (i - 1)).client) (fun h10 => ?_) fun h10 => ?_
 rotate_left
 · refine Mi ?_ (pR ((i : Int) + 1))
   have hf0 : sessF (s.xs.map CSession.abs) n i = 0 := by
     grind [sessF]
   exact on1 (i + 1) ⟨by omega, by rw [hI]; exact firstF_step (by omega) hf0⟩ (by omega)
 refine Me0 14 ?_
 have hf : sessF (s.xs.map CSession.abs) n i = 14 := by
   grind [sessF]
 rw [hI, firstF_here (by omega) hf (by omega)]

theorem pair_Check {B : Nat → Prop} (s : Sl DPair) (w : World) (hs : s.rd B w) : Calls Tryz.prog 65 #[s.val] w fun e w' => e = .returned (vi (mPairs s.xs)) ∧ Kp [] w w' := by
 have oks := Sl.rd.ok hs
 have ncs := Sl.ok.nc oks
 have hns : s.n = s.xs.length := rfl
 refine M0 ?_ Tryz.func65
 refine Md ((5 : Int) < (s.n : Int)) (fun h1 => ?_) fun h1 => ?_
 · have hm : mPairs s.xs = 1 := by
     unfold mPairs; rw [if_pos (by omega)]
   exact Me0 1 hm
 refine Ml (σ := Nat) (fun i => i ≤ s.n ∧ mPairs s.xs = firstF (pairF s.xs) (s.n - i) i) (fun i => s.n - i) (fun _ => []) [10, 9, 8, 0] (fun i => [(10, vI (i : Int))]) (fun _ => []) ?_ 0 ⟨Nat.zero_le _, by unfold mPairs; rw [if_neg (by omega)]⟩
 rintro i ⟨hi, hI⟩ _ on1
 have hlt := hi
 refine Md ((i : Int) < (s.n : Int)) (fun h2 => ?_) fun h2 => ?_
 rotate_left
 · exact Me0 0 (by rw [hI, firstF_end (by omega)])
 refine Mi ?_ (pA 13 14 (i : Int) i (rdk hs))
 refine Mp ?_ Tryz.call129 (fun bs w hS => lock_Name _ w (Sl.ok.at (s := s) (i := i) oks (by omega)).1)
 refine Mbn (mName (s.at i).name) (fun h3 => ?_) fun h3 => ?_
 rotate_left
 · refine Me0 4 ?_
   have hf : pairF s.xs i = 4 := by
     have hat : ∀ q, s.xs.getD q default = s.at q := fun _ => rfl
     grind [pairF]
   rw [hI, firstF_here (by omega) hf (by omega)]
 refine Md ((12 : Int) < ((s.at i).value.size : Int)) (fun h4 => ?_) fun h4 => ?_
 · refine Me0 1 ?_
   have hf : pairF s.xs i = 1 := by
     have hat : ∀ q, s.xs.getD q default = s.at q := fun _ => rfl
     grind [pairF]
   rw [hI, firstF_here (by omega) hf (by omega)]
 refine Md ((s.at i).version < 1) (fun h5 => ?_) fun h5 => ?_
 · refine Me0 2 ?_
   have hf : pairF s.xs i = 2 := by
     have hat : ∀ q, s.xs.getD q default = s.at q := fun _ => rfl
     grind [pairF]
   rw [hI, firstF_here (by omega) hf (by omega)]
 refine Md ((1073741824 : Int) < (s.at i).version) (fun h6 => ?_) fun h6 => ?_
 · refine Me0 2 ?_
   have hf : pairF s.xs i = 2 := by
     have hat : ∀ q, s.xs.getD q default = s.at q := fun _ => rfl
     grind [pairF]
   rw [hI, firstF_here (by omega) hf (by omega)]
 refine Mda 13 [] [] [] Tryz_mixed ?_
 refine Md ((0 : Int) < (i : Int)) (fun h7 => ?_) fun h7 => ?_
 rotate_left
 · refine Mi ?_ (pR ((i : Int) + 1))
   have hf0 : pairF s.xs i = 0 := by
     have hat : ∀ q, s.xs.getD q default = s.at q := fun _ => rfl
     grind [pairF]
   exact on1 (i + 1) ⟨by omega, by rw [hI]; exact firstF_step (by omega) hf0⟩ (by omega)
 refine Mih ?_ (pc (pR ((i : Int) - 1)) (pc (pI 37 ((i : Int) - 1) (i - 1) (rdk hs)) (pF 39 (i - 1) 0 1 (rdk hs))))
 refine Mbn (Op.bytesLess ((s.at (i - 1)).name).toList ((s.at i).name).toList) (fun h8 => ?_) fun h8 => ?_
 · refine Mi ?_ (pR ((i : Int) + 1))
   have hf0 : pairF s.xs i = 0 := by
     have hat : ∀ q, s.xs.getD q default = s.at q := fun _ => rfl
     grind [pairF]
   exact on1 (i + 1) ⟨by omega, by rw [hI]; exact firstF_step (by omega) hf0⟩ (by omega)
 refine Me0 14 ?_
 have hf : pairF s.xs i = 14 := by
   have hat : ∀ q, s.xs.getD q default = s.at q := fun _ => rfl
   grind [pairF]
 rw [hI, firstF_here (by omega) hf (by omega)]

theorem ref_PairsFault {B : Nat → Prop} (s : Sl DPair) (w : World) (hs : s.rd B w) : Calls Tryz.prog 94 #[s.val] w fun e w' => e = .returned (vi (mPairs s.xs)) ∧ Kp [] w w' := by
 have oks := Sl.rd.ok hs
 have ncs := Sl.ok.nc oks
 have hns : s.n = s.xs.length := rfl
 refine M0 ?_ Tryz.func94
 refine Md ((5 : Int) < (s.n : Int)) (fun h1 => ?_) fun h1 => ?_
 · have hm : mPairs s.xs = 1 := by
     unfold mPairs; rw [if_pos (by omega)]
   exact Me0 1 hm
 refine Ml (σ := Nat) (fun i => i ≤ s.n ∧ mPairs s.xs = firstF (pairF s.xs) (s.n - i) i) (fun i => s.n - i) (fun _ => []) [3, 0] (fun i => [(3, vI (i : Int))]) (fun _ => []) ?_ 0 ⟨Nat.zero_le _, by unfold mPairs; rw [if_neg (by omega)]⟩
 rintro i ⟨hi, hI⟩ _ on1
 have hlt := hi
 refine Md ((i : Int) < (s.n : Int)) (fun h2 => ?_) fun h2 => ?_
 rotate_left
 · exact Me0 0 (by rw [hI, firstF_end (by omega)])
 refine Mi ?_ (pc (pI 15 (i : Int) i (rdk hs)) (pF 17 i 0 1 (rdk hs)))
 refine Mp ?_ Tryz.call107 (fun bs w hS => ref_NameMay _ w (Sl.ok.at (s := s) (i := i) oks (by omega)).1)
 refine Mbn (mName (s.at i).name) (fun h3 => ?_) fun h3 => ?_
 rotate_left
 · refine Me0 4 ?_
   have hf : pairF s.xs i = 4 := by
     have hat : ∀ q, s.xs.getD q default = s.at q := fun _ => rfl
     grind [pairF]
   rw [hI, firstF_here (by omega) hf (by omega)]
 refine Mi ?_ (pc (pI 22 (i : Int) i (rdk hs)) (pF 24 i 1 1 (rdk hs)))
 refine Md ((12 : Int) < ((s.at i).value.size : Int)) (fun h4 => ?_) fun h4 => ?_
 · refine Me0 1 ?_
   have hf : pairF s.xs i = 1 := by
     have hat : ∀ q, s.xs.getD q default = s.at q := fun _ => rfl
     grind [pairF]
   rw [hI, firstF_here (by omega) hf (by omega)]
 refine Mi ?_ (pc (pI 29 (i : Int) i (rdk hs)) (pF 31 i 2 1 (rdk hs)))
 refine Mp ?_ Tryz.call51 (fun bs w hS => ref_In (s.at i).version 1 1073741824 w)
 refine Mbn (inB (s.at i).version 1 1073741824) (fun h5 => ?_) fun h5 => ?_
 rotate_left
 · simp only [iT, iF] at h5
   refine Me0 2 ?_
   have hf : pairF s.xs i = 2 := by
     have hat : ∀ q, s.xs.getD q default = s.at q := fun _ => rfl
     grind [pairF]
   rw [hI, firstF_here (by omega) hf (by omega)]
 simp only [iT, iF] at h5
 refine Mda 16 [] [] [] Tryz_mixed ?_
 refine Md ((0 : Int) < (i : Int)) (fun h6 => ?_) fun h6 => ?_
 rotate_left
 · refine Mi ?_ (pR ((i : Int) + 1))
   have hf0 : pairF s.xs i = 0 := by
     have hat : ∀ q, s.xs.getD q default = s.at q := fun _ => rfl
     grind [pairF]
   exact on1 (i + 1) ⟨by omega, by rw [hI]; exact firstF_step (by omega) hf0⟩ (by omega)
 refine Mih ?_ (pc (pI 39 (i : Int) i (rdk hs)) (pc (pF 41 i 0 1 (rdk hs)) (pc (pR ((i : Int) - 1)) (pc (pI 45 ((i : Int) - 1) (i - 1) (rdk hs)) (pF 47 (i - 1) 0 1 (rdk hs))))))
 refine Mb (Op.bytesLess ((s.at i).name).toList ((s.at (i - 1)).name).toList || decide ((s.at i).name = (s.at (i - 1)).name)) (fun h7 => ?_) fun h7 => ?_
 rotate_left
 · rw [bytes_total] at h7
   simp only [Bool.not_eq_true', Bool.not_eq_false', Bool.not_eq_true, Bool.not_eq_false] at h7
   refine Mi ?_ (pR ((i : Int) + 1))
   have hf0 : pairF s.xs i = 0 := by
     have hat : ∀ q, s.xs.getD q default = s.at q := fun _ => rfl
     grind [pairF]
   exact on1 (i + 1) ⟨by omega, by rw [hI]; exact firstF_step (by omega) hf0⟩ (by omega)
 rw [bytes_total] at h7
 simp only [Bool.not_eq_true', Bool.not_eq_false', Bool.not_eq_true, Bool.not_eq_false] at h7
 refine Me0 14 ?_
 have hf : pairF s.xs i = 14 := by
   have hat : ∀ q, s.xs.getD q default = s.at q := fun _ => rfl
   grind [pairF]
 rw [hI, firstF_here (by omega) hf (by omega)]

theorem machine_Check {B : Nat → Prop} (x : CState) (w : World) (hx : Rds.sub B w x) : Calls Tryz.prog 20 #[x.val] w fun e w' => e = .returned (vi (mState x.abs)) ∧ Kp [] w w' := by
 have okx := Rds.okof hx
 refine M0 ?_ Tryz.func20
 refine Mp ?_ Tryz.call63 (fun bs w hS => session_Check x.sessions x.index w (Rds.kp hx hS.kp).2.2)
 refine Mdn (mSess (x.sessions.xs.map CSession.abs) x.index = 0) (fun h1 => ?_) fun h1 => ?_
 rotate_left
 · have hm : mState x.abs = mSess (x.sessions.xs.map CSession.abs) x.index := by
     have q1 : x.abs.sessions = x.sessions.xs.map CSession.abs := rfl
     have q2 : x.abs.locks = x.locks.xs.map CLock.abs := rfl
     have q3 : x.abs.pairs = x.pairs.xs := rfl
     have q4 : x.abs.index = x.index := rfl
     grind [mState]
   exact Me0 (mSess (x.sessions.xs.map CSession.abs) x.index) hm
 refine Mp ?_ Tryz.call64 (fun bs w hS => lock_Check x.locks w (Rds.kp hx hS.kp).1)
 refine Mdn (mLocks (x.locks.xs.map CLock.abs) = 0) (fun h2 => ?_) fun h2 => ?_
 rotate_left
 · have hm : mState x.abs = mLocks (x.locks.xs.map CLock.abs) := by
     have q1 : x.abs.sessions = x.sessions.xs.map CSession.abs := rfl
     have q2 : x.abs.locks = x.locks.xs.map CLock.abs := rfl
     have q3 : x.abs.pairs = x.pairs.xs := rfl
     have q4 : x.abs.index = x.index := rfl
     grind [mState]
   exact Me0 (mLocks (x.locks.xs.map CLock.abs)) hm
 refine Mp ?_ Tryz.call65 (fun bs w hS => pair_Check x.pairs w (Rds.kp hx hS.kp).2.1)
 have hm : mState x.abs = mPairs x.pairs.xs := by
   have q1 : x.abs.sessions = x.sessions.xs.map CSession.abs := rfl
   have q2 : x.abs.locks = x.locks.xs.map CLock.abs := rfl
   have q3 : x.abs.pairs = x.pairs.xs := rfl
   have q4 : x.abs.index = x.index := rfl
   grind [mState]
 exact Me0 (mPairs x.pairs.xs) hm

theorem ref_StateFault {B : Nat → Prop} (x : CState) (w : World) (hx : Rds.sub B w x) : Calls Tryz.prog 30 #[x.val] w fun e w' => e = .returned (vi (mState x.abs)) ∧ Kp [] w w' := by
 have okx := Rds.okof hx
 refine M0 ?_ Tryz.func30
 refine Mp ?_ Tryz.call92 (fun bs w hS => ref_SessionsFault x.sessions x.index w (Rds.kp hx hS.kp).2.2)
 refine Md (mSess (x.sessions.xs.map CSession.abs) x.index = 0) (fun h1 => ?_) fun h1 => ?_
 rotate_left
 · refine My false false ?_ (df h1)
   have hm : mState x.abs = mSess (x.sessions.xs.map CSession.abs) x.index := by
     have q1 : x.abs.sessions = x.sessions.xs.map CSession.abs := rfl
     have q2 : x.abs.locks = x.locks.xs.map CLock.abs := rfl
     have q3 : x.abs.pairs = x.pairs.xs := rfl
     have q4 : x.abs.index = x.index := rfl
     grind [mState]
   exact Me0 (mSess (x.sessions.xs.map CSession.abs) x.index) hm
 refine Mp ?_ Tryz.call93 (fun bs w hS => ref_LocksFault x.locks w (Rds.kp hx hS.kp).1)
 refine Md (mLocks (x.locks.xs.map CLock.abs) = 0) (fun h2 => ?_) fun h2 => ?_
 rotate_left
 · have hm : mState x.abs = mLocks (x.locks.xs.map CLock.abs) := by
     have q1 : x.abs.sessions = x.sessions.xs.map CSession.abs := rfl
     have q2 : x.abs.locks = x.locks.xs.map CLock.abs := rfl
     have q3 : x.abs.pairs = x.pairs.xs := rfl
     have q4 : x.abs.index = x.index := rfl
     grind [mState]
   exact Me0 (mLocks (x.locks.xs.map CLock.abs)) hm
 refine Mp ?_ Tryz.call94 (fun bs w hS => ref_PairsFault x.pairs w (Rds.kp hx hS.kp).2.1)
 have hm : mState x.abs = mPairs x.pairs.xs := by
   have q1 : x.abs.sessions = x.sessions.xs.map CSession.abs := rfl
   have q2 : x.abs.locks = x.locks.xs.map CLock.abs := rfl
   have q3 : x.abs.pairs = x.pairs.xs := rfl
   have q4 : x.abs.index = x.index := rfl
   grind [mState]
 exact Me0 (mPairs x.pairs.xs) hm

theorem log_Check {B : Nat → Prop} (x : CLog) (w : World) (hx : Rds.sub B w x) : Calls Tryz.prog 110 #[x.val] w fun e w' => e = .returned (vi (mLog x.abs)) ∧ Kp [] w w' := by
 have okx := Rds.okof hx
 have ncx := Sl.ok.nc okx
 have hnx : x.entries.n = x.entries.xs.length := rfl
 have q1 : x.abs.base = x.base := rfl
 have q2 : x.abs.entries = x.entries.xs := rfl
 have hat : ∀ q, x.entries.xs.getD q default = x.entries.at q := fun _ => rfl
 refine M0 ?_ Tryz.func110
 refine Md (x.base < 0) (fun h1 => ?_) fun h1 => ?_
 · have hm : mLog x.abs = 2 := by
     unfold mLog; rw [q1, q2]
     first | rw [if_pos (by omega)] | rw [if_neg (by omega), if_pos (by omega)]
   exact Me0 2 hm
 refine Md ((1073741424 : Int) < x.base) (fun h2 => ?_) fun h2 => ?_
 · have hm : mLog x.abs = 2 := by
     unfold mLog; rw [q1, q2]
     first | rw [if_pos (by omega)] | rw [if_neg (by omega), if_pos (by omega)]
   exact Me0 2 hm
 refine Md ((400 : Int) < (x.entries.n : Int)) (fun h3 => ?_) fun h3 => ?_
 · have hm : mLog x.abs = 1 := by
     unfold mLog; rw [q1, q2]
     first | rw [if_pos (by omega)] | rw [if_neg (by omega), if_pos (by omega)]
   exact Me0 1 hm
 refine Ml (σ := Nat) (fun i => i ≤ x.entries.n ∧ mLog x.abs = firstF (logF x.entries.xs) (x.entries.n - i) i) (fun i => x.entries.n - i) (fun _ => []) [22, 21, 20] (fun i => [(22, vI (i : Int))]) (fun _ => []) ?_ 0 ⟨Nat.zero_le _, by unfold mLog; rw [q1, q2, if_neg (by omega), if_neg (by omega)]⟩
 rintro i ⟨hi, hI⟩ _ on1
 refine Md ((i : Int) < (x.entries.n : Int)) (fun h4 => ?_) fun h4 => ?_
 rotate_left
 · exact Me0 0 (by rw [hI, firstF_end (by omega)])
 refine Mi ?_ (pA 24 25 (i : Int) i (s := x.entries) (fun w hk hr => (Rds.kp hx hk)))
 refine Mp ?_ Tryz.call21 (fun bs w hS => command_Decode (x.entries.at i) w (Sl.ok.at (s := x.entries) (i := i) okx (by omega)))
 refine Mdn ((mDecode (x.entries.at i)).2 = 0) (fun h5 => ?_) fun h5 => ?_
 · refine Mi ?_ (pR ((i : Int) + 1))
   have hf0 : logF x.entries.xs i = 0 := by grind [logF]
   exact on1 (i + 1) ⟨by omega, by rw [hI]; exact firstF_step (by omega) hf0⟩ (by omega)
 refine Me0 ((mDecode (x.entries.at i)).2) ?_
 have hf : logF x.entries.xs i = (mDecode (x.entries.at i)).2 := by unfold logF; rw [hat]
 rw [hI, firstF_here (by omega) hf (by assumption)]

theorem ref_LogFault {B : Nat → Prop} (x : CLog) (w : World) (hx : Rds.sub B w x) : Calls Tryz.prog 113 #[x.val] w fun e w' => e = .returned (vi (mLog x.abs)) ∧ Kp [] w w' := by
 have okx := Rds.okof hx
 have ncx := Sl.ok.nc okx
 have hnx : x.entries.n = x.entries.xs.length := rfl
 have q1 : x.abs.base = x.base := rfl
 have q2 : x.abs.entries = x.entries.xs := rfl
 have hat : ∀ q, x.entries.xs.getD q default = x.entries.at q := fun _ => rfl
 refine M0 ?_ Tryz.func113
 refine Mp ?_ Tryz.call51 (fun bs w hS => ref_In x.base 0 1073741424 w)
 refine Mbn (inB x.base 0 1073741424) (fun h1 => ?_) fun h1 => ?_
 rotate_left
 · simp only [iT, iF] at h1
   have hm : mLog x.abs = 2 := by
     unfold mLog; rw [q1, q2]
     first | rw [if_pos (by omega)] | rw [if_neg (by omega), if_pos (by omega)]
   exact Me0 2 hm
 simp only [iT, iF] at h1
 refine Md ((400 : Int) < (x.entries.n : Int)) (fun h2 => ?_) fun h2 => ?_
 · have hm : mLog x.abs = 1 := by
     unfold mLog; rw [q1, q2]
     first | rw [if_pos (by omega)] | rw [if_neg (by omega), if_pos (by omega)]
   exact Me0 1 hm
 refine Ml (σ := Nat) (fun i => i ≤ x.entries.n ∧ mLog x.abs = firstF (logF x.entries.xs) (x.entries.n - i) i) (fun i => x.entries.n - i) (fun _ => []) [3, 1] (fun i => [(3, vI (i : Int))]) (fun _ => []) ?_ 0 ⟨Nat.zero_le _, by unfold mLog; rw [q1, q2, if_neg (by omega), if_neg (by omega)]⟩
 rintro i ⟨hi, hI⟩ _ on1
 refine Md ((i : Int) < (x.entries.n : Int)) (fun h3 => ?_) fun h3 => ?_
 rotate_left
 · exact Me0 0 (by rw [hI, firstF_end (by omega)])
 refine Mi ?_ (pA 25 26 (i : Int) i (s := x.entries) (fun w hk hr => (Rds.kp hx hk)))
 refine Mp ?_ Tryz.call31 (fun bs w hS => ref_CommandOf (x.entries.at i) w (Sl.ok.at (s := x.entries) (i := i) okx (by omega)))
 refine Mdn ((mDecode (x.entries.at i)).2 = 0) (fun h4 => ?_) fun h4 => ?_
 · refine Mi ?_ (pR ((i : Int) + 1))
   have hf0 : logF x.entries.xs i = 0 := by grind [logF]
   exact on1 (i + 1) ⟨by omega, by rw [hI]; exact firstF_step (by omega) hf0⟩ (by omega)
 refine Me0 ((mDecode (x.entries.at i)).2) ?_
 have hf : logF x.entries.xs i = (mDecode (x.entries.at i)).2 := by unfold logF; rw [hat]
 rw [hI, firstF_here (by omega) hf (by assumption)]

theorem log_Last {B : Nat → Prop} (x : CLog) (w : World) (hx : Rds.sub B w x) (hb : 0 ≤ x.base ∧ x.base ≤ 1073741424 ∧ x.entries.n ≤ 1048576) : Calls Tryz.prog 49 #[x.val] w fun e w' => e = .returned (vi (x.base + (x.entries.n : Int))) ∧ Kp [] w w' := by
 have okx := Rds.okof hx
 have ncx := Sl.ok.nc okx
 have hnx : x.entries.n = x.entries.xs.length := rfl
 have q1 : x.abs.base = x.base := rfl
 have q2 : x.abs.entries = x.entries.xs := rfl
 have hat : ∀ q, x.entries.xs.getD q default = x.entries.at q := fun _ => rfl
 refine M0 ?_ Tryz.func49
 refine Mi ?_ (pR (x.base + (x.entries.n : Int)))
 exact Mt [vi (x.base + (x.entries.n : Int))] fun bs w hS => ⟨rfl, hS.kp⟩

theorem ref_LastOf {B : Nat → Prop} (x : CLog) (w : World) (hx : Rds.sub B w x) (hb : 0 ≤ x.base ∧ x.base ≤ 1073741424 ∧ x.entries.n ≤ 1048576) : Calls Tryz.prog 52 #[x.val] w fun e w' => e = .returned (vi (x.base + (x.entries.n : Int))) ∧ Kp [] w w' := by
 have okx := Rds.okof hx
 have ncx := Sl.ok.nc okx
 have hnx : x.entries.n = x.entries.xs.length := rfl
 have q1 : x.abs.base = x.base := rfl
 have q2 : x.abs.entries = x.entries.xs := rfl
 have hat : ∀ q, x.entries.xs.getD q default = x.entries.at q := fun _ => rfl
 refine M0 ?_ Tryz.func52
 refine Mi ?_ (pR (x.base + (x.entries.n : Int)))
 exact Mt [vi (x.base + (x.entries.n : Int))] fun bs w hS => ⟨rfl, hS.kp⟩

theorem bytealg_CompareString (a b : ByteArray) (w : World) : Calls Tryz.prog 189 #[vs a, vs b] w fun e w' => e = .returned (vi (cmpS a b)) ∧ Kp [] w w' := by
 refine M0 ?_ Tryz.func189
 refine Mx ?_ (vs := fun bs => [vs a, vs b]) (v := vi (cmpS a b)) (fun bs w hS => by rw [run_callFunc_extern Tryz.func218 (by kernel_rfl) (by kernel_rfl) (by kernel_rfl) (e := Extern.BytealgCompare.compare) (by kernel_rfl)]; show ((Extern.BytealgCompare.compare #[vs a, vs b]).run _ w).andThen _ = _; rw [Lib.run_compareString]; rfl)
 exact Mt [vi (cmpS a b)] fun bs w hS => ⟨rfl, hS.kp⟩

theorem strings_Compare (a b : ByteArray) (w : World) : Calls Tryz.prog 147 #[vs a, vs b] w fun e w' => e = .returned (vi (cmpS a b)) ∧ Kp [] w w' := by
 refine M0 ?_ Tryz.func147
 refine Mp ?_ Tryz.call189 (fun bs w hS => bytealg_CompareString a b w)
 exact Mt [vi (cmpS a b)] fun bs w hS => ⟨rfl, hS.kp⟩

theorem lock_Who_1 (x : CLock) (t : ByteArray) (w : World) : Calls Tryz.prog 146 #[x.val, vs t] w fun e w' => e = .returned (vi (cmpS x.name t)) ∧ Kp [] w w' := by
 refine M0 ?_ Tryz.func146
 refine Mp ?_ Tryz.call147 (fun bs w hS => strings_Compare x.name t w)
 exact Mt [vi (cmpS x.name t)] fun bs w hS => ⟨rfl, hS.kp⟩

theorem bs_lock_Who_1 {B : Nat → Prop} (s : Sl CLock) (t : ByteArray) (w : World) (hs : s.rd B w) (hn : s.n ≤ 1048576) : Calls Tryz.prog 145 #[s.val, vs t, .func (.func 146) #[] #[]] w fun e w' => e = .returned (.tuple #[vi (mBS (fun x : CLock => cmpS x.name t) s.xs : Nat), vb (mBSf (fun x : CLock => cmpS x.name t) s.xs)]) ∧ Kp [] w w' := by
 have oks := Sl.rd.ok hs
 have ncs := Sl.ok.nc oks
 have hns : s.n = s.xs.length := rfl
 refine Mj ?_ Tryz.func145 (WS.start w)
 refine Ml (σ := Nat × Nat × Nat) (fun ⟨i, j, f⟩ => i ≤ j ∧ j ≤ s.n ∧ j - i ≤ f ∧ mBS (fun x : CLock => cmpS x.name t) s.xs = bsGo (fun j => decide (cmpS (s.at j).name t < 0)) f i j) (fun ⟨i, j, f⟩ => f) (fun _ => []) [10, 9, 8, 0, 1, 2] (fun ⟨i, j, f⟩ => [(10, vI (j : Int)), (9, vI (i : Int))]) (fun _ => []) ?_ (⟨0, s.n, s.n⟩) ⟨Nat.zero_le _, Nat.le_refl _, Nat.le_refl _, rfl⟩
 rintro ⟨i, j, f⟩ ⟨h1, h2, h3, hI⟩ _ on1
 have hdiv : ((i : Int) + (j : Int)) / 2 = (((i + j) / 2 : Nat) : Int) := by omega
 refine Md ((i : Int) < (j : Int)) (fun h1 => ?_) fun h1 => ?_
 rotate_left
 · refine Md ((i : Int) < (s.n : Int)) (fun h3 => ?_) fun h3 => ?_
   rotate_left
   · refine Mt [vi (i : Int), vb false] fun bs w hS => ?_
     have hij : i = j := by omega
     subst hij
     have hr : mBS (fun x : CLock => cmpS x.name t) s.xs = i := by rw [hI]; exact bsGo_end _ _ _ _ (Nat.le_refl _)
     refine ⟨?_, hS.kp⟩
     have hr2 : mBSf (fun x : CLock => cmpS x.name t) s.xs = false := by
       unfold mBSf; rw [hr]
       rw [decide_eq_false (show ¬ i < s.xs.length by omega)]; rfl
     rw [hr, hr2]
     rfl
   refine Mi ?_ (pA 43 44 (i : Int) i (rdk hs))
   refine Mp ?_ Tryz.call146 (fun bs w hS => lock_Who_1 (s.at i) t w)
   refine Mt [vi (i : Int), vb (decide (cmpS (s.at i).name t = 0))] fun bs w hS => ?_
   have hij : i = j := by omega
   subst hij
   have hr : mBS (fun x : CLock => cmpS x.name t) s.xs = i := by rw [hI]; exact bsGo_end _ _ _ _ (Nat.le_refl _)
   refine ⟨?_, hS.kp⟩
   have hr2 : mBSf (fun x : CLock => cmpS x.name t) s.xs = (decide (cmpS (s.at i).name t = 0)) := by
     unfold mBSf; rw [hr]
     rw [decide_eq_true (show i < s.xs.length by omega)]; rfl
   rw [hr, hr2]
   rfl
 refine Mi ?_ (pc (pR ((i : Int) + (j : Int))) (pc (pG [(21, .val (.int .u64 ((i : Int) + (j : Int))))] (oc ((conv_i64_u64 Tryz.underlying3 Tryz.underlying203 (by omega) (by omega)) : ∀ w, (convert 3 203 (vi ((i : Int) + (j : Int))) : Sem Value).run Tryz.prog w = .ok (.int .u64 ((i : Int) + (j : Int))) w) on)) (pc (pG [(22, .val (.int .u64 (((i : Int) + (j : Int)) / 2)))] (oc (shr_u64 : ∀ w, (do eqGuard .shr 203 (.tmp 21) (.const (.int .u64 1)) (.int .u64 ((i : Int) + (j : Int))) (.int .u64 1); binOp .shr 203 (.int .u64 ((i : Int) + (j : Int))) (.int .u64 1) : Sem Value).run Tryz.prog w = .ok (.int .u64 (((i : Int) + (j : Int)) / 2)) w) on)) (pc (pG [(23, .val (vi (((i : Int) + (j : Int)) / 2)))] (oc ((conv_u64_i64 Tryz.underlying203 Tryz.underlying3 (by omega) (by omega)) : ∀ w, (convert 203 3 (.int .u64 (((i : Int) + (j : Int)) / 2)) : Sem Value).run Tryz.prog w = .ok (vi (((i : Int) + (j : Int)) / 2)) w) on)) (pA 27 28 (((i : Int) + (j : Int)) / 2) (((i : Int) + (j : Int)) / 2).toNat (rdk hs))))))
 refine Mp ?_ Tryz.call146 (fun bs w hS => lock_Who_1 (s.at (((i : Int) + (j : Int)) / 2).toNat) t w)
 refine Md (cmpS (s.at (((i : Int) + (j : Int)) / 2).toNat).name t < 0) (fun h2 => ?_) fun h2 => ?_
 rotate_left
 · have hf1 : f = (f - 1) + 1 := by omega
   rw [hf1] at hI
   have hI2 := hI.trans (bsGo_down (by omega) (decide_eq_false (by assumption)))
   exact on1 ⟨i, (i + j) / 2, f - 1⟩ ⟨by omega, by omega, by omega, hI2⟩ (by show f - 1 < f; omega)
 refine Mi ?_ (pR ((((i : Int) + (j : Int)) / 2) + 1))
 have hf1 : f = (f - 1) + 1 := by omega
 rw [hf1] at hI
 have hI2 := hI.trans (bsGo_up (by omega) (decide_eq_true (by assumption)))
 exact on1 ⟨(i + j) / 2 + 1, j, f - 1⟩ ⟨by omega, by omega, by omega, hI2⟩ (by show f - 1 < f; omega)

theorem tackroomref_lockAt {B : Nat → Prop} (s : Sl CLock) (t : ByteArray) (w : World) (hs : s.rd B w) : Calls Tryz.prog 100 #[s.val, vs t] w fun e w' => e = .returned (vi (mIdx (fun x : CLock => decide (x.name = t)) s.xs)) ∧ Kp [] w w' := by
 have oks := Sl.rd.ok hs
 have ncs := Sl.ok.nc oks
 have hns : s.n = s.xs.length := rfl
 refine M0 ?_ Tryz.func100
 refine Ml (σ := Nat) (fun i => i ≤ s.n ∧ ∀ j, j < i → decide ((s.at j).name = t) = false) (fun i => s.n - i) (fun _ => []) [5, 0, 1] (fun i => [(5, vI (i : Int))]) (fun _ => []) ?_ 0 ⟨Nat.zero_le _, fun j hj => absurd hj (Nat.not_lt_zero _)⟩
 rintro i ⟨hi, hI⟩ _ on1
 refine Md ((i : Int) < (s.n : Int)) (fun h1 => ?_) fun h1 => ?_
 rotate_left
 · exact Me0 (-1) (by rw [mIdx_none (p := (fun x : CLock => decide (x.name = t))) fun j hj => hI j (by omega)])
 refine Mi ?_ (pc (pI 14 (i : Int) i (rdk hs)) (pF 16 i 0 1 (rdk hs)))
 refine Md ((s.at i).name = t) (fun h2 => ?_) fun h2 => ?_
 · exact Me0 (i : Int) (by rw [mIdx_here (p := (fun x : CLock => decide (x.name = t))) (i := i) (by omega) (decide_eq_true (by assumption)) hI])
 refine Mi ?_ (pR ((i : Int) + 1))
 exact on1 (i + 1) ⟨by omega, fun j hj => by rcases Nat.lt_succ_iff_lt_or_eq.1 hj with h | h; exact hI j h; subst h; exact decide_eq_false (by assumption)⟩ (by omega)

theorem lock_Who {B : Nat → Prop} (s : Sl CLock) (t : ByteArray) (w : World) (hs : s.rd B w) : Calls Tryz.prog 83 #[s.val, vs t] w fun e w' => e = .returned (.tuple #[vi (mWho (s.xs.map CLock.abs) t).1, vi (mWho (s.xs.map CLock.abs) t).2.1, vi (mWho (s.xs.map CLock.abs) t).2.2]) ∧ Kp [] w w' := by
 have oks := Sl.rd.ok hs
 have ncs := Sl.ok.nc oks
 have hns : s.n = s.xs.length := rfl
 have hat : ∀ q, (s.xs.map CLock.abs).getD q default = (s.at q).abs := fun q => abs_at q
 have hq1 : ∀ q, (s.at q).abs.name = (s.at q).name := fun _ => rfl
 have hq2 : ∀ q, (s.at q).abs.holder = (s.at q).holder := fun _ => rfl
 have hq3 : ∀ q, (s.at q).abs.fence = (s.at q).fence := fun _ => rfl
 have hml : (s.xs.map CLock.abs).length = s.n := by simp
 refine M0 ?_ Tryz.func83
 refine Mp ?_ Tryz.call64 (fun bs w hS => lock_Check s w (Sl.rd.kp hs hS.kp))
 refine Mdn (mLocks (s.xs.map CLock.abs) = 0) (fun h1 => ?_) fun h1 => ?_
 rotate_left
 · refine Mt [vi 0, vi 0, vi (mLocks (s.xs.map CLock.abs))] fun bs w hS => ?_
   refine ⟨?_, hS.kp⟩
   have hm : mWho (s.xs.map CLock.abs) t = (0, 0, mLocks (s.xs.map CLock.abs)) := by
     unfold mWho; rw [if_neg h1]
   rw [hm]
   rfl
 have hln := (mLocks_bd h1).1
 refine Mp ?_ Tryz.call145 (fun bs w hS => bs_lock_Who_1 s t w (Sl.rd.kp hs hS.kp) (by omega))
 refine Mbn (mBSf (fun x : CLock => cmpS x.name t) s.xs) (fun h2 => ?_) fun h2 => ?_
 rotate_left
 · refine Mt [vi 0, vi 0, vi 0] fun bs w hS => ?_
   refine ⟨?_, hS.kp⟩
   have hm : mWho (s.xs.map CLock.abs) t = (0, 0, 0) := by
     have hb := bsf_lock (L := s.xs) (by assumption) t
     have hb1 := hb.1
     rw [h2] at hb1
     have hb3 := of_decide_eq_false hb1.symm
     unfold mWho; rw [if_pos (by assumption)]
     apply if_neg
     rintro ⟨h1z, h2z⟩
     omega
   rw [hm]
   rfl
 have hlt := mBSf_lt h2
 refine Mi ?_ (pc (pI 26 ((mBS (fun x : CLock => cmpS x.name t) s.xs : Nat) : Int) (((mBS (fun x : CLock => cmpS x.name t) s.xs : Nat) : Int)).toNat (rdk hs)) (pF 28 (((mBS (fun x : CLock => cmpS x.name t) s.xs : Nat) : Int)).toNat 1 1 (rdk hs)))
 refine Md ((s.at (((mBS (fun x : CLock => cmpS x.name t) s.xs : Nat) : Int)).toNat).holder = 0) (fun h3 => ?_) fun h3 => ?_
 · refine Mt [vi 0, vi 0, vi 0] fun bs w hS => ?_
   refine ⟨?_, hS.kp⟩
   have hm : mWho (s.xs.map CLock.abs) t = (0, 0, 0) := by
     have hb := bsf_lock (L := s.xs) (by assumption) t
     have hb2 := hb.2 h2
     have hb1 := hb.1
     rw [h2] at hb1
     have hb3 := of_decide_eq_true hb1.symm
     unfold mWho; rw [if_pos (by assumption)]
     apply if_neg
     rintro ⟨h1z, h2z⟩
     rw [← hb2, Int.toNat_natCast, hat, hq2] at h2z
     exact h2z h3
   rw [hm]
   rfl
 refine Mda 13 [] [] [] Tryz_mixed ?_
 refine Mih ?_ (pc (pI 33 ((mBS (fun x : CLock => cmpS x.name t) s.xs : Nat) : Int) (((mBS (fun x : CLock => cmpS x.name t) s.xs : Nat) : Int)).toNat (rdk hs)) (pc (pF 35 (((mBS (fun x : CLock => cmpS x.name t) s.xs : Nat) : Int)).toNat 1 1 (rdk hs)) (pc (pI 38 ((mBS (fun x : CLock => cmpS x.name t) s.xs : Nat) : Int) (((mBS (fun x : CLock => cmpS x.name t) s.xs : Nat) : Int)).toNat (rdk hs)) (pF 40 (((mBS (fun x : CLock => cmpS x.name t) s.xs : Nat) : Int)).toNat 2 1 (rdk hs)))))
 refine Mt [vi (s.at (((mBS (fun x : CLock => cmpS x.name t) s.xs : Nat) : Int)).toNat).holder, vi (s.at (((mBS (fun x : CLock => cmpS x.name t) s.xs : Nat) : Int)).toNat).fence, vi 0] fun bs w hS => ?_
 refine ⟨?_, hS.kp⟩
 have hm : mWho (s.xs.map CLock.abs) t = ((s.at (((mBS (fun x : CLock => cmpS x.name t) s.xs : Nat) : Int)).toNat).holder, (s.at (((mBS (fun x : CLock => cmpS x.name t) s.xs : Nat) : Int)).toNat).fence, 0) := by
   have hb := bsf_lock (L := s.xs) (by assumption) t
   have hb2 := hb.2 h2
   have hb1 := hb.1
   rw [h2] at hb1
   have hb3 := of_decide_eq_true hb1.symm
   unfold mWho; rw [if_pos (by assumption)]
   rw [← hb2, Int.toNat_natCast, hat, hq2, hq3, if_pos ⟨by omega, by assumption⟩]
 rw [hm]
 rfl

theorem ref_HolderOf {B : Nat → Prop} (s : Sl CLock) (t : ByteArray) (w : World) (hs : s.rd B w) : Calls Tryz.prog 37 #[s.val, vs t] w fun e w' => e = .returned (.tuple #[vi (mWho (s.xs.map CLock.abs) t).1, vi (mWho (s.xs.map CLock.abs) t).2.1, vi (mWho (s.xs.map CLock.abs) t).2.2]) ∧ Kp [] w w' := by
 have oks := Sl.rd.ok hs
 have ncs := Sl.ok.nc oks
 have hns : s.n = s.xs.length := rfl
 have hat : ∀ q, (s.xs.map CLock.abs).getD q default = (s.at q).abs := fun q => abs_at q
 have hq1 : ∀ q, (s.at q).abs.name = (s.at q).name := fun _ => rfl
 have hq2 : ∀ q, (s.at q).abs.holder = (s.at q).holder := fun _ => rfl
 have hq3 : ∀ q, (s.at q).abs.fence = (s.at q).fence := fun _ => rfl
 have hml : (s.xs.map CLock.abs).length = s.n := by simp
 have hbd0 := mIdx_bd (fun x : CLock => decide (x.name = t)) s.xs
 have hie : mIdx (fun x : CLock => decide (x.name = t)) s.xs = mIdx (fun y : DLock => decide (y.name = t)) (s.xs.map CLock.abs) := mIdx_map CLock.abs (fun y : DLock => decide (y.name = t)) s.xs
 refine M0 ?_ Tryz.func37
 refine Mp ?_ Tryz.call93 (fun bs w hS => ref_LocksFault s w (Sl.rd.kp hs hS.kp))
 refine Mp ?_ Tryz.call100 (fun bs w hS => tackroomref_lockAt s t w (Sl.rd.kp hs hS.kp))
 refine Mdn (mLocks (s.xs.map CLock.abs) = 0) (fun h1 => ?_) fun h1 => ?_
 rotate_left
 · refine Mt [vi 0, vi 0, vi (mLocks (s.xs.map CLock.abs))] fun bs w hS => ?_
   refine ⟨?_, hS.kp⟩
   have hm : mWho (s.xs.map CLock.abs) t = (0, 0, mLocks (s.xs.map CLock.abs)) := by
     unfold mWho; rw [if_neg h1]
   rw [hm]
   rfl
 have hln := (mLocks_bd h1).1
 refine Md (mIdx (fun x : CLock => decide (x.name = t)) s.xs < 0) (fun h2 => ?_) fun h2 => ?_
 · refine Mt [vi 0, vi 0, vi (mLocks (s.xs.map CLock.abs))] fun bs w hS => ?_
   refine ⟨?_, hS.kp⟩
   have hm : mWho (s.xs.map CLock.abs) t = (0, 0, mLocks (s.xs.map CLock.abs)) := by
     have hbd := mIdx_bd (fun y : DLock => decide (y.name = t)) (s.xs.map CLock.abs)
     rw [h1]
     unfold mWho; rw [if_pos (by assumption)]
     apply if_neg
     rintro ⟨h1z, h2z⟩
     omega
   rw [hm]
   rfl
 refine Mi ?_ (pc (pI 23 (mIdx (fun x : CLock => decide (x.name = t)) s.xs) (mIdx (fun x : CLock => decide (x.name = t)) s.xs).toNat (rdk hs)) (pF 25 (mIdx (fun x : CLock => decide (x.name = t)) s.xs).toNat 1 1 (rdk hs)))
 refine Md ((s.at (mIdx (fun x : CLock => decide (x.name = t)) s.xs).toNat).holder = 0) (fun h3 => ?_) fun h3 => ?_
 · refine Mt [vi 0, vi 0, vi (mLocks (s.xs.map CLock.abs))] fun bs w hS => ?_
   refine ⟨?_, hS.kp⟩
   have hm : mWho (s.xs.map CLock.abs) t = (0, 0, mLocks (s.xs.map CLock.abs)) := by
     have hbd := mIdx_bd (fun y : DLock => decide (y.name = t)) (s.xs.map CLock.abs)
     rw [h1]
     unfold mWho; rw [if_pos (by assumption)]
     apply if_neg
     rintro ⟨h1z, h2z⟩
     rw [← hie, hat, hq2] at h2z
     exact h2z h3
   rw [hm]
   rfl
 refine Mda 13 [] [] [] Tryz_mixed ?_
 refine Mih ?_ (pc (pI 31 (mIdx (fun x : CLock => decide (x.name = t)) s.xs) (mIdx (fun x : CLock => decide (x.name = t)) s.xs).toNat (rdk hs)) (pc (pF 33 (mIdx (fun x : CLock => decide (x.name = t)) s.xs).toNat 1 1 (rdk hs)) (pc (pI 36 (mIdx (fun x : CLock => decide (x.name = t)) s.xs) (mIdx (fun x : CLock => decide (x.name = t)) s.xs).toNat (rdk hs)) (pF 38 (mIdx (fun x : CLock => decide (x.name = t)) s.xs).toNat 2 1 (rdk hs)))))
 refine Mt [vi (s.at (mIdx (fun x : CLock => decide (x.name = t)) s.xs).toNat).holder, vi (s.at (mIdx (fun x : CLock => decide (x.name = t)) s.xs).toNat).fence, vi 0] fun bs w hS => ?_
 refine ⟨?_, hS.kp⟩
 have hm : mWho (s.xs.map CLock.abs) t = ((s.at (mIdx (fun x : CLock => decide (x.name = t)) s.xs).toNat).holder, (s.at (mIdx (fun x : CLock => decide (x.name = t)) s.xs).toNat).fence, 0) := by
   have hbd := mIdx_bd (fun y : DLock => decide (y.name = t)) (s.xs.map CLock.abs)
   unfold mWho; rw [if_pos (by assumption)]
   rw [← hie, hat, hq2, hq3, if_pos ⟨by omega, by assumption⟩]
 rw [hm]
 rfl

theorem clone_Int {B : Nat → Prop} (s : Sl Int) (w : World) (hs : s.rd B w) (hb : s.n * 8 ≤ 140737488355328) : Calls Tryz.prog 135 #[s.val] w fun e w' => ∃ y : Sl Int, e = .returned y.val ∧ y.xs = s.xs ∧ Kp [] w w' ∧ Fresh w w' (rowA 3 y.A y.c y.xs) := by
 have oks := Sl.rd.ok hs
 have ncs := Sl.ok.nc oks
 have hns : s.n = s.xs.length := rfl
 refine M0 ?_ Tryz.func135
 refine Mi ?_ (pG [(4, .val (.bool s.A.isNone))] (oc ((eq_nil Tryz.underlying113) : ∀ w, (do eqGuard .eql 113 (.tmp 3) (.const vn) s.val vn; binOp .eql 113 s.val vn : Sem Value).run Tryz.prog w = .ok (.bool s.A.isNone) w) on))
 refine Mb s.A.isNone (fun h1 => ?_) fun h1 => ?_
 · refine Mt [vn] fun bs w hS => ?_
   have hnil : s.xs = [] := Sl.ok.empty oks (by cases h : s.A <;> simp_all)
   exact ⟨Sl.nil, rfl, hnil.symm, hS.kp, rowA_nil 3 w⟩
 refine Mlz ?_ (α := Int) (e := 3)
 intro A1
 refine Ma ?_ (α := Int) (L2 := s.xs) 8 (fun bs w hS => Sl.rd.src (s := s) (Sl.rd.kp hs hS.kp))
 intro A2 c2
 exact Mt [.slice A2 ([] ++ s.xs).length c2] fun bs w hS => ⟨⟨A2, c2, [] ++ s.xs⟩, rfl, by simp, hS.kp, hS.out1⟩

theorem clone_Kept {B : Nat → Prop} (s : Sl DKept) (w : World) (hs : s.rd B w) (hb : s.n * 40 ≤ 140737488355328) : Calls Tryz.prog 136 #[s.val] w fun e w' => ∃ y : Sl DKept, e = .returned y.val ∧ y.xs = s.xs ∧ Kp [] w w' ∧ Fresh w w' (rowA 141 y.A y.c y.xs) := by
 have oks := Sl.rd.ok hs
 have ncs := Sl.ok.nc oks
 have hns : s.n = s.xs.length := rfl
 refine M0 ?_ Tryz.func136
 refine Mi ?_ (pG [(4, .val (.bool s.A.isNone))] (oc ((eq_nil Tryz.underlying116) : ∀ w, (do eqGuard .eql 116 (.tmp 3) (.const vn) s.val vn; binOp .eql 116 s.val vn : Sem Value).run Tryz.prog w = .ok (.bool s.A.isNone) w) on))
 refine Mb s.A.isNone (fun h1 => ?_) fun h1 => ?_
 · refine Mt [vn] fun bs w hS => ?_
   have hnil : s.xs = [] := Sl.ok.empty oks (by cases h : s.A <;> simp_all)
   exact ⟨Sl.nil, rfl, hnil.symm, hS.kp, rowA_nil 141 w⟩
 refine Mlz ?_ (α := DKept) (e := 141)
 intro A1
 refine Ma ?_ (α := DKept) (L2 := s.xs) 40 (fun bs w hS => Sl.rd.src (s := s) (Sl.rd.kp hs hS.kp))
 intro A2 c2
 exact Mt [.slice A2 ([] ++ s.xs).length c2] fun bs w hS => ⟨⟨A2, c2, [] ++ s.xs⟩, rfl, by simp, hS.kp, hS.out1⟩

theorem lock_Copy {B : Nat → Prop} (s : Sl CLock) (w : World) (hs : s.rd B w) (hsm : Rds.small s) : Calls Tryz.prog 68 #[s.val] w fun e w' => ∃ y : Sl CLock, e = .returned y.val ∧ y.xs.map CLock.abs = s.xs.map CLock.abs ∧ Kp [] w w' ∧ Fresh w w' (locksR 115 3 y) := by
 have oks := Sl.rd.ok hs
 have ncs := Sl.ok.nc oks
 refine M0 ?_ Tryz.func68
 refine m_rowA (α := CLock) 115 ?_
 refine m_nores (ownL (lineR 3) []) rfl (fun w x hx => by cases hx) ?_
 refine Ml (σ := Nat × Option Addr × Nat × List CLock) (fun ⟨i, A, c, L⟩ => i ≤ s.n ∧ L.length = i ∧ L.map CLock.abs = (s.xs.take i).map CLock.abs) (fun ⟨i, A, c, L⟩ => s.n - i) (fun ⟨i, A, c, L⟩ => [ownL (lineR 3) L, rowA 115 A c (L : List CLock)]) [8, 7, 6, 3] (fun ⟨i, A, c, L⟩ => [(8, vI (i : Int)), (3, .v (.slice A L.length c))]) (fun _ => []) ?_ (⟨0, none, 0, []⟩) ⟨Nat.zero_le _, rfl, by simp⟩
 rintro ⟨i, A, c, L⟩ ⟨hi, hL, hI⟩ _ on1
 have hsn : s.n * 56 ≤ 140737488355328 := hsm.1
 refine Md ((i : Int) < (s.n : Int)) (fun h1 => ?_) fun h1 => ?_
 rotate_left
 · refine Mt [.slice A L.length c] fun bs w hS => ?_
   have hn : L.length = s.n := by omega
   exact ⟨⟨A, c, L⟩, rfl, by rw [hI, take_all (by omega)], hS.kp, hS.out⟩
 refine Mi ?_ (pA 10 11 (i : Int) i (rdk hs))
 refine Mf ?_ Tryz.call135 (fun bs w hS => clone_Int (s.at i).line w (Sl.rd.sub (s := s) (i := i) (Sl.rd.kp hs hS.kp) (by omega)).2 (hsm.2 i (by omega)).1)
 rintro y1 hF1
 refine M1 ?_
 refine m_f2 ?_
 refine Mal (α := CLock) 56 ([(⟨(s.at i).name, (s.at i).holder, (s.at i).fence, y1⟩ : CLock)]) ?_
 intro A3 c3
 refine Mi ?_ (pR ((i : Int) + 1))
 refine m_perm (R' := [rowA 3 y1.A y1.c (y1.xs : List Int), ownL (lineR 3) L, rowA 115 A3 c3 (L ++ [(⟨(s.at i).name, (s.at i).holder, (s.at i).fence, y1⟩ : CLock)] : List CLock)]) (by exact perm3 0 _ _ _) ?_
 refine m_join (ownL (lineR 3) (L ++ [(⟨(s.at i).name, (s.at i).holder, (s.at i).fence, y1⟩ : CLock)])) (ownL_app_fp (lineR 3) L (⟨(s.at i).name, (s.at i).holder, (s.at i).fence, y1⟩ : CLock)) (fun w => ownL_app_p (lineR 3) L (⟨(s.at i).name, (s.at i).holder, (s.at i).fence, y1⟩ : CLock) w) ?_
 exact on1 ⟨i + 1, A3, c3, L ++ [(⟨(s.at i).name, (s.at i).holder, (s.at i).fence, y1⟩ : CLock)]⟩ ⟨by omega, by rw [List.length_append]; simp [hL], map_take_snoc (by omega) hI (by first | simp [CLock.abs, hF1] | simp [CLock.abs])⟩ (by show s.n - (i + 1) < s.n - i; omega)
theorem lock_CopyS {B : Nat → Prop} (s : Sl CLock) (w : World) (hs : s.rd B w) (hsm : Rds.small s) : Calls Tryz.prog 68 #[s.val] w fun e w' => ∃ y : Sl CLock, e = .returned y.val ∧ y.xs.map CLock.abs = s.xs.map CLock.abs ∧ FreshS w w' y :=
  (lock_Copy s w hs hsm).mono fun e w' ⟨y, h1, h2, h3, h4⟩ => ⟨y, h1, h2, h3, h4.sub fun hp => locksR_rd hp (locks_names hs h2)⟩

theorem session_Copy {B : Nat → Prop} (s : Sl CSession) (w : World) (hs : s.rd B w) (hsm : Rds.small s) : Calls Tryz.prog 70 #[s.val] w fun e w' => ∃ y : Sl CSession, e = .returned y.val ∧ y.xs.map CSession.abs = s.xs.map CSession.abs ∧ Kp [] w w' ∧ Fresh w w' (sessR 118 141 y) := by
 have oks := Sl.rd.ok hs
 have ncs := Sl.ok.nc oks
 refine M0 ?_ Tryz.func70
 refine m_rowA (α := CSession) 118 ?_
 refine m_nores (ownL (keptR 141) []) rfl (fun w x hx => by cases hx) ?_
 refine Ml (σ := Nat × Option Addr × Nat × List CSession) (fun ⟨i, A, c, L⟩ => i ≤ s.n ∧ L.length = i ∧ L.map CSession.abs = (s.xs.take i).map CSession.abs) (fun ⟨i, A, c, L⟩ => s.n - i) (fun ⟨i, A, c, L⟩ => [ownL (keptR 141) L, rowA 118 A c (L : List CSession)]) [8, 7, 6, 3] (fun ⟨i, A, c, L⟩ => [(8, vI (i : Int)), (3, .v (.slice A L.length c))]) (fun _ => []) ?_ (⟨0, none, 0, []⟩) ⟨Nat.zero_le _, rfl, by simp⟩
 rintro ⟨i, A, c, L⟩ ⟨hi, hL, hI⟩ _ on1
 have hsn : s.n * 56 ≤ 140737488355328 := hsm.1
 refine Md ((i : Int) < (s.n : Int)) (fun h1 => ?_) fun h1 => ?_
 rotate_left
 · refine Mt [.slice A L.length c] fun bs w hS => ?_
   have hn : L.length = s.n := by omega
   exact ⟨⟨A, c, L⟩, rfl, by rw [hI, take_all (by omega)], hS.kp, hS.out⟩
 refine Mi ?_ (pA 10 11 (i : Int) i (rdk hs))
 refine Mf ?_ Tryz.call136 (fun bs w hS => clone_Kept (s.at i).replies w (Sl.rd.sub (s := s) (i := i) (Sl.rd.kp hs hS.kp) (by omega)) (hsm.2 i (by omega)).1)
 rintro y1 hF1
 refine M1 ?_
 refine m_f2 ?_
 refine Mal (α := CSession) 56 ([(⟨(s.at i).client, (s.at i).id, (s.at i).acked, (s.at i).last, y1⟩ : CSession)]) ?_
 intro A3 c3
 refine Mi ?_ (pR ((i : Int) + 1))
 refine m_perm (R' := [rowA 141 y1.A y1.c (y1.xs : List DKept), ownL (keptR 141) L, rowA 118 A3 c3 (L ++ [(⟨(s.at i).client, (s.at i).id, (s.at i).acked, (s.at i).last, y1⟩ : CSession)] : List CSession)]) (by exact perm3 0 _ _ _) ?_
 refine m_join (ownL (keptR 141) (L ++ [(⟨(s.at i).client, (s.at i).id, (s.at i).acked, (s.at i).last, y1⟩ : CSession)])) (ownL_app_fp (keptR 141) L (⟨(s.at i).client, (s.at i).id, (s.at i).acked, (s.at i).last, y1⟩ : CSession)) (fun w => ownL_app_p (keptR 141) L (⟨(s.at i).client, (s.at i).id, (s.at i).acked, (s.at i).last, y1⟩ : CSession) w) ?_
 exact on1 ⟨i + 1, A3, c3, L ++ [(⟨(s.at i).client, (s.at i).id, (s.at i).acked, (s.at i).last, y1⟩ : CSession)]⟩ ⟨by omega, by rw [List.length_append]; simp [hL], map_take_snoc (by omega) hI (by first | simp [CSession.abs, hF1] | simp [CSession.abs])⟩ (by show s.n - (i + 1) < s.n - i; omega)
theorem session_CopyS {B : Nat → Prop} (s : Sl CSession) (w : World) (hs : s.rd B w) (hsm : Rds.small s) : Calls Tryz.prog 70 #[s.val] w fun e w' => ∃ y : Sl CSession, e = .returned y.val ∧ y.xs.map CSession.abs = s.xs.map CSession.abs ∧ FreshS w w' y :=
  (session_Copy s w hs hsm).mono fun e w' ⟨y, h1, h2, h3, h4⟩ => ⟨y, h1, h2, h3, h4.sub fun hp => sessR_rd hp (sess_texts hs h2)⟩

theorem ref_SessionsCopy {B : Nat → Prop} (s : Sl CSession) (w : World) (hs : s.rd B w) (hsm : Rds.small s) : Calls Tryz.prog 19 #[s.val] w fun e w' => ∃ y : Sl CSession, e = .returned y.val ∧ y.xs.map CSession.abs = s.xs.map CSession.abs ∧ Kp [] w w' ∧ Fresh w w' (sessR 118 141 y) := by
 have oks := Sl.rd.ok hs
 have ncs := Sl.ok.nc oks
 refine M0 ?_ Tryz.func19
 refine m_rowA (α := CSession) 118 ?_
 refine m_nores (ownL (keptR 141) []) rfl (fun w x hx => by cases hx) ?_
 refine Ml (σ := Nat × Option Addr × Nat × List CSession) (fun ⟨i, A, c, L⟩ => i ≤ s.n ∧ L.length = i ∧ L.map CSession.abs = (s.xs.take i).map CSession.abs) (fun ⟨i, A, c, L⟩ => s.n - i) (fun ⟨i, A, c, L⟩ => [ownL (keptR 141) L, rowA 118 A c (L : List CSession)]) [4, 3, 0] (fun ⟨i, A, c, L⟩ => [(4, vI (i : Int)), (3, .v (.slice A L.length c))]) (fun _ => []) ?_ (⟨0, none, 0, []⟩) ⟨Nat.zero_le _, rfl, by simp⟩
 rintro ⟨i, A, c, L⟩ ⟨hi, hL, hI⟩ _ on1
 have hsn : s.n * 56 ≤ 140737488355328 := hsm.1
 refine Md ((i : Int) < (s.n : Int)) (fun h1 => ?_) fun h1 => ?_
 rotate_left
 · refine Mt [.slice A L.length c] fun bs w hS => ?_
   have hn : L.length = s.n := by omega
   exact ⟨⟨A, c, L⟩, rfl, by rw [hI, take_all (by omega)], hS.kp, hS.out⟩
 refine Mi ?_ (pA 14 15 (i : Int) i (rdk hs))
 refine m_rowA (α := DKept) 141 ?_
 refine Ma ?_ (α := DKept) (L2 := (s.at i).replies.xs) 40 (fun bs w hS => Sl.rd.src (s := (s.at i).replies) (Sl.rd.sub (s := s) (i := i) (Sl.rd.kp hs hS.kp) (by omega))) (h63 := (by first | omega | (simp only [List.length_nil, List.length_cons, List.length_append]; omega) | (have hq : _ * (40 : Nat) ≤ 140737488355328 := (hsm.2 i (by omega)).1; simp only [Sl.n, List.length_nil] at hq ⊢; omega))) (hb := (by first | omega | (simp only [List.length_nil, List.length_cons, List.length_append]; omega) | (have hq : _ * (40 : Nat) ≤ 140737488355328 := (hsm.2 i (by omega)).1; simp only [Sl.n, List.length_nil] at hq ⊢; omega)))
 intro A1 c1
 refine M1 ?_
 refine m_f2 ?_
 refine Mal (α := CSession) 56 ([(⟨(s.at i).client, (s.at i).id, (s.at i).acked, (s.at i).last, ⟨A1, c1, [] ++ (s.at i).replies.xs⟩⟩ : CSession)]) ?_
 intro A2 c2
 refine Mi ?_ (pR ((i : Int) + 1))
 refine m_perm (R' := [rowA 141 A1 c1 ([] ++ (s.at i).replies.xs : List DKept), ownL (keptR 141) L, rowA 118 A2 c2 (L ++ [(⟨(s.at i).client, (s.at i).id, (s.at i).acked, (s.at i).last, ⟨A1, c1, [] ++ (s.at i).replies.xs⟩⟩ : CSession)] : List CSession)]) (by exact perm3 0 _ _ _) ?_
 refine m_join (ownL (keptR 141) (L ++ [(⟨(s.at i).client, (s.at i).id, (s.at i).acked, (s.at i).last, ⟨A1, c1, [] ++ (s.at i).replies.xs⟩⟩ : CSession)])) (ownL_app_fp (keptR 141) L (⟨(s.at i).client, (s.at i).id, (s.at i).acked, (s.at i).last, ⟨A1, c1, [] ++ (s.at i).replies.xs⟩⟩ : CSession)) (fun w => ownL_app_p (keptR 141) L (⟨(s.at i).client, (s.at i).id, (s.at i).acked, (s.at i).last, ⟨A1, c1, [] ++ (s.at i).replies.xs⟩⟩ : CSession) w) ?_
 exact on1 ⟨i + 1, A2, c2, L ++ [(⟨(s.at i).client, (s.at i).id, (s.at i).acked, (s.at i).last, ⟨A1, c1, [] ++ (s.at i).replies.xs⟩⟩ : CSession)]⟩ ⟨by omega, by rw [List.length_append]; simp [hL], map_take_snoc (by omega) hI (by first | simp [CSession.abs, hF1] | simp [CSession.abs])⟩ (by show s.n - (i + 1) < s.n - i; omega)
theorem ref_SessionsCopyS {B : Nat → Prop} (s : Sl CSession) (w : World) (hs : s.rd B w) (hsm : Rds.small s) : Calls Tryz.prog 19 #[s.val] w fun e w' => ∃ y : Sl CSession, e = .returned y.val ∧ y.xs.map CSession.abs = s.xs.map CSession.abs ∧ FreshS w w' y :=
  (ref_SessionsCopy s w hs hsm).mono fun e w' ⟨y, h1, h2, h3, h4⟩ => ⟨y, h1, h2, h3, h4.sub fun hp => sessR_rd hp (sess_texts hs h2)⟩

theorem ref_LocksCopy {B : Nat → Prop} (s : Sl CLock) (w : World) (hs : s.rd B w) (hsm : Rds.small s) : Calls Tryz.prog 18 #[s.val] w fun e w' => ∃ y : Sl CLock, e = .returned y.val ∧ y.xs.map CLock.abs = s.xs.map CLock.abs ∧ Kp [] w w' ∧ Fresh w w' (locksR 115 3 y) := by
 have oks := Sl.rd.ok hs
 have ncs := Sl.ok.nc oks
 refine M0 ?_ Tryz.func18
 refine m_rowA (α := CLock) 115 ?_
 refine m_nores (ownL (lineR 3) []) rfl (fun w x hx => by cases hx) ?_
 refine Ml (σ := Nat × Option Addr × Nat × List CLock) (fun ⟨i, A, c, L⟩ => i ≤ s.n ∧ L.length = i ∧ L.map CLock.abs = (s.xs.take i).map CLock.abs) (fun ⟨i, A, c, L⟩ => s.n - i) (fun ⟨i, A, c, L⟩ => [ownL (lineR 3) L, rowA 115 A c (L : List CLock)]) [4, 3, 0] (fun ⟨i, A, c, L⟩ => [(4, vI (i : Int)), (3, .v (.slice A L.length c))]) (fun _ => []) ?_ (⟨0, none, 0, []⟩) ⟨Nat.zero_le _, rfl, by simp⟩
 rintro ⟨i, A, c, L⟩ ⟨hi, hL, hI⟩ _ on1
 have hsn : s.n * 56 ≤ 140737488355328 := hsm.1
 refine Md ((i : Int) < (s.n : Int)) (fun h1 => ?_) fun h1 => ?_
 rotate_left
 · refine Mt [.slice A L.length c] fun bs w hS => ?_
   have hn : L.length = s.n := by omega
   exact ⟨⟨A, c, L⟩, rfl, by rw [hI, take_all (by omega)], hS.kp, hS.out⟩
 refine Mdr 24 ?_ Tryz_mixed
 refine Mih ?_ (pc (pI 14 (i : Int) i (rdk hs)) (pc (pF 16 i 0 1 (rdk hs)) (pc (pI 19 (i : Int) i (rdk hs)) (pc (pF 21 i 1 1 (rdk hs)) (pc (pI 24 (i : Int) i (rdk hs)) (pc (pF 26 i 2 1 (rdk hs)) (pc (pI 29 (i : Int) i (rdk hs)) (pF 31 i 3 1 (rdk hs)))))))))
 refine m_rowA (α := Int) 3 ?_
 refine Ma ?_ (α := Int) (L2 := (s.at i).line.xs) 8 (fun bs w hS => Sl.rd.src (s := (s.at i).line) (Sl.rd.sub (s := s) (i := i) (Sl.rd.kp hs hS.kp) (by omega)).2) (h63 := (by first | omega | (simp only [List.length_nil, List.length_cons, List.length_append]; omega) | (have hq : _ * (8 : Nat) ≤ 140737488355328 := (hsm.2 i (by omega)).1; simp only [Sl.n, List.length_nil] at hq ⊢; omega))) (hb := (by first | omega | (simp only [List.length_nil, List.length_cons, List.length_append]; omega) | (have hq : _ * (8 : Nat) ≤ 140737488355328 := (hsm.2 i (by omega)).1; simp only [Sl.n, List.length_nil] at hq ⊢; omega)))
 intro A1 c1
 refine M1 ?_ (hR := (.cons _ (List.Sublist.refl _)))
 refine Mz ?_
 refine m_f2 ?_
 refine Mal (α := CLock) 56 ([(⟨(s.at i).name, (s.at i).holder, (s.at i).fence, ⟨A1, c1, [] ++ (s.at i).line.xs⟩⟩ : CLock)]) ?_
 intro A2 c2
 refine Mi ?_ (pR ((i : Int) + 1))
 refine m_perm (R' := [rowA 3 A1 c1 ([] ++ (s.at i).line.xs : List Int), ownL (lineR 3) L, rowA 115 A2 c2 (L ++ [(⟨(s.at i).name, (s.at i).holder, (s.at i).fence, ⟨A1, c1, [] ++ (s.at i).line.xs⟩⟩ : CLock)] : List CLock)]) (by exact perm3 0 _ _ _) ?_
 refine m_join (ownL (lineR 3) (L ++ [(⟨(s.at i).name, (s.at i).holder, (s.at i).fence, ⟨A1, c1, [] ++ (s.at i).line.xs⟩⟩ : CLock)])) (ownL_app_fp (lineR 3) L (⟨(s.at i).name, (s.at i).holder, (s.at i).fence, ⟨A1, c1, [] ++ (s.at i).line.xs⟩⟩ : CLock)) (fun w => ownL_app_p (lineR 3) L (⟨(s.at i).name, (s.at i).holder, (s.at i).fence, ⟨A1, c1, [] ++ (s.at i).line.xs⟩⟩ : CLock) w) ?_
 exact on1 ⟨i + 1, A2, c2, L ++ [(⟨(s.at i).name, (s.at i).holder, (s.at i).fence, ⟨A1, c1, [] ++ (s.at i).line.xs⟩⟩ : CLock)]⟩ ⟨by omega, by rw [List.length_append]; simp [hL], map_take_snoc (by omega) hI (by first | simp [CLock.abs, hF1] | simp [CLock.abs])⟩ (by show s.n - (i + 1) < s.n - i; omega)
theorem ref_LocksCopyS {B : Nat → Prop} (s : Sl CLock) (w : World) (hs : s.rd B w) (hsm : Rds.small s) : Calls Tryz.prog 18 #[s.val] w fun e w' => ∃ y : Sl CLock, e = .returned y.val ∧ y.xs.map CLock.abs = s.xs.map CLock.abs ∧ FreshS w w' y :=
  (ref_LocksCopy s w hs hsm).mono fun e w' ⟨y, h1, h2, h3, h4⟩ => ⟨y, h1, h2, h3, h4.sub fun hp => locksR_rd hp (locks_names hs h2)⟩

theorem same_ints {B B' : Nat → Prop} (a b : Sl Int) (w : World) (ha : a.rd B w) (hb : b.rd B' w) (he : a.xs = b.xs) : Calls Tryz.prog 109 #[a.val, b.val] w fun e w' => e = .returned (vb true) ∧ Kp [] w w' := by
 have oka := Sl.rd.ok ha
 have okb := Sl.rd.ok hb
 have hn := xs_n he
 have nca := Sl.ok.nc oka
 refine M0 ?_ Tryz.func109
 refine Mdn ((a.n : Int) = (b.n : Int)) (fun h1 => ?_) fun h1 => ?_
 rotate_left
 · exfalso; first | omega | exact h1 (xs_at he i)
 refine Ml (σ := Nat) (fun i => True) (fun i => a.n - i) (fun _ => []) [5, 0, 1] (fun i => [(5, vI (i : Int))]) (fun _ => []) ?_ 0 trivial
 rintro i _ _ on1
 have hat := xs_at he i
 refine Md ((i : Int) < (a.n : Int)) (fun h2 => ?_) fun h2 => ?_
 rotate_left
 · exact Mt [vb true] fun bs w hS => ⟨rfl, hS.kp⟩
 refine Mda 9 [] [] [] Tryz_mixed ?_
 refine Mih ?_ (pc (pA 19 20 (i : Int) i (rdk ha)) (pA 23 24 (i : Int) i (rdk hb)))
 refine Mdn ((a.at i) = (b.at i)) (fun h3 => ?_) fun h3 => ?_
 rotate_left
 · exfalso; first | omega | exact h3 (xs_at he i)
 refine Mi ?_ (pR ((i : Int) + 1))
 exact on1 (i + 1) trivial (by omega)

theorem same_locks {B B' : Nat → Prop} (a b : Sl CLock) (w : World) (ha : a.rd B w) (hb : b.rd B' w) (he : a.xs.map CLock.abs = b.xs.map CLock.abs) : Calls Tryz.prog 43 #[a.val, b.val] w fun e w' => e = .returned (vb true) ∧ Kp [] w w' := by
 have oka := Sl.rd.ok ha
 have okb := Sl.rd.ok hb
 have hn := map_n he
 have nca := Sl.ok.nc oka
 refine M0 ?_ Tryz.func43
 refine Mdn ((a.n : Int) = (b.n : Int)) (fun h1 => ?_) fun h1 => ?_
 rotate_left
 · exfalso; first | omega | exact h1 q1
 refine Ml (σ := Nat) (fun i => True) (fun i => a.n - i) (fun _ => []) [5, 0, 1] (fun i => [(5, vI (i : Int))]) (fun _ => []) ?_ 0 trivial
 rintro i _ _ on1
 have hat := map_at (f := CLock.abs) (g := CLock.abs) rfl he i
 have q1 : (a.at i).name = (b.at i).name := congrArg DLock.name hat
 have q2 : (a.at i).holder = (b.at i).holder := congrArg DLock.holder hat
 have q3 : (a.at i).fence = (b.at i).fence := congrArg DLock.fence hat
 have q4 : (a.at i).line.xs = (b.at i).line.xs := congrArg DLock.line hat
 refine Md ((i : Int) < (a.n : Int)) (fun h2 => ?_) fun h2 => ?_
 rotate_left
 · exact Mt [vb true] fun bs w hS => ⟨rfl, hS.kp⟩
 refine Mda 51 [] [] [] Tryz_mixed ?_
 refine Mih ?_ (pc (pI 19 (i : Int) i (rdk ha)) (pc (pF 21 i 0 1 (rdk ha)) (pc (pI 24 (i : Int) i (rdk hb)) (pF 26 i 0 1 (rdk hb)))))
 refine Mdn ((a.at i).name = (b.at i).name) (fun h3 => ?_) fun h3 => ?_
 rotate_left
 · exfalso; first | omega | exact h3 q1
 refine Mih ?_ (pc (pI 31 (i : Int) i (rdk ha)) (pc (pF 33 i 1 1 (rdk ha)) (pc (pI 36 (i : Int) i (rdk hb)) (pF 38 i 1 1 (rdk hb)))))
 refine Mdn ((a.at i).holder = (b.at i).holder) (fun h4 => ?_) fun h4 => ?_
 rotate_left
 · exfalso; first | omega | exact h4 q1
 refine Mih ?_ (pc (pI 44 (i : Int) i (rdk ha)) (pc (pF 46 i 2 1 (rdk ha)) (pc (pI 49 (i : Int) i (rdk hb)) (pF 51 i 2 1 (rdk hb)))))
 refine Mdn ((a.at i).fence = (b.at i).fence) (fun h5 => ?_) fun h5 => ?_
 rotate_left
 · exfalso; first | omega | exact h5 q1
 refine Mih ?_ (pc (pI 57 (i : Int) i (rdk ha)) (pc (pF 59 i 3 1 (rdk ha)) (pc (pI 62 (i : Int) i (rdk hb)) (pF 64 i 3 1 (rdk hb)))))
 refine Mp ?_ Tryz.call109 (fun bs w hS => same_ints _ _ w (Sl.rd.sub (s := a) (i := i) (Sl.rd.kp ha hS.kp) (by omega)).2 (Sl.rd.sub (s := b) (i := i) (Sl.rd.kp hb hS.kp) (by omega)).2 q4)
 refine Mq 67 false ?_ rfl
 refine Mi ?_ (pR ((i : Int) + 1))
 exact on1 (i + 1) trivial (by omega)

theorem same_sessions {B B' : Nat → Prop} (a b : Sl CSession) (w : World) (ha : a.rd B w) (hb : b.rd B' w) (he : a.xs.map CSession.abs = b.xs.map CSession.abs) : Calls Tryz.prog 45 #[a.val, b.val] w fun e w' => e = .returned (vb true) ∧ Kp [] w w' := by
 have oka := Sl.rd.ok ha
 have okb := Sl.rd.ok hb
 have hn := map_n he
 have nca := Sl.ok.nc oka
 refine M0 ?_ Tryz.func45
 refine Mdn ((a.n : Int) = (b.n : Int)) (fun h1 => ?_) fun h1 => ?_
 rotate_left
 · exfalso; first | omega | (rw [hbt] at h1; simp at h1)
 refine Ml (σ := Nat) (fun i => True) (fun i => a.n - i) (fun _ => []) [5, 0, 1] (fun i => [(5, vI (i : Int))]) (fun _ => []) ?_ 0 trivial
 rintro i _ _ on1
 have hat := map_at (f := CSession.abs) (g := CSession.abs) rfl he i
 have q0 : (a.at i).client = (b.at i).client := congrArg DSession.client hat
 have q1 : (a.at i).id = (b.at i).id := congrArg DSession.id hat
 have q2 : (a.at i).acked = (b.at i).acked := congrArg DSession.acked hat
 have q3 : (a.at i).last = (b.at i).last := congrArg DSession.last hat
 have q4 : (a.at i).replies.xs = (b.at i).replies.xs := congrArg DSession.replies hat
 have q5 := xs_n q4
 refine Md ((i : Int) < (a.n : Int)) (fun h2 => ?_) fun h2 => ?_
 rotate_left
 · exact Mt [vb true] fun bs w hS => ⟨rfl, hS.kp⟩
 refine Mi ?_ (pc (pA 22 23 (i : Int) i (rdk ha)) (pA 26 27 (i : Int) i (rdk hb)))
 refine Mdn ((a.at i).client = (b.at i).client) (fun h3 => ?_) fun h3 => ?_
 rotate_left
 · exfalso; first | omega | (rw [hbt] at h3; simp at h3)
 refine Mdn ((a.at i).id = (b.at i).id) (fun h4 => ?_) fun h4 => ?_
 rotate_left
 · exfalso; first | omega | (rw [hbt] at h4; simp at h4)
 refine Mdn ((a.at i).acked = (b.at i).acked) (fun h5 => ?_) fun h5 => ?_
 rotate_left
 · exfalso; first | omega | (rw [hbt] at h5; simp at h5)
 refine Mdn ((a.at i).last = (b.at i).last) (fun h6 => ?_) fun h6 => ?_
 rotate_left
 · exfalso; first | omega | (rw [hbt] at h6; simp at h6)
 refine Mdn ((((a.at i).replies.n : Nat) : Int) = (((b.at i).replies.n : Nat) : Int)) (fun h7 => ?_) fun h7 => ?_
 rotate_left
 · exfalso; first | omega | (rw [hbt] at h7; simp at h7)
 refine Ml (σ := Nat) (fun j => True) (fun j => (a.at i).replies.n - j) (fun _ => []) [8, 7, 6, 5, 0, 1] (fun j => [(8, vI (j : Int))]) (fun _ => []) ?_ 0 trivial
 rintro j _ _ on2
 have hbt := xs_at q4 j
 have ncr := Sl.ok.nc (Sl.ok.at oka (show i < a.n by omega))
 refine Md ((j : Int) < (((a.at i).replies.n : Nat) : Int)) (fun h8 => ?_) fun h8 => ?_
 rotate_left
 · refine Mi ?_ (pR ((i : Int) + 1))
   exact on1 (i + 1) trivial (by omega)
 refine Mda 11 [] [] [] Tryz_mixed ?_
 refine Mih ?_ (pc (pA 73 74 (j : Int) j (s := (a.at i).replies) (fun w hk hr => (Sl.rd.sub (s := a) (i := i) (Sl.rd.kp ha hk) (by omega)))) (pc (pA 78 79 (j : Int) j (s := (b.at i).replies) (fun w hk hr => (Sl.rd.sub (s := b) (i := i) (Sl.rd.kp hb hk) (by omega)))) (pG [(80, .val (vb (!((decide (((a.at i).replies.at j).seq = ((b.at i).replies.at j).seq)) && (((decide (((a.at i).replies.at j).reply.code = ((b.at i).replies.at j).reply.code)) && ((decide (((a.at i).replies.at j).reply.n = ((b.at i).replies.at j).reply.n)) && ((decide (((a.at i).replies.at j).reply.text = ((b.at i).replies.at j).reply.text)) && true))) && true)))))] (oc ((neq_agg (by kernel_rfl) (by kernel_rfl)) : ∀ w, (do eqGuard .neq 141 (.tmp 74) (.tmp 79) ((a.at i).replies.at j).val ((b.at i).replies.at j).val; binOp .neq 141 ((a.at i).replies.at j).val ((b.at i).replies.at j).val : Sem Value).run Tryz.prog w = .ok (vb (!((decide (((a.at i).replies.at j).seq = ((b.at i).replies.at j).seq)) && (((decide (((a.at i).replies.at j).reply.code = ((b.at i).replies.at j).reply.code)) && ((decide (((a.at i).replies.at j).reply.n = ((b.at i).replies.at j).reply.n)) && ((decide (((a.at i).replies.at j).reply.text = ((b.at i).replies.at j).reply.text)) && true))) && true)))) w) on))))
 refine Mbn ((decide (((a.at i).replies.at j).seq = ((b.at i).replies.at j).seq)) && (((decide (((a.at i).replies.at j).reply.code = ((b.at i).replies.at j).reply.code)) && ((decide (((a.at i).replies.at j).reply.n = ((b.at i).replies.at j).reply.n)) && ((decide (((a.at i).replies.at j).reply.text = ((b.at i).replies.at j).reply.text)) && true))) && true)) (fun h9 => ?_) fun h9 => ?_
 rotate_left
 · exfalso; first | omega | (rw [hbt] at h9; simp at h9)
 refine Mi ?_ (pR ((j : Int) + 1))
 exact on2 (j + 1) trivial (by omega)

theorem session_find_1 (x : CSession) (t : Int) (w : World) : Calls Tryz.prog 142 #[x.val, vi t] w fun e w' => e = .returned (vi (IntKind.i64.wrap (x.client - t))) ∧ Kp [] w w' := by
 refine M0 ?_ Tryz.func142
 refine Mi ?_ (pG [(8, .val (vi (IntKind.i64.wrap (x.client - t))))] (oc (sub_wrap : ∀ w, (do eqGuard .sub 3 (.tmp 6) (.tmp 7) (vi x.client) (vi t); binOp .sub 3 (vi x.client) (vi t) : Sem Value).run Tryz.prog w = .ok (vi (IntKind.i64.wrap (x.client - t))) w) on))
 exact Mt [vi (IntKind.i64.wrap (x.client - t))] fun bs w hS => ⟨rfl, hS.kp⟩

theorem bs_session_find_1 {B : Nat → Prop} (s : Sl CSession) (t : Int) (w : World) (hs : s.rd B w) (hn : s.n ≤ 1048576) : Calls Tryz.prog 141 #[s.val, vi t, .func (.func 142) #[] #[]] w fun e w' => e = .returned (.tuple #[vi (mBS (fun x : CSession => IntKind.i64.wrap (x.client - t)) s.xs : Nat), vb (mBSf (fun x : CSession => IntKind.i64.wrap (x.client - t)) s.xs)]) ∧ Kp [] w w' := by
 have oks := Sl.rd.ok hs
 have ncs := Sl.ok.nc oks
 have hns : s.n = s.xs.length := rfl
 refine Mj ?_ Tryz.func141 (WS.start w)
 refine Ml (σ := Nat × Nat × Nat) (fun ⟨i, j, f⟩ => i ≤ j ∧ j ≤ s.n ∧ j - i ≤ f ∧ mBS (fun x : CSession => IntKind.i64.wrap (x.client - t)) s.xs = bsGo (fun j => decide (IntKind.i64.wrap ((s.at j).client - t) < 0)) f i j) (fun ⟨i, j, f⟩ => f) (fun _ => []) [10, 9, 8, 0, 1, 2] (fun ⟨i, j, f⟩ => [(10, vI (j : Int)), (9, vI (i : Int))]) (fun _ => []) ?_ (⟨0, s.n, s.n⟩) ⟨Nat.zero_le _, Nat.le_refl _, Nat.le_refl _, rfl⟩
 rintro ⟨i, j, f⟩ ⟨h1, h2, h3, hI⟩ _ on1
 have hdiv : ((i : Int) + (j : Int)) / 2 = (((i + j) / 2 : Nat) : Int) := by omega
 refine Md ((i : Int) < (j : Int)) (fun h1 => ?_) fun h1 => ?_
 rotate_left
 · refine Md ((i : Int) < (s.n : Int)) (fun h3 => ?_) fun h3 => ?_
   rotate_left
   · refine Mt [vi (i : Int), vb false] fun bs w hS => ?_
     have hij : i = j := by omega
     subst hij
     have hr : mBS (fun x : CSession => IntKind.i64.wrap (x.client - t)) s.xs = i := by rw [hI]; exact bsGo_end _ _ _ _ (Nat.le_refl _)
     refine ⟨?_, hS.kp⟩
     have hr2 : mBSf (fun x : CSession => IntKind.i64.wrap (x.client - t)) s.xs = false := by
       unfold mBSf; rw [hr]
       rw [decide_eq_false (show ¬ i < s.xs.length by omega)]; rfl
     rw [hr, hr2]
     rfl
   refine Mi ?_ (pA 43 44 (i : Int) i (rdk hs))
   refine Mp ?_ Tryz.call142 (fun bs w hS => session_find_1 (s.at i) t w)
   refine Mt [vi (i : Int), vb (decide (IntKind.i64.wrap ((s.at i).client - t) = 0))] fun bs w hS => ?_
   have hij : i = j := by omega
   subst hij
   have hr : mBS (fun x : CSession => IntKind.i64.wrap (x.client - t)) s.xs = i := by rw [hI]; exact bsGo_end _ _ _ _ (Nat.le_refl _)
   refine ⟨?_, hS.kp⟩
   have hr2 : mBSf (fun x : CSession => IntKind.i64.wrap (x.client - t)) s.xs = (decide (IntKind.i64.wrap ((s.at i).client - t) = 0)) := by
     unfold mBSf; rw [hr]
     rw [decide_eq_true (show i < s.xs.length by omega)]; rfl
   rw [hr, hr2]
   rfl
 refine Mi ?_ (pc (pR ((i : Int) + (j : Int))) (pc (pG [(21, .val (.int .u64 ((i : Int) + (j : Int))))] (oc ((conv_i64_u64 Tryz.underlying3 Tryz.underlying203 (by omega) (by omega)) : ∀ w, (convert 3 203 (vi ((i : Int) + (j : Int))) : Sem Value).run Tryz.prog w = .ok (.int .u64 ((i : Int) + (j : Int))) w) on)) (pc (pG [(22, .val (.int .u64 (((i : Int) + (j : Int)) / 2)))] (oc (shr_u64 : ∀ w, (do eqGuard .shr 203 (.tmp 21) (.const (.int .u64 1)) (.int .u64 ((i : Int) + (j : Int))) (.int .u64 1); binOp .shr 203 (.int .u64 ((i : Int) + (j : Int))) (.int .u64 1) : Sem Value).run Tryz.prog w = .ok (.int .u64 (((i : Int) + (j : Int)) / 2)) w) on)) (pc (pG [(23, .val (vi (((i : Int) + (j : Int)) / 2)))] (oc ((conv_u64_i64 Tryz.underlying203 Tryz.underlying3 (by omega) (by omega)) : ∀ w, (convert 203 3 (.int .u64 (((i : Int) + (j : Int)) / 2)) : Sem Value).run Tryz.prog w = .ok (vi (((i : Int) + (j : Int)) / 2)) w) on)) (pA 27 28 (((i : Int) + (j : Int)) / 2) (((i : Int) + (j : Int)) / 2).toNat (rdk hs))))))
 refine Mp ?_ Tryz.call142 (fun bs w hS => session_find_1 (s.at (((i : Int) + (j : Int)) / 2).toNat) t w)
 refine Md (IntKind.i64.wrap ((s.at (((i : Int) + (j : Int)) / 2).toNat).client - t) < 0) (fun h2 => ?_) fun h2 => ?_
 rotate_left
 · have hf1 : f = (f - 1) + 1 := by omega
   rw [hf1] at hI
   have hI2 := hI.trans (bsGo_down (by omega) (decide_eq_false (by assumption)))
   exact on1 ⟨i, (i + j) / 2, f - 1⟩ ⟨by omega, by omega, by omega, hI2⟩ (by show f - 1 < f; omega)
 refine Mi ?_ (pR ((((i : Int) + (j : Int)) / 2) + 1))
 have hf1 : f = (f - 1) + 1 := by omega
 rw [hf1] at hI
 have hI2 := hI.trans (bsGo_up (by omega) (decide_eq_true (by assumption)))
 exact on1 ⟨(i + j) / 2 + 1, j, f - 1⟩ ⟨by omega, by omega, by omega, hI2⟩ (by show f - 1 < f; omega)

theorem session_find {B : Nat → Prop} (s : Sl CSession) (t : Int) (w : World) (hs : s.rd B w) (hn : s.n ≤ 1048576) : Calls Tryz.prog 76 #[s.val, vi t] w fun e w' => e = .returned (.tuple #[vi (mBS (fun x : CSession => IntKind.i64.wrap (x.client - t)) s.xs : Nat), vb (mBSf (fun x : CSession => IntKind.i64.wrap (x.client - t)) s.xs)]) ∧ Kp [] w w' := by
 have oks := Sl.rd.ok hs
 have ncs := Sl.ok.nc oks
 have hns : s.n = s.xs.length := rfl
 refine M0 ?_ Tryz.func76
 refine Mp ?_ Tryz.call141 (fun bs w hS => bs_session_find_1 s t w (Sl.rd.kp hs hS.kp) (by omega))
 exact Mt [vi ((mBS (fun x : CSession => IntKind.i64.wrap (x.client - t)) s.xs : Nat) : Int), vb (mBSf (fun x : CSession => IntKind.i64.wrap (x.client - t)) s.xs)] fun bs w hS => ⟨rfl, hS.kp⟩

theorem tackroomref_sessionAt {B : Nat → Prop} (s : Sl CSession) (t : Int) (w : World) (hs : s.rd B w) : Calls Tryz.prog 98 #[s.val, vi t] w fun e w' => e = .returned (vi (mIdx (fun x : CSession => decide (x.client = t)) s.xs)) ∧ Kp [] w w' := by
 have oks := Sl.rd.ok hs
 have ncs := Sl.ok.nc oks
 have hns : s.n = s.xs.length := rfl
 refine M0 ?_ Tryz.func98
 refine Ml (σ := Nat) (fun i => i ≤ s.n ∧ ∀ j, j < i → decide ((s.at j).client = t) = false) (fun i => s.n - i) (fun _ => []) [5, 0, 1] (fun i => [(5, vI (i : Int))]) (fun _ => []) ?_ 0 ⟨Nat.zero_le _, fun j hj => absurd hj (Nat.not_lt_zero _)⟩
 rintro i ⟨hi, hI⟩ _ on1
 refine Md ((i : Int) < (s.n : Int)) (fun h1 => ?_) fun h1 => ?_
 rotate_left
 · exact Me0 (-1) (by rw [mIdx_none (p := (fun x : CSession => decide (x.client = t))) fun j hj => hI j (by omega)])
 refine Mi ?_ (pc (pI 14 (i : Int) i (rdk hs)) (pF 16 i 0 1 (rdk hs)))
 refine Md ((s.at i).client = t) (fun h2 => ?_) fun h2 => ?_
 · exact Me0 (i : Int) (by rw [mIdx_here (p := (fun x : CSession => decide (x.client = t))) (i := i) (by omega) (decide_eq_true (by assumption)) hI])
 refine Mi ?_ (pR ((i : Int) + 1))
 exact on1 (i + 1) ⟨by omega, fun j hj => by rcases Nat.lt_succ_iff_lt_or_eq.1 hj with h | h; exact hI j h; subst h; exact decide_eq_false (by assumption)⟩ (by omega)

theorem delR_Session (A : Option Addr) (c : Nat) (L : List CSession) (i j : Nat) (ii jj : Int) (w : World) (hrow : (rowA 118 A c L).p w) (hlt : ∀ b, b ∈ (rowA 118 A c L).fp → b < w.heap.size) (ei : ii = (i : Int)) (ej : jj = (j : Int)) (hij : i ≤ j) (hj : j ≤ L.length) :
    Calls Tryz.prog 78 #[.slice A L.length c, vi ii, vi jj] w fun e w' => e = .returned (.slice A (L.take i ++ L.drop j).length c) ∧ Turned (rowA 118 A c L) w w' (rowA 118 A c (L.take i ++ L.drop j)) := by
 subst ei ej
 have hrok := rowA_rok hrow
 have nc := hrok.2
 refine Mj ?_ Tryz.func78 (WS.start1 w _ hrow (by cases A <;> simp [rowA, rowR]) hlt)
 refine Ms3 (e := 118) (A := A) (n := L.length) (il := (i : Int)) (ih := (j : Int)) (im := (L.length : Int)) (c := c) i j L.length ?_ rfl rfl rfl (by omega) (by omega) (by omega)
 refine Md ((i : Int) = (j : Int)) (fun h1 => ?_) fun h1 => ?_
 · refine Mt [.slice A L.length c] fun bs w hS => ?_
   have hij2 : i = j := by omega
   subst hij2
   rw [List.take_append_drop]
   exact ⟨rfl, hS.turned⟩
 refine Mdr 6 ?_ Tryz_mixed
 refine Mih ?_ (pc (pG [(22, .sl 0 i)] (oc (rfl : 0 = 0) (oc (rfl : (i : Int) = (i : Int)) (oc ((by omega) : i ≤ c) on)))) (pG [(25, .sl j L.length)] (oc (rfl : (j : Int) = (j : Int)) (oc (rfl : L.length = L.length) (oc ((by omega) : j ≤ L.length) on)))))
 refine Mz ?_
 refine Mad 56 i j ?_ hij hj
 refine Mi ?_ (pG [(31, .sl (i + (L.length - j)) L.length)] (oc (rfl : ((i + (L.length - j) : Nat) : Int) = (((i + (L.length - j)) : Nat) : Int)) (oc (rfl : (L.length : Int) = (L.length : Int)) (oc ((by omega) : (i + (L.length - j)) ≤ L.length) (oc ((by omega) : L.length ≤ c) on)))))
 refine Mcl (i + (L.length - j)) (L.length - (i + (L.length - j))) ?_ (by simp only [List.length_append, List.length_take, List.length_drop]; omega) (by omega)
 refine Mt [.slice A (i + (L.length - j)) c] fun bs w hS => ?_
 have hlen : (L.take i ++ L.drop j).length = i + (L.length - j) := by simp only [List.length_append, List.length_take, List.length_drop]; omega
 have hS2 := hS
 rw [← hlen, List.take_length] at hS2
 refine ⟨?_, hS2.turned⟩
 rw [hlen]
 rfl

theorem session_Leave {B : Nat → Prop} (s : Sl CSession) (n t : Int) (w : World) (hs : s.rd B w) (ht : inR t) : Calls Tryz.prog 26 #[s.val, vi n, vi t] w fun e w' => ∃ y : Sl CSession, e = .returned (.tuple #[y.val, ((mLeave (s.xs.map CSession.abs) n t).2.1).val, vi (mLeave (s.xs.map CSession.abs) n t).2.2]) ∧ y.xs.map CSession.abs = (mLeave (s.xs.map CSession.abs) n t).1 ∧ FreshS w w' y := by
 have oks := Sl.rd.ok hs
 have ncs := Sl.ok.nc oks
 have hns : s.n = s.xs.length := rfl
 have hml : (s.xs.map CSession.abs).length = s.n := by simp
 refine M0 ?_ Tryz.func26
 refine Mp ?_ Tryz.call63 (fun bs w hS => session_Check s n w (Sl.rd.kp hs hS.kp))
 refine Mdn (mSess (s.xs.map CSession.abs) n = 0) (fun h1 => ?_) fun h1 => ?_
 rotate_left
 · refine Mt [vn, vz 0, vi (mSess (s.xs.map CSession.abs) n)] fun bs w hS => ?_
   have hm : mLeave (s.xs.map CSession.abs) n t = ([], zRep, mSess (s.xs.map CSession.abs) n) := by grind [mLeave]
   refine ⟨Sl.nil, ?_, ?_, hS.outS (Sl.rd_nil _ _)⟩
   · rw [hm]; rfl
   · rw [hm]; rfl
 obtain ⟨hi0, hi1, hln, hall⟩ := mSess_bd h1
 refine Mf ?_ Tryz.call70 (fun bs w hS => session_Copy s w (Sl.rd.kp hs hS.kp) (small_sess (by assumption)))
 rintro y1 hF1
 refine m_split2 ?_
 have hnm1 := sess_texts (hs) hF1
 refine m_know (F := ∀ i, i < y1.n → Rds.ok (y1.at i)) (fun bs w hS i hi => Rds.okof (Sl.rd.sub (own_sess (A := y1.A) (c := y1.c) (L := y1.xs) (hS.res _ i0) (hS.res _ i1) hnm1) hi)) fun okown1 => ?_
 refine m_know (F := RowOk y1.A y1.c (y1.xs : List CSession)) (fun bs w hS => rowA_rok (hS.res _ i1)) fun hrow1 => ?_
 have nchrow1 := hrow1.2
 have hnn := map_n hF1
 have hnx : y1.n = y1.xs.length := rfl
 have hok1 : Sl.ok y1 := ⟨nchrow1.1, by unfold maxLen; exact nchrow1.2, fun i hi => ⟨hrow1.1 i hi, okown1 i hi⟩⟩
 refine Mp ?_ Tryz.call76 (fun bs w hS => session_find y1 t w (own_sess (A := y1.A) (c := y1.c) (L := y1.xs) (hS.res _ i0) (hS.res _ i1) hnm1) (by omega))
 refine Mbn (mBSf (fun x : CSession => IntKind.i64.wrap (x.client - t)) y1.xs) (fun h2 => ?_) fun h2 => ?_
 rotate_left
 · refine Mt [y1.val, vz 11, vi 0] fun bs w hS => ?_
   have hmi : mIdx (fun x : DSession => decide (x.client = t)) (y1.xs.map CSession.abs) = mIdx (fun x : DSession => decide (x.client = t)) (s.xs.map CSession.abs) := by rw [hF1]
   have hb := bsf_sess (L := y1.xs) (index := n) (t := t) (by rw [hF1]; assumption) ht
   have hb1 := hb.1
   rw [h2, hmi] at hb1
   have hb3 := of_decide_eq_false hb1.symm
   have hm : mLeave (s.xs.map CSession.abs) n t = (s.xs.map CSession.abs, ⟨11, 0, emp⟩, 0) := by grind [mLeave]
   refine ⟨y1, ?_, ?_, hS.outS (y := y1) (out_sess (L0 := y1.xs) i1 i0 hS.res (fun x hx => hx) hnm1)⟩
   · rw [hm]; rfl
   · rw [hm]; exact hF1
 have hlt := mBSf_lt h2
 refine Mi ?_ (pR (((mBS (fun x : CSession => IntKind.i64.wrap (x.client - t)) y1.xs : Nat) : Int) + 1))
 refine m_f1 ?_
 refine Mtu ?_ (σ := Unit) (v := fun _ => .slice y1.A (y1.xs.take (((mBS (fun x : CSession => IntKind.i64.wrap (x.client - t)) y1.xs : Nat) : Int)).toNat ++ y1.xs.drop ((((mBS (fun x : CSession => IntKind.i64.wrap (x.client - t)) y1.xs : Nat) : Int)).toNat + 1)).length y1.c) (F := fun _ => True) (r := fun _ => rowA 118 y1.A y1.c (y1.xs.take (((mBS (fun x : CSession => IntKind.i64.wrap (x.client - t)) y1.xs : Nat) : Int)).toNat ++ y1.xs.drop ((((mBS (fun x : CSession => IntKind.i64.wrap (x.client - t)) y1.xs : Nat) : Int)).toNat + 1) : List CSession)) (vs := fun bs => [y1.val, vi ((mBS (fun x : CSession => IntKind.i64.wrap (x.client - t)) y1.xs : Nat) : Int), vi (((mBS (fun x : CSession => IntKind.i64.wrap (x.client - t)) y1.xs : Nat) : Int) + 1)]) Tryz.call78 (fun bs w hS => (delR_Session y1.A y1.c y1.xs (((mBS (fun x : CSession => IntKind.i64.wrap (x.client - t)) y1.xs : Nat) : Int)).toNat ((((mBS (fun x : CSession => IntKind.i64.wrap (x.client - t)) y1.xs : Nat) : Int)).toNat + 1) _ _ w (hS.res _ i0) hS.head1.2.2 (by omega) (by omega) (by omega) (by omega)).mono (fun e w' ⟨h1, h2⟩ => ⟨(), h1, trivial, h2⟩))
 rintro _ _
 refine Mt [.slice y1.A (y1.xs.take (((mBS (fun x : CSession => IntKind.i64.wrap (x.client - t)) y1.xs : Nat) : Int)).toNat ++ y1.xs.drop ((((mBS (fun x : CSession => IntKind.i64.wrap (x.client - t)) y1.xs : Nat) : Int)).toNat + 1)).length y1.c, vz 0, vi 0] fun bs w hS => ?_
 have hmi : mIdx (fun x : DSession => decide (x.client = t)) (y1.xs.map CSession.abs) = mIdx (fun x : DSession => decide (x.client = t)) (s.xs.map CSession.abs) := by rw [hF1]
 have hb := bsf_sess (L := y1.xs) (index := n) (t := t) (by rw [hF1]; assumption) ht
 have hb1 := hb.1
 rw [h2, hmi] at hb1
 have hb3 := of_decide_eq_true hb1.symm
 have hb2 := hb.2 h2
 rw [hmi] at hb2
 have hm : mLeave (s.xs.map CSession.abs) n t = ((s.xs.map CSession.abs).take (mIdx (fun x : DSession => decide (x.client = t)) (s.xs.map CSession.abs)).toNat ++ (s.xs.map CSession.abs).drop ((mIdx (fun x : DSession => decide (x.client = t)) (s.xs.map CSession.abs)).toNat + 1), zRep, 0) := by grind [mLeave]
 refine ⟨⟨y1.A, y1.c, y1.xs.take (((mBS (fun x : CSession => IntKind.i64.wrap (x.client - t)) y1.xs : Nat) : Int)).toNat ++ y1.xs.drop ((((mBS (fun x : CSession => IntKind.i64.wrap (x.client - t)) y1.xs : Nat) : Int)).toNat + 1)⟩, ?_, ?_, hS.outS (y := (⟨y1.A, y1.c, y1.xs.take (((mBS (fun x : CSession => IntKind.i64.wrap (x.client - t)) y1.xs : Nat) : Int)).toNat ++ y1.xs.drop ((((mBS (fun x : CSession => IntKind.i64.wrap (x.client - t)) y1.xs : Nat) : Int)).toNat + 1)⟩ : Sl CSession)) (out_sess (L0 := y1.xs) i0 i1 hS.res (fun x hx => ?_) hnm1)⟩
 · rw [hm]; rfl
 · rw [hm, ← hb2, Int.toNat_natCast, ← hF1]; simp [List.map_append, List.map_take, List.map_drop]
 · simp only [List.nil_append, List.mem_append] at hx; rcases hx with hx | hx
   · exact List.mem_of_mem_take hx
   · exact List.mem_of_mem_drop hx

theorem ref_LeftOf {B : Nat → Prop} (s : Sl CSession) (n t : Int) (w : World) (hs : s.rd B w) (ht : inR t) : Calls Tryz.prog 35 #[s.val, vi n, vi t] w fun e w' => ∃ y : Sl CSession, e = .returned (.tuple #[y.val, ((mLeave (s.xs.map CSession.abs) n t).2.1).val, vi (mLeave (s.xs.map CSession.abs) n t).2.2]) ∧ y.xs.map CSession.abs = (mLeave (s.xs.map CSession.abs) n t).1 ∧ FreshS w w' y := by
 have oks := Sl.rd.ok hs
 have ncs := Sl.ok.nc oks
 have hns : s.n = s.xs.length := rfl
 have hml : (s.xs.map CSession.abs).length = s.n := by simp
 refine M0 ?_ Tryz.func35
 refine Mp ?_ Tryz.call92 (fun bs w hS => ref_SessionsFault s n w (Sl.rd.kp hs hS.kp))
 refine Mdn (mSess (s.xs.map CSession.abs) n = 0) (fun h1 => ?_) fun h1 => ?_
 rotate_left
 · refine Mt [vn, vz 0, vi (mSess (s.xs.map CSession.abs) n)] fun bs w hS => ?_
   have hm : mLeave (s.xs.map CSession.abs) n t = ([], zRep, mSess (s.xs.map CSession.abs) n) := by grind [mLeave]
   refine ⟨Sl.nil, ?_, ?_, hS.outS (Sl.rd_nil _ _)⟩
   · rw [hm]; rfl
   · rw [hm]; rfl
 obtain ⟨hi0, hi1, hln, hall⟩ := mSess_bd h1
 refine Mf ?_ Tryz.call19 (fun bs w hS => ref_SessionsCopy s w (Sl.rd.kp hs hS.kp) (small_sess (by assumption)))
 rintro y1 hF1
 refine m_split2 ?_
 have hnm1 := sess_texts (hs) hF1
 refine m_know (F := ∀ i, i < y1.n → Rds.ok (y1.at i)) (fun bs w hS i hi => Rds.okof (Sl.rd.sub (own_sess (A := y1.A) (c := y1.c) (L := y1.xs) (hS.res _ i0) (hS.res _ i1) hnm1) hi)) fun okown1 => ?_
 refine m_know (F := RowOk y1.A y1.c (y1.xs : List CSession)) (fun bs w hS => rowA_rok (hS.res _ i1)) fun hrow1 => ?_
 have nchrow1 := hrow1.2
 have hnn := map_n hF1
 have hnx : y1.n = y1.xs.length := rfl
 have hbdi := mIdx_bd (fun x : CSession => decide (x.client = t)) y1.xs
 have hok1 : Sl.ok y1 := ⟨nchrow1.1, by unfold maxLen; exact nchrow1.2, fun i hi => ⟨hrow1.1 i hi, okown1 i hi⟩⟩
 refine Mp ?_ Tryz.call98 (fun bs w hS => tackroomref_sessionAt y1 t w (own_sess (A := y1.A) (c := y1.c) (L := y1.xs) (hS.res _ i0) (hS.res _ i1) hnm1))
 refine Md (mIdx (fun x : CSession => decide (x.client = t)) y1.xs < 0) (fun h2 => ?_) fun h2 => ?_
 · refine Mt [y1.val, vz 11, vi 0] fun bs w hS => ?_
   have hmi : mIdx (fun x : DSession => decide (x.client = t)) (y1.xs.map CSession.abs) = mIdx (fun x : DSession => decide (x.client = t)) (s.xs.map CSession.abs) := by rw [hF1]
   have hie : mIdx (fun x : CSession => decide (x.client = t)) y1.xs = mIdx (fun x : DSession => decide (x.client = t)) (s.xs.map CSession.abs) := (mIdx_map CSession.abs (fun x : DSession => decide (x.client = t)) y1.xs).trans hmi
   have hm : mLeave (s.xs.map CSession.abs) n t = (s.xs.map CSession.abs, ⟨11, 0, emp⟩, 0) := by grind [mLeave]
   refine ⟨y1, ?_, ?_, hS.outS (y := y1) (out_sess (L0 := y1.xs) i1 i0 hS.res (fun x hx => hx) hnm1)⟩
   · rw [hm]; rfl
   · rw [hm]; exact hF1
 refine Mi ?_ (pG [(31, .sl 0 (mIdx (fun x : CSession => decide (x.client = t)) y1.xs).toNat)] (oc (rfl : 0 = 0) (oc ((by omega) : mIdx (fun x : CSession => decide (x.client = t)) y1.xs = (((mIdx (fun x : CSession => decide (x.client = t)) y1.xs).toNat : Nat) : Int)) (oc ((by omega) : (mIdx (fun x : CSession => decide (x.client = t)) y1.xs).toNat ≤ y1.c) on))))
 refine m_rowA (α := CSession) 118 ?_
 refine Ma ?_ (α := CSession) (L2 := (y1.xs).take (mIdx (fun x : CSession => decide (x.client = t)) y1.xs).toNat) 56 (fun bs w hS => SrcAt.takeL (rowA_src (hS.res _ i2)) (by omega)) (hn2 := (by rw [List.length_take]; exact Nat.min_eq_left (by omega)))
 intro A3 c3
 refine Mi ?_ (pc (pR ((mIdx (fun x : CSession => decide (x.client = t)) y1.xs) + 1)) (pG [(37, .sl ((mIdx (fun x : CSession => decide (x.client = t)) y1.xs) + 1).toNat y1.n)] (oc ((by omega) : (mIdx (fun x : CSession => decide (x.client = t)) y1.xs) + 1 = ((((mIdx (fun x : CSession => decide (x.client = t)) y1.xs) + 1).toNat : Nat) : Int)) (oc (rfl : y1.n = y1.n) (oc ((by omega) : ((mIdx (fun x : CSession => decide (x.client = t)) y1.xs) + 1).toNat ≤ y1.n) on)))))
 refine Ma ?_ (α := CSession) (L2 := y1.xs.drop ((mIdx (fun x : CSession => decide (x.client = t)) y1.xs) + 1).toNat) 56 (fun bs w hS => Sl.rd.srcDrop (s := y1) (own_sess (A := y1.A) (c := y1.c) (L := y1.xs) (hS.res _ i1) (hS.res _ i2) hnm1) (by omega)) (hn2 := (List.length_drop ..))
 intro A4 c4
 refine Mt [.slice A4 ([] ++ (y1.xs).take (mIdx (fun x : CSession => decide (x.client = t)) y1.xs).toNat ++ y1.xs.drop ((mIdx (fun x : CSession => decide (x.client = t)) y1.xs) + 1).toNat).length c4, vz 0, vi 0] fun bs w hS => ?_
 have hmi : mIdx (fun x : DSession => decide (x.client = t)) (y1.xs.map CSession.abs) = mIdx (fun x : DSession => decide (x.client = t)) (s.xs.map CSession.abs) := by rw [hF1]
 have hie : mIdx (fun x : CSession => decide (x.client = t)) y1.xs = mIdx (fun x : DSession => decide (x.client = t)) (s.xs.map CSession.abs) := (mIdx_map CSession.abs (fun x : DSession => decide (x.client = t)) y1.xs).trans hmi
 have hm : mLeave (s.xs.map CSession.abs) n t = ((s.xs.map CSession.abs).take (mIdx (fun x : DSession => decide (x.client = t)) (s.xs.map CSession.abs)).toNat ++ (s.xs.map CSession.abs).drop ((mIdx (fun x : DSession => decide (x.client = t)) (s.xs.map CSession.abs)).toNat + 1), zRep, 0) := by grind [mLeave]
 refine ⟨⟨A4, c4, [] ++ (y1.xs).take (mIdx (fun x : CSession => decide (x.client = t)) y1.xs).toNat ++ y1.xs.drop ((mIdx (fun x : CSession => decide (x.client = t)) y1.xs) + 1).toNat⟩, ?_, ?_, hS.outS (y := (⟨A4, c4, [] ++ (y1.xs).take (mIdx (fun x : CSession => decide (x.client = t)) y1.xs).toNat ++ y1.xs.drop ((mIdx (fun x : CSession => decide (x.client = t)) y1.xs) + 1).toNat⟩ : Sl CSession)) (out_sess (L0 := y1.xs) i0 i1 hS.res (fun x hx => ?_) hnm1)⟩
 · rw [hm]; rfl
 · have hto : (mIdx (fun x : CSession => decide (x.client = t)) y1.xs + 1).toNat = (mIdx (fun x : CSession => decide (x.client = t)) y1.xs).toNat + 1 := by omega
   rw [hm, ← hie, ← hF1]; simp [List.map_append, List.map_take, List.map_drop, hto]
 · simp only [List.nil_append, List.mem_append] at hx; rcases hx with hx | hx
   · exact List.mem_of_mem_take hx
   · exact List.mem_of_mem_drop hx

theorem ref_unlined {B : Nat → Prop} (s : Sl Int) (who : Int) (w : World) (hs : s.rd B w) (hb : s.n ≤ 1048576) : Calls Tryz.prog 105 #[s.val, vi who] w fun e w' => ∃ y : Sl Int, e = .returned y.val ∧ y.xs = unline s.xs who ∧ FreshS w w' y := by
 have oks := Sl.rd.ok hs
 have ncs := Sl.ok.nc oks
 have hns : s.n = s.xs.length := rfl
 refine M0 ?_ Tryz.func105
 refine m_rowA (α := Int) 3 ?_
 refine Ml (σ := Nat × Option Addr × Nat × List Int) (fun ⟨i, A, c, L⟩ => i ≤ s.n ∧ L = (s.xs.take i).filter (fun z => !decide (z = who))) (fun ⟨i, A, c, L⟩ => s.n - i) (fun ⟨i, A, c, L⟩ => [rowA 3 A c (L : List Int)]) [6, 5, 0, 1] (fun ⟨i, A, c, L⟩ => [(6, vI (i : Int)), (5, .v (.slice A L.length c))]) (fun _ => []) ?_ (⟨0, none, 0, []⟩) ⟨Nat.zero_le _, rfl⟩
 rintro ⟨i, A, c, L⟩ ⟨hi, hI⟩ _ on1
 have hLn : L.length ≤ i := by rw [hI]; exact Nat.le_trans (List.length_filter_le _ _) (by rw [List.length_take]; omega)
 refine Md ((i : Int) < (s.n : Int)) (fun h1 => ?_) fun h1 => ?_
 rotate_left
 · exact Mt [.slice A L.length c] fun bs w hS => ⟨⟨A, c, L⟩, rfl, by show L = _; rw [hI, take_all (by omega)]; rfl, hS.outS (y := (⟨A, c, L⟩ : Sl Int)) (allR_row i0 (hS.res _ i0) (fun _ _ => trivial))⟩
 refine Mi ?_ (pA 15 16 (i : Int) i (rdk hs))
 refine Mdn ((s.at i) = who) (fun h2 => ?_) fun h2 => ?_
 · refine Mi ?_ (pR ((i : Int) + 1))
   exact on1 ⟨i + 1, A, c, L⟩ ⟨by omega, by first | exact filtS_in (p := fun z => decide (z = who)) hI (by omega) (decide_eq_false (by assumption)) | exact filtS_out (p := fun z => decide (z = who)) hI (by omega) (decide_eq_true (by assumption))⟩ (by show s.n - (i + 1) < s.n - i; omega)
 refine Mi ?_ (pA 22 23 (i : Int) i (rdk hs))
 refine M1 ?_
 refine Mal (α := Int) 8 ([(s.at i)]) ?_
 intro A1 c1
 refine Mi ?_ (pR ((i : Int) + 1))
 exact on1 ⟨i + 1, A1, c1, L ++ [(s.at i)]⟩ ⟨by omega, by first | exact filtS_in (p := fun z => decide (z = who)) hI (by omega) (decide_eq_false (by assumption)) | exact filtS_out (p := fun z => decide (z = who)) hI (by omega) (decide_eq_true (by assumption))⟩ (by show s.n - (i + 1) < s.n - i; omega)

theorem ref_passed {B : Nat → Prop} (x : CLock) (w : World) (hx : Rds.sub B w x) (hf : 1 ≤ x.fence ∧ x.fence ≤ 1073741824) (hl : x.line.n ≤ 1048576) : Calls Tryz.prog 104 #[x.val] w fun e w' => ∃ y : CLock, e = .returned y.val ∧ y.abs = mPass x.abs ∧ FreshS w w' y := by
 have okx := Rds.okof hx
 have ncx := Sl.ok.nc okx.2
 have hnx : x.line.n = x.line.xs.length := rfl
 have hq1 : x.abs.line = x.line.xs := rfl
 have hq2 : x.abs.fence = x.fence := rfl
 refine M0 ?_ Tryz.func104
 refine Md ((x.line.n : Int) = 0) (fun h1 => ?_) fun h1 => ?_
 · refine Mt [.agg #[vs x.name, vi 0, vi x.fence, vn]] fun bs w hS => ?_
   have hp : mPass x.abs = ⟨x.name, 0, x.fence, []⟩ := by unfold mPass; rw [hq1, hq2, if_neg (by omega)]; rfl
   exact ⟨⟨x.name, 0, x.fence, Sl.nil⟩, rfl, hp.symm, hS.outS (y := (⟨x.name, 0, x.fence, Sl.nil⟩ : CLock)) ⟨okx.1, Sl.rd_nil _ _⟩⟩
 refine Md ((1073741824 : Int) ≤ x.fence) (fun h2 => ?_) fun h2 => ?_
 · refine Mt [.agg #[vs x.name, vi 0, vi x.fence, vn]] fun bs w hS => ?_
   have hp : mPass x.abs = ⟨x.name, 0, x.fence, []⟩ := by unfold mPass; rw [hq1, hq2, if_neg (by omega)]; rfl
   exact ⟨⟨x.name, 0, x.fence, Sl.nil⟩, rfl, hp.symm, hS.outS (y := (⟨x.name, 0, x.fence, Sl.nil⟩ : CLock)) ⟨okx.1, Sl.rd_nil _ _⟩⟩
 refine Mda 14 [] [] [] Tryz_mixed ?_
 refine Mih ?_ (pc (pA 21 22 0 0 (s := x.line) (fun w hk hr => (Rds.kp hx hk).2)) (pc (pR (x.fence + 1)) (pG [(28, .sl 1 x.line.n)] (oc (rfl : (1 : Int) = ((1 : Nat) : Int)) (oc (rfl : x.line.n = x.line.n) (oc ((by omega) : 1 ≤ x.line.n) on))))))
 refine m_rowA (α := Int) 3 ?_
 refine Ma ?_ (α := Int) (L2 := x.line.xs.drop 1) 8 (fun bs w hS => Sl.rd.srcDrop (s := x.line) (Rds.kp hx hS.kp).2 (by omega)) (hn2 := (List.length_drop ..))
 intro A1 c1
 refine m_weak (rowA 3 A1 c1 (x.line.xs.drop 1 : List Int)) (List.Sublist.refl _) (fun w h => h) ?_
 refine Mt [.agg #[vs x.name, vi (x.line.at 0), vi (x.fence + 1), .slice A1 (x.line.xs.drop 1).length c1]] fun bs w hS => ?_
 have hp : mPass x.abs = ⟨x.name, x.line.at 0, x.fence + 1, x.line.xs.drop 1⟩ := by unfold mPass; rw [hq1, hq2, if_pos (by omega)]; rfl
 exact ⟨⟨x.name, x.line.at 0, x.fence + 1, ⟨A1, c1, x.line.xs.drop 1⟩⟩, rfl, hp.symm, hS.outS (y := (⟨x.name, x.line.at 0, x.fence + 1, ⟨A1, c1, x.line.xs.drop 1⟩⟩ : CLock)) ⟨okx.1, allR_row i0 (hS.res _ i0) (fun _ _ => trivial)⟩⟩

theorem lock_pass {B : Nat → Prop} (A : Option Addr) (c : Nat) (L : List CLock) (k : Nat) (w : World) (hrow : (rowA 115 A c L).p w) (hlt : ∀ b, b ∈ (rowA 115 A c L).fp → b < w.heap.size) (hk : k < L.length) (hx : Rds.sub B w (L.getD k default)) (hB : ∀ b, B b → b ∉ (rowA 115 A c L).fp) (hf : 1 ≤ (L.getD k default).fence ∧ (L.getD k default).fence ≤ 1073741824) : Calls Tryz.prog 140 #[.pointer (some ((oad A).add (k * 4)))] w fun e w' => ∃ _ : Unit, e = .returned (.tuple #[]) ∧ True ∧ Turned (rowA 115 A c L) w w' (rowA 115 A c (L.set k (passC (L.getD k default)))) := by
 have hrok := rowA_rok hrow
 have nc := hrok.2
 have okx := Rds.okof hx
 have ncx := Sl.ok.nc okx.2
 have hnx : (L.getD k default).line.n = (L.getD k default).line.xs.length := rfl
 have hst : ∀ w', Kp (rowA 115 A c L).fp w w' → Rds.sub B w' (L.getD k default) := fun w' hk => Rds.stay (fun b hb hlt => hk.block b hlt (hB b hb)) hx
 refine Mj ?_ Tryz.func140 (WS.start1 w _ hrow (by cases A <;> simp [rowA, rowR]) hlt)
 refine Ms k 1 (⟨(L.getD k default).name, 0, (L.getD k default).fence, (L.getD k default).line⟩ : CLock) ?_ (by omega)
 intro L1 hL1 hlL1
 have hgL1 : L1.getD k default = (⟨(L.getD k default).name, 0, (L.getD k default).fence, (L.getD k default).line⟩ : CLock) := by rw [hL1]; exact getD_set (by omega)
 have hbL1 : L1 = List.set L k (⟨(L.getD k default).name, 0, (L.getD k default).fence, (L.getD k default).line⟩ : CLock) := by rw [hL1]
 refine Mi ?_ (pFk 8 k 3 1 hgL1 i0)
 refine Md ((0 : Int) < (((L.getD k default).line.n : Nat) : Int)) (fun h1 => ?_) fun h1 => ?_
 rotate_left
 · refine Ms k 3 (⟨(L.getD k default).name, 0, (L.getD k default).fence, Sl.nil⟩ : CLock) ?_ (by omega) (hg := hgL1)
   intro L6 hL6 hlL6
   have hgL6 : L6.getD k default = (⟨(L.getD k default).name, 0, (L.getD k default).fence, Sl.nil⟩ : CLock) := by rw [hL6]; exact getD_set (by omega)
   have hbL6 : L6 = List.set L k (⟨(L.getD k default).name, 0, (L.getD k default).fence, Sl.nil⟩ : CLock) := by rw [hL6, hbL1, List.set_set]
   refine Mt [] fun bs w hS => ?_
   have hp : passC (L.getD k default) = (⟨(L.getD k default).name, 0, (L.getD k default).fence, Sl.nil⟩ : CLock) := by grind [passC]
   have hL : L6 = L.set k (passC (L.getD k default)) := by rw [hp]; exact hbL6
   subst hL
   exact ⟨(), rfl, trivial, hS.turned⟩
 refine Mi ?_ (pFk 15 k 2 1 hgL1 i0)
 refine Md ((L.getD k default).fence < 1073741824) (fun h2 => ?_) fun h2 => ?_
 rotate_left
 · refine Ms k 3 (⟨(L.getD k default).name, 0, (L.getD k default).fence, Sl.nil⟩ : CLock) ?_ (by omega) (hg := hgL1)
   intro L5 hL5 hlL5
   have hgL5 : L5.getD k default = (⟨(L.getD k default).name, 0, (L.getD k default).fence, Sl.nil⟩ : CLock) := by rw [hL5]; exact getD_set (by omega)
   have hbL5 : L5 = List.set L k (⟨(L.getD k default).name, 0, (L.getD k default).fence, Sl.nil⟩ : CLock) := by rw [hL5, hbL1, List.set_set]
   refine Mt [] fun bs w hS => ?_
   have hp : passC (L.getD k default) = (⟨(L.getD k default).name, 0, (L.getD k default).fence, Sl.nil⟩ : CLock) := by grind [passC]
   have hL : L5 = L.set k (passC (L.getD k default)) := by rw [hp]; exact hbL5
   subst hL
   exact ⟨(), rfl, trivial, hS.turned⟩
 refine Mda 27 [21] [] [rowA 115 A c (L1 : List CLock)] Tryz_mixed ?_
 refine Mih ?_ (pc (pFk 24 k 3 1 hgL1 i0) (pc (pA 25 26 0 0 (s := (L.getD k default).line) (fun w hk hr => (hst _ hk).2)) (pc (pFk 30 k 2 1 hgL1 i0) (pc (pR ((L.getD k default).fence + 1)) (pc (pFk 35 k 3 1 hgL1 i0) (pG [(36, .sl 1 (L.getD k default).line.n)] (oc (rfl : (1 : Int) = ((1 : Nat) : Int)) (oc (rfl : (L.getD k default).line.n = (L.getD k default).line.n) (oc ((by omega) : 1 ≤ (L.getD k default).line.n) on)))))))))
 refine MsX [] k 1 (⟨(L.getD k default).name, ((L.getD k default).line.at 0), (L.getD k default).fence, (L.getD k default).line⟩ : CLock) ?_ (by omega) (hg := hgL1)
 intro L2 hL2 hlL2
 have hgL2 : L2.getD k default = (⟨(L.getD k default).name, ((L.getD k default).line.at 0), (L.getD k default).fence, (L.getD k default).line⟩ : CLock) := by rw [hL2]; exact getD_set (by omega)
 have hbL2 : L2 = List.set L k (⟨(L.getD k default).name, ((L.getD k default).line.at 0), (L.getD k default).fence, (L.getD k default).line⟩ : CLock) := by rw [hL2, hbL1, List.set_set]
 refine Ms k 2 (⟨(L.getD k default).name, ((L.getD k default).line.at 0), (L.getD k default).fence + 1, (L.getD k default).line⟩ : CLock) ?_ (by omega) (hg := hgL2)
 intro L3 hL3 hlL3
 have hgL3 : L3.getD k default = (⟨(L.getD k default).name, ((L.getD k default).line.at 0), (L.getD k default).fence + 1, (L.getD k default).line⟩ : CLock) := by rw [hL3]; exact getD_set (by omega)
 have hbL3 : L3 = List.set L k (⟨(L.getD k default).name, ((L.getD k default).line.at 0), (L.getD k default).fence + 1, (L.getD k default).line⟩ : CLock) := by rw [hL3, hbL2, List.set_set]
 refine Ms k 3 (⟨(L.getD k default).name, ((L.getD k default).line.at 0), (L.getD k default).fence + 1, ⟨offA (L.getD k default).line.A (L.getD k default).line.c 1 1, (L.getD k default).line.c - 1, (L.getD k default).line.xs.drop 1⟩⟩ : CLock) ?_ (by omega) (hg := hgL3) (hcell := (Eq.trans (by kernel_rfl) (congrArg (fun q => [Value.string (L.getD k default).name, vi ((L.getD k default).line.at 0), vi ((L.getD k default).fence + 1), .slice (offA (L.getD k default).line.A (L.getD k default).line.c 1 1) q ((L.getD k default).line.c - 1)]) (List.length_drop ..).symm)))
 intro L4 hL4 hlL4
 have hgL4 : L4.getD k default = (⟨(L.getD k default).name, ((L.getD k default).line.at 0), (L.getD k default).fence + 1, ⟨offA (L.getD k default).line.A (L.getD k default).line.c 1 1, (L.getD k default).line.c - 1, (L.getD k default).line.xs.drop 1⟩⟩ : CLock) := by rw [hL4]; exact getD_set (by omega)
 have hbL4 : L4 = List.set L k (⟨(L.getD k default).name, ((L.getD k default).line.at 0), (L.getD k default).fence + 1, ⟨offA (L.getD k default).line.A (L.getD k default).line.c 1 1, (L.getD k default).line.c - 1, (L.getD k default).line.xs.drop 1⟩⟩ : CLock) := by rw [hL4, hbL3, List.set_set]
 refine Mt [] fun bs w hS => ?_
 have hp : passC (L.getD k default) = (⟨(L.getD k default).name, ((L.getD k default).line.at 0), (L.getD k default).fence + 1, ⟨offA (L.getD k default).line.A (L.getD k default).line.c 1 1, (L.getD k default).line.c - 1, (L.getD k default).line.xs.drop 1⟩⟩ : CLock) := by grind [passC]
 have hL : L4 = L.set k (passC (L.getD k default)) := by rw [hp]; exact hbL4
 subst hL
 exact ⟨(), rfl, trivial, hS.turned⟩

theorem delR_Int (A : Option Addr) (c : Nat) (L : List Int) (i j : Nat) (ii jj : Int) (w : World) (hrow : (rowA 3 A c L).p w) (hlt : ∀ b, b ∈ (rowA 3 A c L).fp → b < w.heap.size) (ei : ii = (i : Int)) (ej : jj = (j : Int)) (hij : i ≤ j) (hj : j ≤ L.length) :
    Calls Tryz.prog 139 #[.slice A L.length c, vi ii, vi jj] w fun e w' => e = .returned (.slice A (L.take i ++ L.drop j).length c) ∧ Turned (rowA 3 A c L) w w' (rowA 3 A c (L.take i ++ L.drop j)) := by
 subst ei ej
 have hrok := rowA_rok hrow
 have nc := hrok.2
 refine Mj ?_ Tryz.func139 (WS.start1 w _ hrow (by cases A <;> simp [rowA, rowR]) hlt)
 refine Ms3 (e := 3) (A := A) (n := L.length) (il := (i : Int)) (ih := (j : Int)) (im := (L.length : Int)) (c := c) i j L.length ?_ rfl rfl rfl (by omega) (by omega) (by omega)
 refine Md ((i : Int) = (j : Int)) (fun h1 => ?_) fun h1 => ?_
 · refine Mt [.slice A L.length c] fun bs w hS => ?_
   have hij2 : i = j := by omega
   subst hij2
   rw [List.take_append_drop]
   exact ⟨rfl, hS.turned⟩
 refine Mdr 6 ?_ Tryz_mixed
 refine Mih ?_ (pc (pG [(22, .sl 0 i)] (oc (rfl : 0 = 0) (oc (rfl : (i : Int) = (i : Int)) (oc ((by omega) : i ≤ c) on)))) (pG [(25, .sl j L.length)] (oc (rfl : (j : Int) = (j : Int)) (oc (rfl : L.length = L.length) (oc ((by omega) : j ≤ L.length) on)))))
 refine Mz ?_
 refine Mad 8 i j ?_ hij hj
 refine Mi ?_ (pG [(31, .sl (i + (L.length - j)) L.length)] (oc (rfl : ((i + (L.length - j) : Nat) : Int) = (((i + (L.length - j)) : Nat) : Int)) (oc (rfl : (L.length : Int) = (L.length : Int)) (oc ((by omega) : (i + (L.length - j)) ≤ L.length) (oc ((by omega) : L.length ≤ c) on)))))
 refine Mcl (i + (L.length - j)) (L.length - (i + (L.length - j))) ?_ (by simp only [List.length_append, List.length_take, List.length_drop]; omega) (by omega)
 refine Mt [.slice A (i + (L.length - j)) c] fun bs w hS => ?_
 have hlen : (L.take i ++ L.drop j).length = i + (L.length - j) := by simp only [List.length_append, List.length_take, List.length_drop]; omega
 have hS2 := hS
 rw [← hlen, List.take_length] at hS2
 refine ⟨?_, hS2.turned⟩
 rw [hlen]
 rfl

theorem lock_Gone {B : Nat → Prop} (s : Sl CLock) (who : Int) (w : World) (hs : s.rd B w) : Calls Tryz.prog 75 #[s.val, vi who] w fun e w' => ∃ y : Sl CLock, e = .returned (.tuple #[y.val, vi (mGone (s.xs.map CLock.abs) who).2]) ∧ y.xs.map CLock.abs = (mGone (s.xs.map CLock.abs) who).1 ∧ FreshS w w' y := by
 have oks := Sl.rd.ok hs
 have ncs := Sl.ok.nc oks
 have hns : s.n = s.xs.length := rfl
 refine M0 ?_ Tryz.func75
 refine Mp ?_ Tryz.call64 (fun bs w hS => lock_Check s w (Sl.rd.kp hs hS.kp))
 refine Mdn (mLocks (s.xs.map CLock.abs) = 0) (fun h1 => ?_) fun h1 => ?_
 rotate_left
 · exact Me2 (gone_bad (who := who) h1) Sl.nil rfl fun bs w hS => hS.outS (Sl.rd_nil _ _)
 refine Mp ?_ Tryz.call130 (fun bs w hS => lock_client who w)
 refine Mbn (inB who 1 9) (fun h2 => ?_) fun h2 => ?_
 rotate_left
 · simp only [iT, iF] at h2
   exact Me2 (gone_who (who := who) h1 (by simp only [iT, iF] at *; omega)) Sl.nil rfl fun bs w hS => hS.outS (Sl.rd_nil _ _)
 simp only [iT, iF] at h2
 refine Mf ?_ Tryz.call68 (fun bs w hS => lock_Copy s w (Sl.rd.kp hs hS.kp) (small_locks (by assumption)))
 rintro y1 hF1
 refine m_split2 ?_
 obtain ⟨A1, c1, S1⟩ := y1
 have hF1 : S1.map CLock.abs = s.xs.map CLock.abs := hF1
 refine m_perm (R' := [ownL (lineR 3) S1, rowA 115 A1 c1 (S1 : List CLock)]) (List.Perm.refl _) ?_
 have hnm1 := locks_names (y := (⟨A1, c1, S1⟩ : Sl CLock)) (hs) hF1
 have hlen1 : S1.length = s.xs.length := by simpa using congrArg List.length hF1
 refine m_know (F := ∀ i, i < S1.length → Rds.ok (S1.getD i default)) (fun bs w hS i hi => Rds.okof (B := anyB) (w := w) (own_eltL (hS.res _ i0) hnm1 (mem_of_getD hi))) fun okown1 => ?_
 refine m_know (F := RowOk A1 c1 (S1 : List CLock)) (fun bs w hS => rowA_rok (hS.res _ i1)) fun hrow1 => ?_
 have nchrow1 := hrow1.2
 have hm1 : mLocks (S1.map CLock.abs) = 0 := by rw [hF1]; assumption
 have hln5 : S1.length ≤ 5 := by have h9 := (mLocks_bd hm1).1; simpa using h9
 refine m_nores (goneR [] (S1.take 0)) rfl (fun w x hx => by cases hx) ?_
 refine Ml (σ := Nat × List CLock × List Nat) (fun ⟨k, L, fp⟩ => GoneI who S1 k L) (fun ⟨k, L, fp⟩ => S1.length - k) (fun ⟨k, L, fp⟩ => [goneR fp (L.take k), ownL (lineR 3) (S1.drop k), rowA 115 A1 c1 (L : List CLock)]) [22, 21, 0, 1] (fun ⟨k, L, fp⟩ => [(22, vI (k : Int))]) (fun _ => []) ?_ (⟨0, S1, []⟩) (GoneI.start hnm1)
 rintro ⟨k, L, fp⟩ hI _ on1
 have hIl := hI.len
 have hIk := hI.le
 refine Md ((k : Int) < (S1.length : Int)) (fun h3 => ?_) fun h3 => ?_
 rotate_left
 · refine Mt [.slice A1 S1.length c1, vi 0] fun bs w hS => ?_
   clear on1
   have hm := gone_ok (who := who) h1 (by simp only [iT, iF] at *; omega)
   refine ⟨⟨A1, c1, L⟩, ?_, ?_, hS.outS (y := (⟨A1, c1, L⟩ : Sl CLock)) (gone_out hI (by omega) i2 i0 hS.res)⟩
   · rw [hm]; exact congrArg (fun q => Ending.returned (.tuple #[.slice A1 q c1, vi 0])) hI.len.symm
   · rw [hm, ← hF1]; exact hI.fin (by omega)
 have hD : (L.getD k default) = S1.getD k default := hI.rest k (Nat.le_refl _)
 have hkL : k < L.length := by omega
 have hk5 := lock_all hm1 (k := k) (by omega)
 rw [← hD] at hk5
 obtain ⟨hk51, hk52, hk53, hk54, hk55, hk56⟩ := hk5
 have hk7 : (L.getD k default).line.n = (L.getD k default).line.xs.length := rfl
 have okD := okown1 k (by omega)
 rw [← hD] at okD
 have ncD := Sl.ok.nc okD.2
 refine m_f1 ?_
 refine m_part2 (rowA 3 (L.getD k default).line.A (L.getD k default).line.c ((L.getD k default).line.xs : List Int)) (ownL (lineR 3) (S1.drop (k + 1))) (own_uncons_fp (lineR 3) (i := k) (by omega) hD) (own_uncons_p (lineR 3) (i := k) (by omega) hD) ?_
 refine Mi ?_ (pc (pIo 27 (k : Int) k S1.length i3) (pFo 31 k 3 1 i3))
 refine Mp ?_ Tryz.call138 (fun bs w hS => idx_ints (L.getD k default).line (L.getD k default).line.n who w (And.right ⟨hI.names _ (mem_of_getD hkL), Rr (B := anyB) (hS.res _ i0) (fun _ _ => trivial) (fun _ _ => trivial)⟩) (by omega))
 have hix : mIdx (fun z => decide (z = who)) ((L.getD k default).line.xs.take (L.getD k default).line.n) = mIdx (fun z => decide (z = who)) (L.getD k default).line.xs := by rw [take_all (Nat.le_refl _)]
 rw [hix]
 have hIb := mIdx_bd (fun z => decide (z = who)) (L.getD k default).line.xs
 generalize hIx : mIdx (fun z => decide (z = who)) (L.getD k default).line.xs = I at hIb ⊢
 refine Md ((0 : Int) ≤ I) (fun h4 => ?_) fun h4 => ?_
 rotate_left
 · refine Mi ?_ (pFo 50 k 1 1 i3)
   refine Md ((L.getD k default).holder = who) (fun h6 => ?_) fun h6 => ?_
   rotate_left
   · refine Mi ?_ (pR ((k : Int) + 1))
     have hul : (L.getD k default).line.xs = unline (L.getD k default).line.xs who := (line_none (by rw [hIx]; omega)).symm
     have hga : ((L.getD k default)).abs = goneF who (L.getD k default).abs := gone_keep (D := (L.getD k default)) (x := (L.getD k default)) rfl rfl rfl hul h6
     have hgn : ((L.getD k default)).name = (L.getD k default).name := rfl
     refine m_f2 ?_
     refine m_f1 ?_
     refine m_join (goneR (fp ++ (rowA 3 (L.getD k default).line.A (L.getD k default).line.c ((L.getD k default).line.xs : List Int)).fp) (List.take (k + 1) L)) List.perm_append_comm (fun w h1 h2 => goneR_step hkL (set_getD hkL).symm (Rr (A := (L.getD k default).line.A) (c := (L.getD k default).line.c) (L := (L.getD k default).line.xs) h1 (fun b hb => hb) (fun _ _ => trivial)) h2) ?_
     refine m_f2 (m_f2 (m_f2 ?_))
     exact on1 ⟨k + 1, L, fp ++ (rowA 3 (L.getD k default).line.A (L.getD k default).line.c ((L.getD k default).line.xs : List Int)).fp⟩ (GoneI.step hI (by omega) (set_getD hkL).symm hga hgn) (by show S1.length - (k + 1) < S1.length - k; omega)
   refine m_f3 ?_
   refine Mtu ?_ Tryz.call140 (fun bs w hS => lock_pass (B := (· ∈ (rowA 3 (L.getD k default).line.A (L.getD k default).line.c ((L.getD k default).line.xs : List Int)).fp)) A1 c1 L k w (hS.res _ i0) hS.head1.2.2 (by omega) ⟨(show (L.getD k default).name.size ≤ 9223372036854775807 from hI.names _ (mem_of_getD hkL)), Rr (hS.res _ i1) (fun b hb => hb) (fun _ _ => trivial)⟩ (fun b hb => hS.disj (r2 := rowA 3 (L.getD k default).line.A (L.getD k default).line.c ((L.getD k default).line.xs : List Int)) i0 b hb) ⟨hk54, hk55⟩)
   rintro _ _
   obtain ⟨L8, hL8⟩ : ∃ M : List CLock, M = L.set k (passC (L.getD k default)) := ⟨_, rfl⟩
   rw [← hL8]
   have hlL8 : L8.length = L.length := by rw [hL8, List.length_set]
   have hgL8 : L8.getD k default = passC (L.getD k default) := by rw [hL8]; exact getD_set (by omega)
   have hbL8 : L8 = List.set L k (passC (L.getD k default)) := by rw [hL8]
   refine Mi ?_ (pR ((k : Int) + 1))
   have hul : (L.getD k default).line.xs = unline (L.getD k default).line.xs who := (line_none (by rw [hIx]; omega)).symm
   have hga : ((passC (L.getD k default))).abs = goneF who (L.getD k default).abs := gone_pass (D := (L.getD k default)) (x := (L.getD k default)) (passC_abs _) rfl rfl rfl hul h6
   have hgn : ((passC (L.getD k default))).name = (L.getD k default).name := passC_name _
   refine m_f3 ?_
   refine m_f2 ?_
   refine m_join (goneR (fp ++ (rowA 3 (L.getD k default).line.A (L.getD k default).line.c ((L.getD k default).line.xs : List Int)).fp) (List.take (k + 1) L8)) List.perm_append_comm (fun w h1 h2 => goneR_step hkL hbL8 (passC_rd (x := (L.getD k default)) (Rr (A := (L.getD k default).line.A) (c := (L.getD k default).line.c) (L := (L.getD k default).line.xs) h1 (fun b hb => hb) (fun _ _ => trivial))) h2) ?_
   refine m_f1 (m_f2 (m_f2 ?_))
   exact on1 ⟨k + 1, L8, fp ++ (rowA 3 (L.getD k default).line.A (L.getD k default).line.c ((L.getD k default).line.xs : List Int)).fp⟩ (GoneI.step hI (by omega) hbL8 hga hgn) (by show S1.length - (k + 1) < S1.length - k; omega)
 refine Mi ?_ (pc (pFo 40 k 3 1 i3) (pR (I + 1)))
 refine Mtu ?_ (σ := Unit) (v := fun _ => .slice (L.getD k default).line.A ((L.getD k default).line.xs.take I.toNat ++ (L.getD k default).line.xs.drop (I.toNat + 1)).length (L.getD k default).line.c) (F := fun _ => True) (r := fun _ => rowA 3 (L.getD k default).line.A (L.getD k default).line.c ((L.getD k default).line.xs.take I.toNat ++ (L.getD k default).line.xs.drop (I.toNat + 1) : List Int)) (vs := fun bs => [.slice (L.getD k default).line.A (L.getD k default).line.n (L.getD k default).line.c, vi I, vi (I + 1)]) Tryz.call139 (fun bs w hS => (delR_Int (L.getD k default).line.A (L.getD k default).line.c (L.getD k default).line.xs I.toNat (I.toNat + 1) _ _ w (hS.res _ i0) hS.head1.2.2 (by omega) (by omega) (by first | omega | (simp only [Sl.n] at *; omega)) (by first | omega | (simp only [Sl.n] at *; omega))).mono (fun e w' ⟨h1, h2⟩ => ⟨(), h1, trivial, h2⟩))
 rintro _ _
 refine m_f3 ?_
 refine Ms k 3 (⟨(L.getD k default).name, (L.getD k default).holder, (L.getD k default).fence, ⟨(L.getD k default).line.A, (L.getD k default).line.c, (L.getD k default).line.xs.take I.toNat ++ (L.getD k default).line.xs.drop (I.toNat + 1)⟩⟩ : CLock) ?_ (by omega)
 intro L4 hL4 hlL4
 have hgL4 : L4.getD k default = (⟨(L.getD k default).name, (L.getD k default).holder, (L.getD k default).fence, ⟨(L.getD k default).line.A, (L.getD k default).line.c, (L.getD k default).line.xs.take I.toNat ++ (L.getD k default).line.xs.drop (I.toNat + 1)⟩⟩ : CLock) := by rw [hL4]; exact getD_set (by omega)
 have hbL4 : L4 = List.set L k (⟨(L.getD k default).name, (L.getD k default).holder, (L.getD k default).fence, ⟨(L.getD k default).line.A, (L.getD k default).line.c, (L.getD k default).line.xs.take I.toNat ++ (L.getD k default).line.xs.drop (I.toNat + 1)⟩⟩ : CLock) := by rw [hL4]
 refine Mi ?_ (pFk 50 k 1 1 hgL4 i0)
 refine Md ((L.getD k default).holder = who) (fun h5 => ?_) fun h5 => ?_
 rotate_left
 · refine Mi ?_ (pR ((k : Int) + 1))
   have hul : (L.getD k default).line.xs.take I.toNat ++ (L.getD k default).line.xs.drop (I.toNat + 1) = unline (L.getD k default).line.xs who := line_one' (d := (L.getD k default).abs) hk53 (i := I.toNat) (by show mIdx _ (L.getD k default).line.xs = _; rw [hIx]; omega) rfl
   have hga : ((⟨(L.getD k default).name, (L.getD k default).holder, (L.getD k default).fence, ⟨(L.getD k default).line.A, (L.getD k default).line.c, (L.getD k default).line.xs.take I.toNat ++ (L.getD k default).line.xs.drop (I.toNat + 1)⟩⟩ : CLock)).abs = goneF who (L.getD k default).abs := gone_keep (D := (L.getD k default)) (x := (⟨(L.getD k default).name, (L.getD k default).holder, (L.getD k default).fence, ⟨(L.getD k default).line.A, (L.getD k default).line.c, (L.getD k default).line.xs.take I.toNat ++ (L.getD k default).line.xs.drop (I.toNat + 1)⟩⟩ : CLock)) rfl rfl rfl hul h5
   have hgn : ((⟨(L.getD k default).name, (L.getD k default).holder, (L.getD k default).fence, ⟨(L.getD k default).line.A, (L.getD k default).line.c, (L.getD k default).line.xs.take I.toNat ++ (L.getD k default).line.xs.drop (I.toNat + 1)⟩⟩ : CLock)).name = (L.getD k default).name := rfl
   refine m_f3 ?_
   refine m_f2 ?_
   refine m_join (goneR (fp ++ (rowA 3 (L.getD k default).line.A (L.getD k default).line.c ((L.getD k default).line.xs.take I.toNat ++ (L.getD k default).line.xs.drop (I.toNat + 1) : List Int)).fp) (List.take (k + 1) L4)) List.perm_append_comm (fun w h1 h2 => goneR_step hkL hbL4 (Rr (A := (L.getD k default).line.A) (c := (L.getD k default).line.c) (L := (L.getD k default).line.xs.take I.toNat ++ (L.getD k default).line.xs.drop (I.toNat + 1)) h1 (fun b hb => hb) (fun _ _ => trivial)) h2) ?_
   refine m_f1 (m_f2 (m_f2 ?_))
   exact on1 ⟨k + 1, L4, fp ++ (rowA 3 (L.getD k default).line.A (L.getD k default).line.c ((L.getD k default).line.xs.take I.toNat ++ (L.getD k default).line.xs.drop (I.toNat + 1) : List Int)).fp⟩ (GoneI.step hI (by omega) hbL4 hga hgn) (by show S1.length - (k + 1) < S1.length - k; omega)
 refine Mtu ?_ Tryz.call140 (fun bs w hS => lock_pass (B := (· ∈ (rowA 3 (L.getD k default).line.A (L.getD k default).line.c ((L.getD k default).line.xs.take I.toNat ++ (L.getD k default).line.xs.drop (I.toNat + 1) : List Int)).fp)) A1 c1 L4 k w (hS.res _ i0) hS.head1.2.2 (by omega) (by rw [hgL4]; exact ⟨(show (L.getD k default).name.size ≤ 9223372036854775807 from hI.names _ (mem_of_getD hkL)), Rr (hS.res _ i1) (fun b hb => hb) (fun _ _ => trivial)⟩) (fun b hb => hS.disj (r2 := rowA 3 (L.getD k default).line.A (L.getD k default).line.c ((L.getD k default).line.xs.take I.toNat ++ (L.getD k default).line.xs.drop (I.toNat + 1) : List Int)) i0 b hb) (by rw [hgL4]; exact ⟨hk54, hk55⟩))
 rintro _ _
 obtain ⟨L6, hL6⟩ : ∃ M : List CLock, M = L4.set k (passC (L4.getD k default)) := ⟨_, rfl⟩
 rw [← hL6]
 have hlL6 : L6.length = L4.length := by rw [hL6, List.length_set]
 have hgL6 : L6.getD k default = passC (⟨(L.getD k default).name, (L.getD k default).holder, (L.getD k default).fence, ⟨(L.getD k default).line.A, (L.getD k default).line.c, (L.getD k default).line.xs.take I.toNat ++ (L.getD k default).line.xs.drop (I.toNat + 1)⟩⟩ : CLock) := by rw [hL6, hgL4]; exact getD_set (by omega)
 have hbL6 : L6 = List.set L k (passC (⟨(L.getD k default).name, (L.getD k default).holder, (L.getD k default).fence, ⟨(L.getD k default).line.A, (L.getD k default).line.c, (L.getD k default).line.xs.take I.toNat ++ (L.getD k default).line.xs.drop (I.toNat + 1)⟩⟩ : CLock)) := by rw [hL6, hgL4, hbL4, List.set_set]
 refine Mi ?_ (pR ((k : Int) + 1))
 have hul : (L.getD k default).line.xs.take I.toNat ++ (L.getD k default).line.xs.drop (I.toNat + 1) = unline (L.getD k default).line.xs who := line_one' (d := (L.getD k default).abs) hk53 (i := I.toNat) (by show mIdx _ (L.getD k default).line.xs = _; rw [hIx]; omega) rfl
 have hga : ((passC (⟨(L.getD k default).name, (L.getD k default).holder, (L.getD k default).fence, ⟨(L.getD k default).line.A, (L.getD k default).line.c, (L.getD k default).line.xs.take I.toNat ++ (L.getD k default).line.xs.drop (I.toNat + 1)⟩⟩ : CLock))).abs = goneF who (L.getD k default).abs := gone_pass (D := (L.getD k default)) (x := (⟨(L.getD k default).name, (L.getD k default).holder, (L.getD k default).fence, ⟨(L.getD k default).line.A, (L.getD k default).line.c, (L.getD k default).line.xs.take I.toNat ++ (L.getD k default).line.xs.drop (I.toNat + 1)⟩⟩ : CLock)) (passC_abs _) rfl rfl rfl hul h5
 have hgn : ((passC (⟨(L.getD k default).name, (L.getD k default).holder, (L.getD k default).fence, ⟨(L.getD k default).line.A, (L.getD k default).line.c, (L.getD k default).line.xs.take I.toNat ++ (L.getD k default).line.xs.drop (I.toNat + 1)⟩⟩ : CLock))).name = (L.getD k default).name := passC_name _
 refine m_f3 ?_
 refine m_f2 ?_
 refine m_join (goneR (fp ++ (rowA 3 (L.getD k default).line.A (L.getD k default).line.c ((L.getD k default).line.xs.take I.toNat ++ (L.getD k default).line.xs.drop (I.toNat + 1) : List Int)).fp) (List.take (k + 1) L6)) List.perm_append_comm (fun w h1 h2 => goneR_step hkL hbL6 (passC_rd (x := (⟨(L.getD k default).name, (L.getD k default).holder, (L.getD k default).fence, ⟨(L.getD k default).line.A, (L.getD k default).line.c, (L.getD k default).line.xs.take I.toNat ++ (L.getD k default).line.xs.drop (I.toNat + 1)⟩⟩ : CLock)) (Rr (A := (L.getD k default).line.A) (c := (L.getD k default).line.c) (L := (L.getD k default).line.xs.take I.toNat ++ (L.getD k default).line.xs.drop (I.toNat + 1)) h1 (fun b hb => hb) (fun _ _ => trivial))) h2) ?_
 refine m_f1 (m_f2 (m_f2 ?_))
 exact on1 ⟨k + 1, L6, fp ++ (rowA 3 (L.getD k default).line.A (L.getD k default).line.c ((L.getD k default).line.xs.take I.toNat ++ (L.getD k default).line.xs.drop (I.toNat + 1) : List Int)).fp⟩ (GoneI.step hI (by omega) hbL6 hga hgn) (by show S1.length - (k + 1) < S1.length - k; omega)

theorem ref_GoneOf {B : Nat → Prop} (s : Sl CLock) (who : Int) (w : World) (hs : s.rd B w) : Calls Tryz.prog 99 #[s.val, vi who] w fun e w' => ∃ y : Sl CLock, e = .returned (.tuple #[y.val, vi (mGone (s.xs.map CLock.abs) who).2]) ∧ y.xs.map CLock.abs = (mGone (s.xs.map CLock.abs) who).1 ∧ FreshS w w' y := by
 have oks := Sl.rd.ok hs
 have ncs := Sl.ok.nc oks
 have hns : s.n = s.xs.length := rfl
 refine M0 ?_ Tryz.func99
 refine Mp ?_ Tryz.call93 (fun bs w hS => ref_LocksFault s w (Sl.rd.kp hs hS.kp))
 refine Md (mLocks (s.xs.map CLock.abs) = 0) (fun h1 => ?_) fun h1 => ?_
 rotate_left
 · refine My false true ?_ (df h1)
   exact Me2 (gone_bad (who := who) h1) Sl.nil rfl fun bs w hS => hS.outS (Sl.rd_nil _ _)
 refine Mp ?_ Tryz.call51 (fun bs w hS => ref_In who 1 9 w)
 refine Mbn (inB who 1 9) (fun h2 => ?_) fun h2 => ?_
 rotate_left
 · simp only [iT, iF] at h2
   refine Mq 19 true ?_ rfl
   exact Me2 (gone_who (who := who) h1 (by simp only [iT, iF] at *; omega)) Sl.nil rfl fun bs w hS => hS.outS (Sl.rd_nil _ _)
 simp only [iT, iF] at h2
 refine My true true ?_ (dt h1)
 refine Mf ?_ Tryz.call18 (fun bs w hS => ref_LocksCopy s w (Sl.rd.kp hs hS.kp) (small_locks (by assumption)))
 rintro y1 hF1
 refine m_split2 ?_
 obtain ⟨A1, c1, S1⟩ := y1
 have hF1 : S1.map CLock.abs = s.xs.map CLock.abs := hF1
 refine m_perm (R' := [ownL (lineR 3) S1, rowA 115 A1 c1 (S1 : List CLock)]) (List.Perm.refl _) ?_
 have hnm1 := locks_names (y := (⟨A1, c1, S1⟩ : Sl CLock)) (hs) hF1
 have hlen1 : S1.length = s.xs.length := by simpa using congrArg List.length hF1
 refine m_know (F := ∀ i, i < S1.length → Rds.ok (S1.getD i default)) (fun bs w hS i hi => Rds.okof (B := anyB) (w := w) (own_eltL (hS.res _ i0) hnm1 (mem_of_getD hi))) fun okown1 => ?_
 refine m_know (F := RowOk A1 c1 (S1 : List CLock)) (fun bs w hS => rowA_rok (hS.res _ i1)) fun hrow1 => ?_
 have nchrow1 := hrow1.2
 have hm1 : mLocks (S1.map CLock.abs) = 0 := by rw [hF1]; assumption
 have hln5 : S1.length ≤ 5 := by have h9 := (mLocks_bd hm1).1; simpa using h9
 refine m_nores (goneR [] (S1.take 0)) rfl (fun w x hx => by cases hx) ?_
 refine Ml (σ := Nat × List CLock × List Nat) (fun ⟨k, L, fp⟩ => GoneI who S1 k L) (fun ⟨k, L, fp⟩ => S1.length - k) (fun ⟨k, L, fp⟩ => [goneR fp (L.take k), ownL (lineR 3) S1, rowA 115 A1 c1 (L : List CLock)]) [8, 7, 1] (fun ⟨k, L, fp⟩ => [(8, vI (k : Int))]) (fun _ => []) ?_ (⟨0, S1, []⟩) (GoneI.start hnm1)
 rintro ⟨k, L, fp⟩ hI _ on1
 have hIl := hI.len
 have hIk := hI.le
 refine Md ((k : Int) < (S1.length : Int)) (fun h4 => ?_) fun h4 => ?_
 rotate_left
 · refine Mt [.slice A1 S1.length c1, vi 0] fun bs w hS => ?_
   clear on1
   have hm := gone_ok (who := who) h1 (by simp only [iT, iF] at *; omega)
   refine ⟨⟨A1, c1, L⟩, ?_, ?_, hS.outS (y := (⟨A1, c1, L⟩ : Sl CLock)) (gone_out hI (by omega) i2 i0 hS.res)⟩
   · rw [hm]; exact congrArg (fun q => Ending.returned (.tuple #[.slice A1 q c1, vi 0])) hI.len.symm
   · rw [hm, ← hF1]; exact hI.fin (by omega)
 have hD : (L.getD k default) = S1.getD k default := hI.rest k (Nat.le_refl _)
 have hkL : k < L.length := by omega
 have hk5 := lock_all hm1 (k := k) (by omega)
 rw [← hD] at hk5
 obtain ⟨hk51, hk52, hk53, hk54, hk55, hk56⟩ := hk5
 have hk7 : (L.getD k default).line.n = (L.getD k default).line.xs.length := rfl
 have okD := okown1 k (by omega)
 rw [← hD] at okD
 have ncD := Sl.ok.nc okD.2
 refine Mi ?_ (pc (pIo 33 (k : Int) k S1.length i2) (pFo 35 k 3 1 i2))
 refine Mu ?_ Tryz.call105 (fun bs w hS => ref_unlined (L.getD k default).line who w (And.right (by rw [hD]; exact own_eltL (hS.res _ i1) hnm1 (mem_of_getD (i := k) (by omega)))) (by omega))
 rintro fp3 y3 hF3 hok3
 refine Mi ?_ (pIo 38 (k : Int) k S1.length i3)
 refine m_f3 ?_
 refine Ms k 3 (⟨(L.getD k default).name, (L.getD k default).holder, (L.getD k default).fence, y3⟩ : CLock) ?_ (by omega)
 intro L4 hL4 hlL4
 have hgL4 : L4.getD k default = (⟨(L.getD k default).name, (L.getD k default).holder, (L.getD k default).fence, y3⟩ : CLock) := by rw [hL4]; exact getD_set (by omega)
 have hbL4 : L4 = List.set L k (⟨(L.getD k default).name, (L.getD k default).holder, (L.getD k default).fence, y3⟩ : CLock) := by rw [hL4]
 refine Mi ?_ (pc (pIo 42 (k : Int) k S1.length i0) (pFk 44 k 1 1 hgL4 i0))
 refine Md ((L.getD k default).holder = who) (fun h5 => ?_) fun h5 => ?_
 rotate_left
 · refine Mi ?_ (pR ((k : Int) + 1))
   have hga : ((⟨(L.getD k default).name, (L.getD k default).holder, (L.getD k default).fence, y3⟩ : CLock)).abs = goneF who (L.getD k default).abs := gone_keep (D := (L.getD k default)) (x := (⟨(L.getD k default).name, (L.getD k default).holder, (L.getD k default).fence, y3⟩ : CLock)) rfl rfl rfl hF3 h5
   have hgn : ((⟨(L.getD k default).name, (L.getD k default).holder, (L.getD k default).fence, y3⟩ : CLock)).name = (L.getD k default).name := rfl
   refine m_f2 ?_
   refine m_f2 ?_
   refine m_join (goneR (fp ++ fp3) (List.take (k + 1) L4)) List.perm_append_comm (fun w h1 h2 => goneR_step hkL hbL4 h1 h2) ?_
   refine m_f1 (m_f2 (m_f2 ?_))
   exact on1 ⟨k + 1, L4, fp ++ fp3⟩ (GoneI.step hI (by omega) hbL4 hga hgn) (by show S1.length - (k + 1) < S1.length - k; omega)
 refine Mi ?_ (pc (pIo 51 (k : Int) k S1.length i0) (pEk 52 k hgL4 i0))
 have hyl : y3.xs.length ≤ 3 := by rw [hF3]; exact Nat.le_trans (List.length_filter_le _ _) (by omega)
 refine Mu ?_ Tryz.call104 (fun bs w hS => ref_passed (⟨(L.getD k default).name, (L.getD k default).holder, (L.getD k default).fence, y3⟩ : CLock) w ⟨(show (L.getD k default).name.size ≤ 9223372036854775807 from hI.names _ (mem_of_getD hkL)), (hS.res _ i1)⟩ ⟨hk54, hk55⟩ (by show y3.xs.length ≤ _; omega))
 rintro fp5 y5 hF5 hok5
 refine Mi ?_ (pIo 54 (k : Int) k S1.length i1)
 refine m_f1 ?_
 refine Ms k 0 (⟨y5.name, y5.holder, y5.fence, y5.line⟩ : CLock) ?_ (by omega) (hg := hgL4)
 intro L6 hL6 hlL6
 have hgL6 : L6.getD k default = (⟨y5.name, y5.holder, y5.fence, y5.line⟩ : CLock) := by rw [hL6]; exact getD_set (by omega)
 have hbL6 : L6 = List.set L k (⟨y5.name, y5.holder, y5.fence, y5.line⟩ : CLock) := by rw [hL6, hbL4, List.set_set]
 refine Mi ?_ (pR ((k : Int) + 1))
 have hga : ((⟨y5.name, y5.holder, y5.fence, y5.line⟩ : CLock)).abs = goneF who (L.getD k default).abs := gone_pass (D := (L.getD k default)) (x := (⟨(L.getD k default).name, (L.getD k default).holder, (L.getD k default).fence, y3⟩ : CLock)) hF5 rfl rfl rfl hF3 h5
 have hgn : ((⟨y5.name, y5.holder, y5.fence, y5.line⟩ : CLock)).name = (L.getD k default).name := (congrArg DLock.name hF5).trans (mPass_name _)
 refine m_f3 ?_
 refine m_f3 ?_
 refine m_join (goneR (fp ++ fp3) (L.take k)) List.perm_append_comm (fun w h1 h2 x hx => Sl.rd.wide (h2 x hx) fun b hb => List.mem_append_left _ hb) ?_
 refine m_f2 ?_
 refine m_join (goneR ((fp ++ fp3) ++ fp5) (List.take (k + 1) L6)) List.perm_append_comm (fun w h1 h2 => goneR_step hkL hbL6 h1.2 h2) ?_
 refine m_f1 (m_f2 (m_f2 ?_))
 exact on1 ⟨k + 1, L6, (fp ++ fp3) ++ fp5⟩ (GoneI.step hI (by omega) hbL6 hga hgn) (by show S1.length - (k + 1) < S1.length - k; omega)

theorem idxF_Kept {B : Nat → Prop} (s : Sl (Fl DKept)) (p : Fl DKept → Bool) (kf : Nat) (caps : Array Value) (w : World) (hs : s.rd B w) (hcall : ∀ args w, (callFunc kf args).run Tryz.prog w = .ok (.enter kf args) w)
    (hf : ∀ (w' : World) (x : (Fl DKept)), x ∈ s.xs → Kp [] w w' → Calls Tryz.prog kf (#[x.v.val] ++ caps) w' fun e w'' => e = .returned (vb (p x)) ∧ Kp [] w' w'') : Calls Tryz.prog 81 #[.slice s.A s.n s.c, .func (.func kf) #[] caps] w fun e w' => e = .returned (vi (mIdx p s.xs)) ∧ Kp [] w w' := by
 have oks := Sl.rd.ok hs
 have ncs := Sl.ok.nc oks
 have hns : s.n = s.xs.length := rfl
 refine M0 ?_ Tryz.func81
 refine Ml (σ := Nat) (fun i => i ≤ s.n ∧ ∀ j, j < i → p (s.at j) = false) (fun i => s.n - i) (fun _ => []) [8, 7, 0, 1] (fun i => [(8, vI (i : Int))]) (fun _ => []) ?_ 0 ⟨Nat.zero_le _, fun j hj => absurd hj (Nat.not_lt_zero _)⟩
 rintro i ⟨hi, hI⟩ _ on1
 refine Md ((i : Int) < (s.n : Int)) (fun h1 => ?_) (fun h1 => ?_)
 rotate_left
 · refine Mt [.int .i64 (-1)] fun bs w hS => ?_
   refine ⟨?_, hS.kp⟩
   rw [mIdx_none fun j hj => hI j (by omega)]
   rfl
 refine Mi ?_ (pA 14 15 (i : Int) i (rdk hs))
 refine Mv ?_ hcall (fun bs w hS => hf w (s.at i) (List.mem_of_getElem? (Sl.at_some (show i < s.n by omega))) hS.kp)
 refine Mb (p (s.at i)) (fun h2 => ?_) (fun h2 => ?_)
 · refine Mt [.int .i64 (i : Int)] fun bs w hS => ?_
   refine ⟨?_, hS.kp⟩
   rw [mIdx_here (i := i) (by omega) (by assumption) hI]
   rfl
 refine Mi ?_ (pR ((i : Int) + 1))
 exact on1 (i + 1) ⟨by omega, fun j hj => by rcases Nat.lt_succ_iff_lt_or_eq.1 hj with h | h; exact hI j h; subst h; assumption⟩ (by omega)
theorem idx_Kept {B : Nat → Prop} (s : Sl DKept) (p : DKept → Bool) (kf : Nat) (caps : Array Value) (w : World) (hs : s.rd B w) (hcall : ∀ args w, (callFunc kf args).run Tryz.prog w = .ok (.enter kf args) w)
    (hf : ∀ (w' : World) (x : DKept), x ∈ s.xs → Kp [] w w' → Calls Tryz.prog kf (#[x.val] ++ caps) w' fun e w'' => e = .returned (vb (p x)) ∧ Kp [] w' w'') : Calls Tryz.prog 81 #[s.val, .func (.func kf) #[] caps] w fun e w' => e = .returned (vi (mIdx p s.xs)) ∧ Kp [] w w' := by
  have h := idxF_Kept (⟨s.A, s.c, fls s.xs⟩ : Sl (Fl DKept)) (fun x => p x.v) kf caps w hs.fl hcall (fun w' x hx hk => hf w' x.v (by obtain ⟨y, hy, rfl⟩ := List.mem_map.1 hx; exact hy) hk)
  simp only [mIdx_fl, Sl.n, List.length_map] at h
  exact h

theorem delF_Kept (A : Option Addr) (c : Nat) (L : List (Fl DKept)) (p : Fl DKept → Bool) (kf : Nat) (caps : Array Value) (w : World) (hrow : (rowA 141 A c L).p w) (hlt : ∀ b, b ∈ (rowA 141 A c L).fp → b < w.heap.size) (hn : L.length ≤ 1048576) (hcall : ∀ args w, (callFunc kf args).run Tryz.prog w = .ok (.enter kf args) w)
    (hf : ∀ (w' : World) (x : (Fl DKept)), x ∈ L → Kp (rowA 141 A c L).fp w w' → Calls Tryz.prog kf (#[x.v.val] ++ caps) w' fun e w'' => e = .returned (vb (p x)) ∧ Kp [] w' w'') :
    Calls Tryz.prog 79 #[.slice A L.length c, .func (.func kf) #[] caps] w fun e w' => e = .returned (.slice A (L.filter fun x => !p x).length c) ∧ Turned (rowA 141 A c L) w w' (rowA 141 A c (L.filter fun x => !p x)) := by
 have hrok := rowA_rok hrow
 have nc := hrok.2
 refine Mj ?_ Tryz.func79 (WS.start1 w _ hrow (by cases A <;> simp [rowA, rowR]) hlt)
 refine Mp ?_ Tryz.call81 (fun bs w hS => idxF_Kept (⟨A, c, L⟩ : Sl (Fl DKept)) p kf caps w (Rr (B := anyB) (hS.res _ i0) (fun _ _ => trivial) (fun _ _ => trivial)) hcall (fun w' x hx hk => hf w' x hx (hS.kp.step hk (fun i hi => by cases hi))))
 refine Md (mIdx p L = (-1)) (fun h1 => ?_) fun h1 => ?_
 · refine Mt [.slice A L.length c] fun bs w hS => ?_
   have hid : L.filter (fun x => !p x) = L := delF_none (by assumption)
   rw [hid]
   exact ⟨rfl, hS.turned⟩
 obtain ⟨i0, hi1, hi2, hi3, hi4⟩ := delF_some (p := p) h1
 refine Mi ?_ (pR ((mIdx p L) + 1))
 refine Mk 6 ?_ (show (vI ((mIdx p L) + 1)) = vI (((i0 : Int)) + 1) by rw [hi4])
 refine Mk 5 ?_ (show (vI (mIdx p L)) = vI ((i0 : Int)) by rw [hi4])
 refine Ml (σ := Nat × Nat × List (Fl DKept)) (fun ⟨i, j, M⟩ => i < j ∧ j ≤ L.length ∧ M.length = L.length ∧ M.take i = (L.take j).filter (fun x => !p x) ∧ M.drop j = L.drop j) (fun ⟨i, j, M⟩ => L.length - j) (fun ⟨i, j, M⟩ => [rowA 141 A c (M : List (Fl DKept))]) [6, 5, 0, 1] (fun ⟨i, j, M⟩ => [(6, vI (j : Int)), (5, vI (i : Int))]) (fun _ => []) ?_ (⟨i0, i0 + 1, L⟩) ⟨by omega, by omega, rfl, delF_start hi1 hi2 hi3, rfl⟩
 rintro ⟨i, j, M⟩ ⟨h1, h2, hM, hT, hD⟩ _ on1
 refine Md ((j : Int) < (L.length : Int)) (fun h2 => ?_) fun h2 => ?_
 rotate_left
 · refine Mi ?_ (pG [(38, .sl i L.length)] (oc (rfl : (i : Int) = (i : Int)) (oc (rfl : L.length = L.length) (oc ((by omega) : i ≤ L.length) on))))
   refine Mcl i (L.length - i) ?_ (by omega) (by omega)
   refine Mi ?_ (pG [(41, .sl 0 i)] (oc (rfl : 0 = 0) (oc (rfl : (i : Int) = (i : Int)) (oc ((by omega) : i ≤ c) on))))
   refine Mt [.slice A i c] fun bs w hS => ?_
   have hid : M.take i = L.filter (fun x => !p x) := by rw [hT, show j = L.length by omega, List.take_length]
   have hil : (L.filter (fun x => !p x)).length = i := by rw [← hid, List.length_take]; omega
   have hS2 := hS
   rw [hid] at hS2
   refine ⟨?_, hS2.turned⟩
   rw [hil]
   rfl
 refine Mi ?_ (pc (pIo 24 (j : Int) j L.length (.head _)) (pEo 25 j (.head _)))
 refine Mv ?_ hcall (fun bs w hS => hf w (M.getD j default) (by rw [getD_drop hD (by omega)]; exact mem_of_getD (by omega)) hS.kp)
 refine Mbn (p (M.getD j default)) (fun h3 => ?_) fun h3 => ?_
 · refine Mi ?_ (pR ((j : Int) + 1))
   have hjL : M.getD j default = L.getD j default := getD_drop hD (by omega)
   exact on1 ⟨i, j + 1, M⟩ ⟨by omega, by omega, hM, delF_skip (by omega) hT (hjL ▸ by assumption), drop_next hD⟩ (by show L.length - (j + 1) < L.length - j; omega)
 refine Mi ?_ (pIo 33 (i : Int) i L.length (.head _))
 refine Mse i (M.getD j default) ?_ (by omega)
 intro L2 hL2 hl2
 refine Mi ?_ (pc (pR ((i : Int) + 1)) (pR ((j : Int) + 1)))
 have hjL : M.getD j default = L.getD j default := getD_drop hD (by omega)
 exact on1 ⟨i + 1, j + 1, L2⟩ ⟨by omega, by omega, by omega, by rw [hL2]; exact delF_keep h1 (by omega) hM hT (hjL ▸ by assumption) hjL, by rw [hL2]; exact delF_drop h1 hD⟩ (by show L.length - (j + 1) < L.length - j; omega)
theorem del_Kept (A : Option Addr) (c : Nat) (L : List DKept) (p : DKept → Bool) (kf : Nat) (caps : Array Value) (w : World) (hrow : (rowA 141 A c L).p w) (hlt : ∀ b, b ∈ (rowA 141 A c L).fp → b < w.heap.size) (hn : L.length ≤ 1048576) (hcall : ∀ args w, (callFunc kf args).run Tryz.prog w = .ok (.enter kf args) w)
    (hf : ∀ (w' : World) (x : DKept), x ∈ L → Kp (rowA 141 A c L).fp w w' → Calls Tryz.prog kf (#[x.val] ++ caps) w' fun e w'' => e = .returned (vb (p x)) ∧ Kp [] w' w'') :
    Calls Tryz.prog 79 #[.slice A L.length c, .func (.func kf) #[] caps] w fun e w' => e = .returned (.slice A (L.filter fun x => !p x).length c) ∧ Turned (rowA 141 A c L) w w' (rowA 141 A c (L.filter fun x => !p x)) := by
  have h := delF_Kept A c (fls L) (fun x => p x.v) kf caps w (by rw [rowA_fl]; exact hrow) (by rw [rowA_fl]; exact hlt) (by simpa using hn) hcall (fun w' x hx hk => hf w' x.v (by obtain ⟨y, hy, rfl⟩ := List.mem_map.1 hx; exact hy) (by rwa [rowA_fl] at hk))
  have e1 : (fls L).filter (fun x => !(p x.v)) = fls (L.filter fun x => !p x) := fls_filter (fun x => !p x) L
  simp only [e1, rowA_fl, List.length_map] at h
  exact h

theorem clo_session_Ready_2 (x : DKept) (c : DCommand) (b : Nat) (w : World) (hb : (blkR b 63 [vi c.kind, vi c.client, vi c.session, vi c.seq, vi c.acked, vi c.op.kind, vs c.op.a, vs c.op.b, vi c.op.n]).p w) : Calls Tryz.prog 82 #[x.val, .pointer (some (⟨b, 0, none⟩ : Addr))] w fun e w' => e = .returned (vb (decide (x.seq = c.seq))) ∧ Kp [] w w' := by
 refine M0 ?_ Tryz.func82
 refine Mi ?_ (pX 7 [vi c.seq] (fun w hk hr => (blkR_fld (blkR_kp hb hk) 3 1 rfl)))
 exact Mt [vb (decide (x.seq = c.seq))] fun bs w hS => ⟨rfl, hS.kp⟩

theorem clo_session_Ready_1 (x : DKept) (a : Addr) (q : Int) (b : Nat) (w : World) (hb : (blkR b 138 [.pointer (some a)]).p w) (ha : CellsAt w (a.add 2) [vi q]) : Calls Tryz.prog 80 #[x.val, .pointer (some (⟨b, 0, none⟩ : Addr))] w fun e w' => e = .returned (vb (decide (x.seq ≤ q))) ∧ Kp [] w w' := by
 refine M0 ?_ Tryz.func80
 refine Mda 8 [] [] [] Tryz_mixed ?_
 refine Mih ?_ (pc (pX 6 [.pointer (some a)] (fun w hk hr => (blkR_pre (blkR_kp hb hk) 1 rfl))) (pX 9 [vi q] (fun w hk hr => (CellsAt.kp ha hk))))
 exact Mt [vb (decide (x.seq ≤ q))] fun bs w hS => ⟨rfl, hS.kp⟩

theorem session_Ready {B : Nat → Prop} (s : Sl CSession) (n : Int) (c : DCommand) (w : World) (hs : s.rd B w) (ht : inR c.client) (hc : Rds.sub B w c) : Calls Tryz.prog 27 #[s.val, vi n, c.val] w fun e w' => ∃ y : Sl CSession, e = .returned (.tuple #[y.val, ((mReady (s.xs.map CSession.abs) n c).2.1).val, vb (mReady (s.xs.map CSession.abs) n c).2.2.1, vi (mReady (s.xs.map CSession.abs) n c).2.2.2]) ∧ y.xs.map CSession.abs = (mReady (s.xs.map CSession.abs) n c).1 ∧ FreshS w w' y := by
 have oks := Sl.rd.ok hs
 have ncs := Sl.ok.nc oks
 have hns : s.n = s.xs.length := rfl
 have hml : (s.xs.map CSession.abs).length = s.n := by simp
 refine M0 ?_ Tryz.func27
 refine Mp ?_ Tryz.call63 (fun bs w hS => session_Check s n w (Sl.rd.kp hs hS.kp))
 refine Mdn (mSess (s.xs.map CSession.abs) n = 0) (fun h1 => ?_) fun h1 => ?_
 rotate_left
 · refine Mt [vn, vz 0, vb false, vi (mSess (s.xs.map CSession.abs) n)] fun bs w hS => ?_
   have hm := ready_bad (c := c) h1
   refine ⟨Sl.nil, ?_, ?_, hS.outS (Sl.rd_nil _ _)⟩
   · rw [hm] <;> rfl
   · rw [hm] <;> rfl
 obtain ⟨hi0, hi1, hln, hall⟩ := mSess_bd h1
 have hln2 : s.xs.length ≤ 4 := by simpa using hln
 refine Md (n = 1073741824) (fun h2 => ?_) fun h2 => ?_
 · refine Mt [vn, vz 0, vb false, vi 2] fun bs w hS => ?_
   have hm := ready_inv (c := c) h1 (by unfold rInv; omega)
   refine ⟨Sl.nil, ?_, ?_, hS.outS (Sl.rd_nil _ _)⟩
   · rw [hm] <;> rfl
   · rw [hm] <;> rfl
 refine Md (c.seq < 1) (fun h3 => ?_) fun h3 => ?_
 · refine Mt [vn, vz 0, vb false, vi 2] fun bs w hS => ?_
   have hm := ready_inv (c := c) h1 (by unfold rInv; omega)
   refine ⟨Sl.nil, ?_, ?_, hS.outS (Sl.rd_nil _ _)⟩
   · rw [hm] <;> rfl
   · rw [hm] <;> rfl
 refine Md ((1048576 : Int) < c.seq) (fun h4 => ?_) fun h4 => ?_
 · refine Mt [vn, vz 0, vb false, vi 2] fun bs w hS => ?_
   have hm := ready_inv (c := c) h1 (by unfold rInv; omega)
   refine ⟨Sl.nil, ?_, ?_, hS.outS (Sl.rd_nil _ _)⟩
   · rw [hm] <;> rfl
   · rw [hm] <;> rfl
 refine Md (c.acked < 0) (fun h5 => ?_) fun h5 => ?_
 · refine Mt [vn, vz 0, vb false, vi 2] fun bs w hS => ?_
   have hm := ready_inv (c := c) h1 (by unfold rInv; omega)
   refine ⟨Sl.nil, ?_, ?_, hS.outS (Sl.rd_nil _ _)⟩
   · rw [hm] <;> rfl
   · rw [hm] <;> rfl
 refine Md (c.seq ≤ c.acked) (fun h6 => ?_) fun h6 => ?_
 · refine Mt [vn, vz 0, vb false, vi 2] fun bs w hS => ?_
   have hm := ready_inv (c := c) h1 (by unfold rInv; omega)
   refine ⟨Sl.nil, ?_, ?_, hS.outS (Sl.rd_nil _ _)⟩
   · rw [hm] <;> rfl
   · rw [hm] <;> rfl
 refine Mf ?_ Tryz.call70 (fun bs w hS => session_Copy s w (Sl.rd.kp hs hS.kp) (small_sess (by assumption)))
 rintro y1 hF1
 refine m_split2 ?_
 obtain ⟨A1, c1, S1⟩ := y1
 have hF1 : S1.map CSession.abs = s.xs.map CSession.abs := hF1
 refine m_perm (R' := [ownL (keptR 141) S1, rowA 118 A1 c1 (S1 : List CSession)]) (List.Perm.refl _) ?_
 have hnm1 := sess_texts (y := (⟨A1, c1, S1⟩ : Sl CSession)) (hs) hF1
 have hlen1 : S1.length = s.xs.length := by simpa using congrArg List.length hF1
 refine m_know (F := ∀ i, i < S1.length → Rds.ok (S1.getD i default)) (fun bs w hS i hi => Rds.okof (B := anyB) (w := w) (own_elt (hS.res _ i0) hnm1 (mem_of_getD hi))) fun okown1 => ?_
 refine m_know (F := RowOk A1 c1 (S1 : List CSession)) (fun bs w hS => rowA_rok (hS.res _ i1)) fun hrow1 => ?_
 have nchrow1 := hrow1.2
 have hml1 : (S1.map CSession.abs).length = S1.length := by simp
 have hm1 : mSess (S1.map CSession.abs) n = 0 := by rw [hF1]; assumption
 refine Mp ?_ Tryz.call76 (fun bs w hS => session_find (⟨A1, c1, S1⟩ : Sl CSession) c.client w (own_sess (hS.res _ i0) (hS.res _ i1) hnm1) (show S1.length ≤ 1048576 by omega))
 have hbs := bsf_sess (L := S1) (index := n) (t := c.client) (by rw [hF1]; assumption) ht
 have hJb := mIdx_bd (fun x : DSession => decide (x.client = c.client)) (S1.map CSession.abs)
 generalize hJ : mIdx (fun x : DSession => decide (x.client = c.client)) (S1.map CSession.abs) = J at hbs hJb
 have hkl := mBS_le (fun x : CSession => IntKind.i64.wrap (x.client - c.client)) S1
 generalize hk : mBS (fun x : CSession => IntKind.i64.wrap (x.client - c.client)) S1 = k at hbs hkl ⊢
 generalize hf : mBSf (fun x : CSession => IntKind.i64.wrap (x.client - c.client)) S1 = fb at hbs ⊢
 refine Mdr 12 ?_ Tryz_mixed
 refine Mbn fb (fun h7 => ?_) fun h7 => ?_
 rotate_left
 · have h0J := of_decide_eq_false (hbs.1.symm.trans h7)
   refine Mz ?_
   refine Mt [.slice A1 S1.length c1, vz 11, vb false, vi 0] fun bs w hS => ?_
   have hv : ¬ rInv n c := by unfold rInv; omega
   rw [← hF1]
   have hm := ready_none (l := S1.map CSession.abs) (c := c) hm1 hv (by show mIdx _ _ < 0; rw [hJ]; omega)
   refine ⟨⟨A1, c1, S1⟩, ?_, ?_, hS.outS (y := (⟨A1, c1, S1⟩ : Sl CSession)) (out_sessG i1 hS.res (fun x hx => ?_))⟩
   · rw [hm] <;> rfl
   · exact (congrArg Prod.fst hm).symm
   · exact own_in i0 hS.res hnm1 hx
 have hkJ := hbs.2 h7
 subst hkJ
 have hk5 := sess_all hm1 (k := k) (by omega)
 have hk6 : (S1.getD k default).replies.xs.length ≤ 4 := mReplies_len hk5.2.2.2.2
 have hk7 : (S1.getD k default).replies.n = (S1.getD k default).replies.xs.length := rfl
 refine Mih ?_ (pc (pIo 61 (k : Int) k S1.length i1) (pFo 63 k 1 1 i1))
 refine Mz ?_
 refine Mdn ((S1.getD k default).id = c.session) (fun h8 => ?_) fun h8 => ?_
 rotate_left
 · refine Mt [.slice A1 S1.length c1, vz 11, vb false, vi 0] fun bs w hS => ?_
   have hv : ¬ rInv n c := by unfold rInv; omega
   rw [← hF1]
   have hm := ready_other (c := c) hm1 hv (K := k) (by show (mIdx _ _).toNat = _; rw [hJ]; rfl) h8
   refine ⟨⟨A1, c1, S1⟩, ?_, ?_, hS.outS (y := (⟨A1, c1, S1⟩ : Sl CSession)) (out_sessG i1 hS.res (fun x hx => ?_))⟩
   · rw [hm] <;> rfl
   · exact (congrArg Prod.fst hm).symm
   · exact own_in i0 hS.res hnm1 hx
 refine Mi ?_ (pc (pIo 72 (k : Int) k S1.length i1) (pR (n + 1)))
 refine m_f1 ?_
 refine Ms k 3 (⟨(S1.getD k default).client, (S1.getD k default).id, (S1.getD k default).acked, n + 1, (S1.getD k default).replies⟩ : CSession) ?_ (by omega)
 intro L3 hL3 hlL3
 have hgL3 : L3.getD k default = (⟨(S1.getD k default).client, (S1.getD k default).id, (S1.getD k default).acked, n + 1, (S1.getD k default).replies⟩ : CSession) := by rw [hL3]; exact getD_set (by omega)
 have hbL3 : L3 = List.set S1 k (⟨(S1.getD k default).client, (S1.getD k default).id, (S1.getD k default).acked, n + 1, (S1.getD k default).replies⟩ : CSession) := by rw [hL3]
 refine Mdr 7 ?_ Tryz_mixed
 refine Mih ?_ (pFk 83 k 2 1 hgL3 i0)
 refine Mz ?_
 refine Md ((S1.getD k default).acked < c.acked) (fun h9 => ?_) fun h9 => ?_
 rotate_left
 · have hak : kAck (S1.getD k default).abs c = (S1.getD k default).acked := ack_same (d := (S1.getD k default).abs) h9
   have hll : kLeft (S1.getD k default).abs c = (S1.getD k default).replies.xs := left_same (d := (S1.getD k default).abs) hak hk5.2.2.2.2
   refine Mdr 7 ?_ Tryz_mixed
   refine Mih ?_ (pFk 104 k 2 1 hgL3 i0)
   refine Mz ?_
   refine Md (c.seq ≤ (S1.getD k default).acked) (fun h13 => ?_) fun h13 => ?_
   · refine Mt [.slice A1 S1.length c1, vz 12, vb false, vi 0] fun bs w hS => ?_
     have hv : ¬ rInv n c := by unfold rInv; omega
     rw [← hF1]
     have ha := ans_old hak h13
     have hm := ready_one (c := c) hm1 hv (K := k) (by show ¬ mIdx _ _ < 0; rw [hJ]; omega) (by show (mIdx _ _).toNat = _; rw [hJ]; rfl) h8 (kSess_of hak hll) ha
     have hvx := setS_map hbL3
     refine ⟨⟨A1, c1, L3⟩, ?_, ?_, hS.outS (y := (⟨A1, c1, L3⟩ : Sl CSession)) (out_sessG i0 hS.res (fun x hx => ?_))⟩
     · have hll2 : S1.length = L3.length := by rw [hbL3, List.length_set]
       rw [hm]
       exact congrArg (fun q => Ending.returned (.tuple #[.slice A1 q c1, vz 12, vb false, vi 0])) hll2
     · exact Eq.trans hvx (congrArg Prod.fst hm).symm
     · rw [hbL3] at hx
       rcases mem_set hx with hx | hx
       · subst hx; exact own_in (x := (S1.getD k default)) i1 hS.res hnm1 (mem_of_getD (L := S1) (i := k) (by omega))
       · exact own_in i1 hS.res hnm1 hx
   refine Mi ?_ (pFk 111 k 4 1 hgL3 i0)
   refine Mp ?_ Tryz.call81 (fun bs w hS => idx_Kept (S1.getD k default).replies (fun z : DKept => decide (z.seq = c.seq)) 82 #[.pointer (some (adr bs 0 0))] w (own_elt (hS.res _ i1) hnm1 (mem_of_getD (i := k) (by omega))) Tryz.call82 (fun w' z hz hk => clo_session_Ready_2 z c (bs.getD 0 0) w' (show (blkR _ _ _).p w' from (hS.pure hk).loc 0 ⟨63, c.cs⟩ (by kernel_rfl) (by simp))))
   have hIb := mIdx_bd (fun z : DKept => decide (z.seq = c.seq)) (S1.getD k default).replies.xs
   generalize hIx : mIdx (fun z : DKept => decide (z.seq = c.seq)) (S1.getD k default).replies.xs = I at hIb ⊢
   refine Md ((0 : Int) ≤ I) (fun h14 => ?_) fun h14 => ?_
   · refine Mda 13 [] [1] [rowA 118 A1 c1 (L3 : List CSession), ownL (keptR 141) S1] Tryz_mixed ?_
     refine Mih ?_ (pc (pFk 120 k 4 1 hgL3 i0) (pc (pI 122 I I.toNat (s := (S1.getD k default).replies) (fun w hk hr => (own_elt (hr _ i1) hnm1 (mem_of_getD (i := k) (by omega))))) (pF 124 I.toNat 1 3 (s := (S1.getD k default).replies) (fun w hk hr => (own_elt (hr _ i1) hnm1 (mem_of_getD (i := k) (by omega)))))))
     refine Mz ?_
     refine Mt [.slice A1 S1.length c1, ((S1.getD k default).replies.at I.toNat).reply.val, vb false, vi 0] fun bs w hS => ?_
     have hv : ¬ rInv n c := by unfold rInv; omega
     rw [← hF1]
     have ha := ans_kept hak hll (idx_at hIx) h13 h14
     have hm := ready_one (c := c) hm1 hv (K := k) (by show ¬ mIdx _ _ < 0; rw [hJ]; omega) (by show (mIdx _ _).toNat = _; rw [hJ]; rfl) h8 (kSess_of hak hll) ha
     have hvx := setS_map hbL3
     refine ⟨⟨A1, c1, L3⟩, ?_, ?_, hS.outS (y := (⟨A1, c1, L3⟩ : Sl CSession)) (out_sessG i0 hS.res (fun x hx => ?_))⟩
     · have hll2 : S1.length = L3.length := by rw [hbL3, List.length_set]
       rw [hm]
       exact congrArg (fun q => Ending.returned (.tuple #[.slice A1 q c1, ((S1.getD k default).replies.at I.toNat).reply.val, vb false, vi 0])) hll2
     · exact Eq.trans hvx (congrArg Prod.fst hm).symm
     · rw [hbL3] at hx
       rcases mem_set hx with hx | hx
       · subst hx; exact own_in (x := (S1.getD k default)) i1 hS.res hnm1 (mem_of_getD (L := S1) (i := k) (by omega))
       · exact own_in i1 hS.res hnm1 hx
   refine Mdr 8 ?_ Tryz_mixed
   refine Mih ?_ (pc (pFk 130 k 2 1 hgL3 i0) (pR ((S1.getD k default).acked + 4)))
   refine Mz ?_
   refine Md ((S1.getD k default).acked + 4 < c.seq) (fun h15 => ?_) fun h15 => ?_
   rotate_left
   · refine Mt [.slice A1 S1.length c1, vz 0, vb true, vi 0] fun bs w hS => ?_
     have hv : ¬ rInv n c := by unfold rInv; omega
     rw [← hF1]
     have ha := ans_new hak hll (idx_at hIx) h13 h14 h15
     have hm := ready_one (c := c) hm1 hv (K := k) (by show ¬ mIdx _ _ < 0; rw [hJ]; omega) (by show (mIdx _ _).toNat = _; rw [hJ]; rfl) h8 (kSess_of hak hll) ha
     have hvx := setS_map hbL3
     refine ⟨⟨A1, c1, L3⟩, ?_, ?_, hS.outS (y := (⟨A1, c1, L3⟩ : Sl CSession)) (out_sessG i0 hS.res (fun x hx => ?_))⟩
     · have hll2 : S1.length = L3.length := by rw [hbL3, List.length_set]
       rw [hm]
       exact congrArg (fun q => Ending.returned (.tuple #[.slice A1 q c1, vz 0, vb true, vi 0])) hll2
     · exact Eq.trans hvx (congrArg Prod.fst hm).symm
     · rw [hbL3] at hx
       rcases mem_set hx with hx | hx
       · subst hx; exact own_in (x := (S1.getD k default)) i1 hS.res hnm1 (mem_of_getD (L := S1) (i := k) (by omega))
       · exact own_in i1 hS.res hnm1 hx
   refine Mt [.slice A1 S1.length c1, vz 2, vb false, vi 0] fun bs w hS => ?_
   have hv : ¬ rInv n c := by unfold rInv; omega
   rw [← hF1]
   have ha := ans_far hak hll (idx_at hIx) h13 h14 h15
   have hm := ready_one (c := c) hm1 hv (K := k) (by show ¬ mIdx _ _ < 0; rw [hJ]; omega) (by show (mIdx _ _).toNat = _; rw [hJ]; rfl) h8 (kSess_of hak hll) ha
   have hvx := setS_map hbL3
   refine ⟨⟨A1, c1, L3⟩, ?_, ?_, hS.outS (y := (⟨A1, c1, L3⟩ : Sl CSession)) (out_sessG i0 hS.res (fun x hx => ?_))⟩
   · have hll2 : S1.length = L3.length := by rw [hbL3, List.length_set]
     rw [hm]
     exact congrArg (fun q => Ending.returned (.tuple #[.slice A1 q c1, vz 2, vb false, vi 0])) hll2
   · exact Eq.trans hvx (congrArg Prod.fst hm).symm
   · rw [hbL3] at hx
     rcases mem_set hx with hx | hx
     · subst hx; exact own_in (x := (S1.getD k default)) i1 hS.res hnm1 (mem_of_getD (L := S1) (i := k) (by omega))
     · exact own_in i1 hS.res hnm1 hx
 have hak := ack_up (d := (S1.getD k default).abs) (c := c) h9
 have hll := left_more hak
 have hfl := List.length_filter_le (fun z : DKept => !decide (z.seq ≤ c.acked)) (S1.getD k default).replies.xs
 refine Ms k 2 (⟨(S1.getD k default).client, (S1.getD k default).id, c.acked, n + 1, (S1.getD k default).replies⟩ : CSession) ?_ (by omega) (hg := hgL3)
 intro L4 hL4 hlL4
 have hgL4 : L4.getD k default = (⟨(S1.getD k default).client, (S1.getD k default).id, c.acked, n + 1, (S1.getD k default).replies⟩ : CSession) := by rw [hL4]; exact getD_set (by omega)
 have hbL4 : L4 = List.set S1 k (⟨(S1.getD k default).client, (S1.getD k default).id, c.acked, n + 1, (S1.getD k default).replies⟩ : CSession) := by rw [hL4, hbL3, List.set_set]
 refine m_f1 ?_
 refine m_part2 (rowA 141 (S1.getD k default).replies.A (S1.getD k default).replies.c ((S1.getD k default).replies.xs : List DKept)) (ownL (keptR 141) (List.eraseIdx S1 k)) (ownL_get_fp (keptR 141) (i := k) (by omega)) (fun w h => ownL_get_p (keptR 141) (i := k) (by omega) w h) ?_
 refine m_know (F := RowOk (S1.getD k default).replies.A (S1.getD k default).replies.c ((S1.getD k default).replies.xs : List DKept)) (fun bs w hS => rowA_rok (hS.res _ i0)) fun hrowK => ?_
 have nchrowK := hrowK.2
 refine Mda 9 [] [] [ownL (keptR 141) (List.eraseIdx S1 k), rowA 118 A1 c1 (L4 : List CSession)] Tryz_mixed ?_ (hR := (.cons _ (List.Sublist.refl _)))
 refine Mih ?_ (pFk 94 k 4 1 hgL4 i1) (hR := (.cons _ (List.Sublist.refl _)))
 refine Mtu0 ?_ Tryz.call79 (fun bs w hS => del_Kept (S1.getD k default).replies.A (S1.getD k default).replies.c (S1.getD k default).replies.xs (fun z : DKept => decide (z.seq ≤ c.acked)) 80 #[.pointer (some (adr bs 2 0))] w (hS.res _ i0) hS.head1.2.2 (by omega) Tryz.call80 (fun w' x hx hk => clo_session_Ready_1 x ((oad A1).add (k * 5)) c.acked (bs.getD 2 0) w' (show (blkR _ _ _).p w' from hS.blkIn (i := 2) (b := ⟨138, [.v (.pointer (some ((oad A1).add (k * 5))))]⟩) hk (by kernel_rfl) (by simp)) (rowA_fld (i := k) (hS.resIn hk i1) (by omega) 2 1 (by rw [hgL4]; rfl))))
 rintro _ _
 refine Mz ?_
 refine m_f2 ?_
 refine Ms k 4 (⟨(S1.getD k default).client, (S1.getD k default).id, c.acked, n + 1, ⟨(S1.getD k default).replies.A, (S1.getD k default).replies.c, (S1.getD k default).replies.xs.filter fun z : DKept => !decide (z.seq ≤ c.acked)⟩⟩ : CSession) ?_ (by omega) (hg := hgL4)
 intro L6 hL6 hlL6
 have hgL6 : L6.getD k default = (⟨(S1.getD k default).client, (S1.getD k default).id, c.acked, n + 1, ⟨(S1.getD k default).replies.A, (S1.getD k default).replies.c, (S1.getD k default).replies.xs.filter fun z : DKept => !decide (z.seq ≤ c.acked)⟩⟩ : CSession) := by rw [hL6]; exact getD_set (by omega)
 have hbL6 : L6 = List.set S1 k (⟨(S1.getD k default).client, (S1.getD k default).id, c.acked, n + 1, ⟨(S1.getD k default).replies.A, (S1.getD k default).replies.c, (S1.getD k default).replies.xs.filter fun z : DKept => !decide (z.seq ≤ c.acked)⟩⟩ : CSession) := by rw [hL6, hbL4, List.set_set]
 refine Mdr 7 ?_ Tryz_mixed
 refine Mih ?_ (pFk 104 k 2 1 hgL6 i0)
 refine Mz ?_
 refine My false false ?_ (df h6)
 refine Mi ?_ (pFk 111 k 4 1 hgL6 i0)
 refine Mp ?_ Tryz.call81 (fun bs w hS => idx_Kept (⟨(S1.getD k default).replies.A, (S1.getD k default).replies.c, (S1.getD k default).replies.xs.filter fun z : DKept => !decide (z.seq ≤ c.acked)⟩ : Sl DKept) (fun z : DKept => decide (z.seq = c.seq)) 82 #[.pointer (some (adr bs 0 0))] w (Rr (B := anyB) (hS.res _ i1) (fun _ _ => trivial) (fun z hz => hnm1 _ (mem_of_getD (L := S1) (i := k) (by omega)) z (List.mem_filter.1 hz).1)) Tryz.call82 (fun w' z hz hk => clo_session_Ready_2 z c (bs.getD 0 0) w' (show (blkR _ _ _).p w' from (hS.pure hk).loc 0 ⟨63, c.cs⟩ (by kernel_rfl) (by simp))))
 have hIb := mIdx_bd (fun z : DKept => decide (z.seq = c.seq)) ((S1.getD k default).replies.xs.filter fun z : DKept => !decide (z.seq ≤ c.acked))
 generalize hIx : mIdx (fun z : DKept => decide (z.seq = c.seq)) ((S1.getD k default).replies.xs.filter fun z : DKept => !decide (z.seq ≤ c.acked)) = I at hIb ⊢
 refine Md ((0 : Int) ≤ I) (fun h11 => ?_) fun h11 => ?_
 · refine Mda 13 [] [1] [rowA 118 A1 c1 (L6 : List CSession), rowA 141 (S1.getD k default).replies.A (S1.getD k default).replies.c ((S1.getD k default).replies.xs.filter fun z : DKept => !decide (z.seq ≤ c.acked) : List DKept), ownL (keptR 141) (List.eraseIdx S1 k)] Tryz_mixed ?_
   refine Mih ?_ (pc (pFk 120 k 4 1 hgL6 i0) (pc (pIo 122 I I.toNat ((S1.getD k default).replies.xs.filter fun z : DKept => !decide (z.seq ≤ c.acked)).length i1) (pFo 124 I.toNat 1 3 i1)))
   refine Mz ?_
   refine Mt [.slice A1 S1.length c1, (((S1.getD k default).replies.xs.filter fun z : DKept => !decide (z.seq ≤ c.acked)).getD I.toNat default).reply.val, vb false, vi 0] fun bs w hS => ?_
   have hv : ¬ rInv n c := by unfold rInv; omega
   rw [← hF1]
   have ha := ans_kept hak hll (idx_at hIx) h6 h11
   have hm := ready_one (c := c) hm1 hv (K := k) (by show ¬ mIdx _ _ < 0; rw [hJ]; omega) (by show (mIdx _ _).toNat = _; rw [hJ]; rfl) h8 (kSess_of hak hll) ha
   have hvx := setS_map hbL6
   refine ⟨⟨A1, c1, L6⟩, ?_, ?_, hS.outS (y := (⟨A1, c1, L6⟩ : Sl CSession)) (out_sessG i0 hS.res (fun x hx => ?_))⟩
   · have hll2 : S1.length = L6.length := by rw [hbL6, List.length_set]
     rw [hm]
     exact congrArg (fun q => Ending.returned (.tuple #[.slice A1 q c1, (((S1.getD k default).replies.xs.filter fun z : DKept => !decide (z.seq ≤ c.acked)).getD I.toNat default).reply.val, vb false, vi 0])) hll2
   · exact Eq.trans hvx (congrArg Prod.fst hm).symm
   · rw [hbL6] at hx
     rcases mem_set_ne hx with hx | hx
     · subst hx; exact allR_row i1 (hS.res _ i1) (fun z hz => hnm1 _ (mem_of_getD (L := S1) (i := k) (by omega)) z (List.mem_filter.1 hz).1)
     · exact own_in i2 hS.res (fun z hz => hnm1 z (List.mem_of_mem_eraseIdx hz)) hx
 refine Mdr 8 ?_ Tryz_mixed
 refine Mih ?_ (pc (pFk 130 k 2 1 hgL6 i0) (pR (c.acked + 4)))
 refine Mz ?_
 refine Md (c.acked + 4 < c.seq) (fun h12 => ?_) fun h12 => ?_
 rotate_left
 · refine Mt [.slice A1 S1.length c1, vz 0, vb true, vi 0] fun bs w hS => ?_
   have hv : ¬ rInv n c := by unfold rInv; omega
   rw [← hF1]
   have ha := ans_new hak hll (idx_at hIx) h6 h11 h12
   have hm := ready_one (c := c) hm1 hv (K := k) (by show ¬ mIdx _ _ < 0; rw [hJ]; omega) (by show (mIdx _ _).toNat = _; rw [hJ]; rfl) h8 (kSess_of hak hll) ha
   have hvx := setS_map hbL6
   refine ⟨⟨A1, c1, L6⟩, ?_, ?_, hS.outS (y := (⟨A1, c1, L6⟩ : Sl CSession)) (out_sessG i0 hS.res (fun x hx => ?_))⟩
   · have hll2 : S1.length = L6.length := by rw [hbL6, List.length_set]
     rw [hm]
     exact congrArg (fun q => Ending.returned (.tuple #[.slice A1 q c1, vz 0, vb true, vi 0])) hll2
   · exact Eq.trans hvx (congrArg Prod.fst hm).symm
   · rw [hbL6] at hx
     rcases mem_set_ne hx with hx | hx
     · subst hx; exact allR_row i1 (hS.res _ i1) (fun z hz => hnm1 _ (mem_of_getD (L := S1) (i := k) (by omega)) z (List.mem_filter.1 hz).1)
     · exact own_in i2 hS.res (fun z hz => hnm1 z (List.mem_of_mem_eraseIdx hz)) hx
 refine Mt [.slice A1 S1.length c1, vz 2, vb false, vi 0] fun bs w hS => ?_
 have hv : ¬ rInv n c := by unfold rInv; omega
 rw [← hF1]
 have ha := ans_far hak hll (idx_at hIx) h6 h11 h12
 have hm := ready_one (c := c) hm1 hv (K := k) (by show ¬ mIdx _ _ < 0; rw [hJ]; omega) (by show (mIdx _ _).toNat = _; rw [hJ]; rfl) h8 (kSess_of hak hll) ha
 have hvx := setS_map hbL6
 refine ⟨⟨A1, c1, L6⟩, ?_, ?_, hS.outS (y := (⟨A1, c1, L6⟩ : Sl CSession)) (out_sessG i0 hS.res (fun x hx => ?_))⟩
 · have hll2 : S1.length = L6.length := by rw [hbL6, List.length_set]
   rw [hm]
   exact congrArg (fun q => Ending.returned (.tuple #[.slice A1 q c1, vz 2, vb false, vi 0])) hll2
 · exact Eq.trans hvx (congrArg Prod.fst hm).symm
 · rw [hbL6] at hx
   rcases mem_set_ne hx with hx | hx
   · subst hx; exact allR_row i1 (hS.res _ i1) (fun z hz => hnm1 _ (mem_of_getD (L := S1) (i := k) (by omega)) z (List.mem_filter.1 hz).1)
   · exact own_in i2 hS.res (fun z hz => hnm1 z (List.mem_of_mem_eraseIdx hz)) hx

end Go.Proofs.YtbjakddkfgjkaaaGreat.W
