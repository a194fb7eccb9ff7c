/-
  The functions that the law ReplicaApplies reaches, walked: each returns what its model says.
  Conditions: those that each theorem states.
-/
import Derived.Test.YtbjakddkfgjkaaaGreatFe
import Derived.Test.YtbjakddkfgjkaaaGreatChecked
set_option linter.unusedVariables false
set_option linter.unusedSimpArgs false
set_option maxRecDepth 100000
set_option maxHeartbeats 2000000
namespace Go.Proofs.YtbjakddkfgjkaaaGreat.W
open Go.Proofs.YtbjakddkfgjkaaaGreat.Fw Go.RowKit
attribute [local irreducible] JM nx

theorem Tryz_mixed : Tryz.prog.follows .mixedOrders = true := by kernel_rfl
theorem laid : laidOutB Tryz.prog = true := by kernel_rfl

theorem ref_In (n lo hi : Int) (w : World) : Calls Tryz.prog 51 #[.int .i64 n, .int .i64 lo, .int .i64 hi] w fun e w' => e = .returned (.bool (inB n lo hi)) ∧ Kp [] w w' := by
 refine M0 Tryz.func51 (J := ?_)
 refine Md (lo ≤ n) (T := fun h1 => ?_) (F := fun h1 => ?_)
 rotate_left
 · exact Mt [.bool false] fun bs w hS => ⟨by simp [retOf, den, inB, h1], hS.kp⟩
 exact Mt [.bool (decide (n ≤ hi))] fun bs w hS => ⟨by simp [retOf, den, inB, h1], hS.kp⟩

theorem lock_Name1 (c : UInt8) (w : World) : Calls Tryz.prog 187 #[.int .u8 (c.toNat : Int)] w fun e w' => e = .returned (.bool (nameBad c)) ∧ Kp [] w w' := by
 refine M0 Tryz.func187 (J := ?_)
 refine Md ((c.toNat : Int) < 97) (T := fun h1 => ?_) (F := fun h1 => ?_)
 · exact Mt [.bool true] fun bs w hS => ⟨by simp [retOf, den, nameBad, h1], hS.kp⟩
 exact Mt [.bool (decide ((122 : Int) < (c.toNat : Int)))] fun bs w hS => ⟨by simp [retOf, den, nameBad, h1], hS.kp⟩

theorem idx_bytes {B : Nat → Prop} (s : Sl UInt8) (w : World) (hs : s.rd B w) : Calls Tryz.prog 216 #[.slice s.A s.n s.c, .func (.func 187) #[] #[]] w fun e w' => e = .returned (.int .i64 (mIdx nameBad s.xs)) ∧ Kp [] w w' := by
 have oks := Sl.rd.ok hs
 have ncs := Sl.ok.nc oks
 have hns : s.n = s.xs.length := rfl
 refine Mj Tryz.func216 (WS.start w) (J := ?_)
 refine Ml (σ := Nat) (fun i => i ≤ s.n ∧ ∀ j, j < i → nameBad (s.at j) = false) (fun i => s.n - i) (fun _ => []) [8, 7, 0, 1] (fun i => [(8, vI (i : Int))]) (fun _ => []) 0 ⟨Nat.zero_le _, fun j hj => absurd hj (Nat.not_lt_zero _)⟩ (B := ?_)
 rintro i ⟨hi, hI⟩ _ on1
 refine Md ((i : Int) < (s.n : Int)) (T := fun h1 => ?_) (F := fun h1 => ?_)
 rotate_left
 · refine Mt [.int .i64 (-1)] fun bs w hS => ?_
   refine ⟨?_, hS.kp⟩
   rw [mIdx_none fun j hj => hI j (by omega)]
   rfl
 refine Mi (pA 14 15 (i : Int) i (rdk hs)) (J := ?_)
 refine Mp Tryz.call187 (fun bs w hS => lock_Name1 (s.at i) w) (J := ?_)
 refine Mb (nameBad (s.at i)) (T := fun h2 => ?_) (F := fun h2 => ?_)
 · refine Mt [.int .i64 (i : Int)] fun bs w hS => ?_
   refine ⟨?_, hS.kp⟩
   rw [mIdx_here (by omega) (by assumption) hI]
   rfl
 refine Mi (pR ((i : Int) + 1)) (J := ?_)
 exact on1 (i + 1) ⟨by omega, fun j hj => by rcases Nat.lt_succ_iff_lt_or_eq.1 hj with h | h; exact hI j h; subst h; assumption⟩ (by omega)

theorem has_bytes {B : Nat → Prop} (s : Sl UInt8) (w : World) (hs : s.rd B w) : Calls Tryz.prog 186 #[.slice s.A s.n s.c, .func (.func 187) #[] #[]] w fun e w' => e = .returned (.bool (s.xs.any nameBad)) ∧ Kp [] w w' := by
 have oks := Sl.rd.ok hs
 have ncs := Sl.ok.nc oks
 have hns : s.n = s.xs.length := rfl
 refine Mj Tryz.func186 (WS.start w) (J := ?_)
 refine Mp (vs := fun bs => [.slice s.A s.n s.c, .func (.func 187) #[] #[]]) Tryz.call216 (fun bs w hS => idx_bytes _ w (Sl.rd.kp hs hS.kp)) (J := ?_)
 refine Mt [.bool (decide ((0 : Int) ≤ mIdx nameBad s.xs))] fun bs w hS => ?_
 refine ⟨?_, hS.kp⟩
 simp only [retOf, den, List.map_cons, List.map_nil, mIdx_nonneg]

theorem lock_Name (s : ByteArray) (w : World) (hs : s.size ≤ 9223372036854775807) : Calls Tryz.prog 129 #[.string s] w fun e w' => e = .returned (.bool (mName s)) ∧ Kp [] w w' := by
 refine M0 Tryz.func129 (J := ?_)
 refine Mdn (s = emp) (T := fun h1 => ?_) (F := fun h1 => ?_)
 · refine Mt [.bool false] fun bs w hS => ?_
   refine ⟨?_, hS.kp⟩
   simp [retOf, den, mName, *]
 refine Md ((s.size : Int) ≤ 6) (T := fun h2 => ?_) (F := fun h2 => ?_)
 rotate_left
 · refine Mt [.bool false] fun bs w hS => ?_
   refine ⟨?_, hS.kp⟩
   simp [retOf, den, mName, *]
 refine Msy (e := 5) (by unfold maxLen; omega) (J := ?_)
 rintro fp1 y1 hF1 hok1
 refine Mp (vs := fun bs => [.slice y1.A y1.n y1.c, .func (.func 187) #[] #[]]) Tryz.call186 (fun bs w hS => has_bytes _ w (hS.res _ (.head _))) (J := ?_)
 refine Mt [.bool (!(y1.xs.any nameBad))] fun bs w hS => ?_
 refine ⟨?_, hS.kp⟩
 simp [retOf, den, mName, *]

theorem ref_NameMay (s : ByteArray) (w : World) (hs : s.size ≤ 9223372036854775807) : Calls Tryz.prog 107 #[.string s] w fun e w' => e = .returned (.bool (mName s)) ∧ Kp [] w w' := by
 refine M0 Tryz.func107 (J := ?_)
 refine Ml (σ := Nat) (fun i => i ≤ s.size ∧ ∀ j, j < i → nameBad (s.data.getD j 0) = false) (fun i => s.size - i) (fun _ => []) [3, 0] (fun i => [(3, vI (i : Int))]) (fun _ => []) 0 ⟨Nat.zero_le _, fun j hj => absurd hj (Nat.not_lt_zero _)⟩ (B := ?_)
 rintro i ⟨hi, hI⟩ _ on1
 have hu := (s.data.getD i 0).toNat_lt
 refine Md ((i : Int) < (s.size : Int)) (T := fun h1 => ?_) (F := fun h1 => ?_)
 rotate_left
 · refine Mp Tryz.call51 (fun bs w hS => ref_In (s.size : Int) 1 6 w) (J := ?_)
   refine Mt [.bool (inB (s.size : Int) 1 6)] fun bs w hS => ?_
   refine ⟨?_, hS.kp⟩
   simp only [retOf, den, List.map_cons, List.map_nil, mName_good fun j hj => hI j (by omega)]
 refine Mi (pc (pG [(12, .sidx i)] (oc (rfl : (i : Int) = (i : Int)) (oc ((by omega) : i < s.size) on))) (pc (pP (0 ≤ ((s.data.getD i 0).toNat : Int))) (pP (((s.data.getD i 0).toNat : Int) ≤ 255)))) (J := ?_)
 refine Mp Tryz.call51 (fun bs w hS => ref_In ((s.data.getD i 0).toNat : Int) 97 122 w) (J := ?_)
 refine Mbn (inB ((s.data.getD i 0).toNat : Int) 97 122) (T := fun h2 => ?_) (F := fun h2 => ?_)
 rotate_left
 · refine Mt [.bool false] fun bs w hS => ?_
   clear on1
   refine ⟨?_, hS.kp⟩
   rw [mName_bad (i := i) (by omega) (by simp only [inB, nameBad, Bool.and_eq_false_iff, Bool.or_eq_true, decide_eq_true_eq, decide_eq_false_iff_not] at *; omega)]
   rfl
 refine Mi (pR ((i : Int) + 1)) (J := ?_)
 exact on1 (i + 1) ⟨by omega, fun j hj => by rcases Nat.lt_succ_iff_lt_or_eq.1 hj with h | h; exact hI j h; subst h; simp only [inB, nameBad, Bool.and_eq_true, Bool.or_eq_false_iff, decide_eq_true_eq, decide_eq_false_iff_not] at *; omega⟩ (by omega)

theorem codec_ReadNumber (s : ByteArray) (w : World) (hs : s.size ≤ 9223372036854775807) : Calls Tryz.prog 132 #[.string s] w fun e w' => e = .returned (.tuple #[.int .i64 (mRead s).1, .string (mRead s).2.1, .int .i64 (mRead s).2.2]) ∧ Kp [] w w' := by
 refine M0 Tryz.func132 (J := ?_)
 refine Ml (σ := Nat × Int) (fun ⟨i, n⟩ => RdIn s i n) (fun ⟨i, n⟩ => 6 - i) (fun _ => []) [6, 5, 0] (fun ⟨i, n⟩ => [(6, vI (i : Int)), (5, vI n)]) (fun _ => []) (⟨0, 0⟩) (RdIn.start s) (B := ?_)
 rintro ⟨i, n⟩ hI _ on1
 have hle := hI.le
 have hsz := hI.sz
 have hlo := hI.lo
 have hhi := hI.hi
 have hu := (s.data.getD i 0).toNat_lt
 have hbt := and127_bd (s.data.getD i 0)
 refine Md ((i : Int) < 6) (T := fun h1 => ?_) (F := fun h1 => ?_)
 rotate_left
 · refine Mt [.int .i64 0, .string emp, .int .i64 4] fun bs w hS => ?_
   refine ⟨?_, hS.kp⟩
   rw [hI.out (by omega)]
   simp only [retOf, den, List.map_cons, List.map_nil]
 refine Md ((i : Int) = (s.size : Int)) (T := fun h2 => ?_) (F := fun h2 => ?_)
 · refine Mt [.int .i64 0, .string emp, .int .i64 5] fun bs w hS => ?_
   refine ⟨?_, hS.kp⟩
   rw [hI.short (by omega) (by omega)]
   simp only [retOf, den, List.map_cons, List.map_nil]
 refine Mi (pc (pG [(18, .sidx i)] (oc (rfl : (i : Int) = (i : Int)) (oc ((by omega) : i < s.size) on))) (pc (pP (0 ≤ (bits .and .u8 ((s.data.getD i 0).toNat : Int) 127))) (pc (pP ((bits .and .u8 ((s.data.getD i 0).toNat : Int) 127) ≤ 255)) (pc (pR ((7 : Int) * (i : Int))) (pc (pP ((0 : Int) ≤ (7 : Int) * (i : Int))) (pc (pP ((7 : Int) * (i : Int) ≤ (64 : Int))) (pG [(27, .sidx i)] (oc (rfl : (i : Int) = (i : Int)) (oc ((by omega) : i < s.size) on))))))))) (J := ?_)
 refine Md ((128 : Int) ≤ ((s.data.getD i 0).toNat : Int)) (T := fun h3 => ?_) (F := fun h3 => ?_)
 · refine Mi (pR ((i : Int) + 1)) (J := ?_)
   exact on1 (⟨i + 1, bits .or .i64 n (IntKind.i64.wrap ((bits .and .u8 ((s.data.getD i 0).toNat : Int) 127) * 2 ^ ((7 : Int) * (i : Int) : Int).toNat))⟩ : Nat × Int) (by show RdIn s (i + 1) _; rw [or_shift s i n hI.lo hI.hi (by omega)]; exact hI.step (by omega) (by omega) (by omega)) (by show 6 - (i + 1) < 6 - i; omega)
 refine Mi (pG [(31, .sidx i)] (oc (rfl : (i : Int) = (i : Int)) (oc ((by omega) : i < s.size) on))) (J := ?_)
 refine Md (((s.data.getD i 0).toNat : Int) = 0) (T := fun h4 => ?_) (F := fun h4 => ?_)
 rotate_left
 · refine Md ((1099511627776 : Int) < bits .or .i64 n (IntKind.i64.wrap ((bits .and .u8 ((s.data.getD i 0).toNat : Int) 127) * 2 ^ ((7 : Int) * (i : Int) : Int).toNat))) (T := fun h7 => ?_) (F := fun h7 => ?_)
   · refine Mt [.int .i64 0, .string emp, .int .i64 4] fun bs w hS => ?_
     refine ⟨?_, hS.kp⟩
     have hor := or_shift s i n hI.lo hI.hi (by omega)
     try rw [hor] at h7
     try rw [hor]
     rw [hI.last (by omega) (by omega) (by omega), if_pos (by omega)]
     simp only [retOf, den, List.map_cons, List.map_nil]
   refine Mda 8 [] [] [] Tryz_mixed (J := ?_)
   refine Mih (pc (pR ((i : Int) + 1)) (pG [(45, .sl (i + 1) s.size)] (oc ((by omega) : (i : Int) + 1 = (((i + 1) : Nat) : Int)) (oc (rfl : s.size = s.size) (oc ((by omega) : (i + 1) ≤ s.size) on))))) (J := ?_)
   refine Mt [.int .i64 (bits .or .i64 n (IntKind.i64.wrap ((bits .and .u8 ((s.data.getD i 0).toNat : Int) 127) * 2 ^ ((7 : Int) * (i : Int) : Int).toNat))), .string (s.extract (i + 1) s.size), .int .i64 0] fun bs w hS => ?_
   refine ⟨?_, hS.kp⟩
   have hor := or_shift s i n hI.lo hI.hi (by omega)
   try rw [hor] at h7
   try rw [hor]
   rw [hI.last (by omega) (by omega) (by omega), if_neg (by omega)]
   simp only [retOf, den, List.map_cons, List.map_nil]
 refine Md ((0 : Int) < (i : Int)) (T := fun h5 => ?_) (F := fun h5 => ?_)
 · refine Mt [.int .i64 0, .string emp, .int .i64 4] fun bs w hS => ?_
   refine ⟨?_, hS.kp⟩
   have hor := or_shift s i n hI.lo hI.hi (by omega)
   try rw [hor] at h5
   try rw [hor]
   rw [hI.last (by omega) (by omega) (by omega), if_pos (by omega)]
   simp only [retOf, den, List.map_cons, List.map_nil]
 refine Md ((1099511627776 : Int) < bits .or .i64 n (IntKind.i64.wrap ((bits .and .u8 ((s.data.getD i 0).toNat : Int) 127) * 2 ^ ((7 : Int) * (i : Int) : Int).toNat))) (T := fun h6 => ?_) (F := fun h6 => ?_)
 · refine Mt [.int .i64 0, .string emp, .int .i64 4] fun bs w hS => ?_
   refine ⟨?_, hS.kp⟩
   have hor := or_shift s i n hI.lo hI.hi (by omega)
   try rw [hor] at h6
   try rw [hor]
   rw [hI.last (by omega) (by omega) (by omega), if_pos (by omega)]
   simp only [retOf, den, List.map_cons, List.map_nil]
 refine Mda 8 [] [] [] Tryz_mixed (J := ?_)
 refine Mih (pc (pR ((i : Int) + 1)) (pG [(45, .sl (i + 1) s.size)] (oc ((by omega) : (i : Int) + 1 = (((i + 1) : Nat) : Int)) (oc (rfl : s.size = s.size) (oc ((by omega) : (i + 1) ≤ s.size) on))))) (J := ?_)
 refine Mt [.int .i64 (bits .or .i64 n (IntKind.i64.wrap ((bits .and .u8 ((s.data.getD i 0).toNat : Int) 127) * 2 ^ ((7 : Int) * (i : Int) : Int).toNat))), .string (s.extract (i + 1) s.size), .int .i64 0] fun bs w hS => ?_
 refine ⟨?_, hS.kp⟩
 have hor := or_shift s i n hI.lo hI.hi (by omega)
 try rw [hor] at h6
 try rw [hor]
 rw [hI.last (by omega) (by omega) (by omega), if_neg (by omega)]
 simp only [retOf, den, List.map_cons, List.map_nil]

theorem ref_NumberOf (s : ByteArray) (w : World) (hs : s.size ≤ 9223372036854775807) : Calls Tryz.prog 95 #[.string s] w fun e w' => e = .returned (.tuple #[.int .i64 (mRead s).1, .string (mRead s).2.1, .int .i64 (mRead s).2.2]) ∧ Kp [] w w' := by
 refine M0 Tryz.func95 (J := ?_)
 refine Ml (σ := Nat × Int) (fun ⟨i, n⟩ => RdIn s i n) (fun ⟨i, n⟩ => 6 - i) (fun _ => []) [7, 6, 5, 0] (fun ⟨i, n⟩ => [(7, vI (i : Int)), (6, vI ((128 : Int) ^ i)), (5, vI n)]) (fun _ => []) (⟨0, 0⟩) (RdIn.start s) (B := ?_)
 rintro ⟨i, n⟩ hI _ on1
 have hle := hI.le
 have hsz := hI.sz
 have hlo := hI.lo
 have hhi := hI.hi
 have hu := (s.data.getD i 0).toNat_lt
 have hbt := unit_bd (s.data.getD i 0) i hle
 refine Md ((i : Int) < 6) (T := fun h1 => ?_) (F := fun h1 => ?_)
 rotate_left
 · refine Mt [.int .i64 0, .string emp, .int .i64 4] fun bs w hS => ?_
   refine ⟨?_, hS.kp⟩
   rw [hI.out (by omega)]
   simp only [retOf, den, List.map_cons, List.map_nil]
 refine Md ((s.size : Int) ≤ (i : Int)) (T := fun h2 => ?_) (F := fun h2 => ?_)
 · refine Mt [.int .i64 0, .string emp, .int .i64 5] fun bs w hS => ?_
   refine ⟨?_, hS.kp⟩
   rw [hI.short (by omega) (by omega)]
   simp only [retOf, den, List.map_cons, List.map_nil]
 refine Mi (pc (pG [(20, .sidx i)] (oc (rfl : (i : Int) = (i : Int)) (oc ((by omega) : i < s.size) on))) (pc (pP (0 ≤ ((s.data.getD i 0).toNat : Int))) (pc (pP (((s.data.getD i 0).toNat : Int) ≤ 255)) (pc (pP (0 ≤ ((s.data.getD i 0).toNat : Int))) (pc (pP ((0 : Int) < 128)) (pc (pR (((128 : Int) ^ i) * (((s.data.getD i 0).toNat : Int) % 128))) (pc (pR (n + (((128 : Int) ^ i) * (((s.data.getD i 0).toNat : Int) % 128)))) (pc (pR (((128 : Int) ^ i) * 128)) (pG [(29, .sidx i)] (oc (rfl : (i : Int) = (i : Int)) (oc ((by omega) : i < s.size) on))))))))))) (J := ?_)
 refine Md (((s.data.getD i 0).toNat : Int) < 128) (T := fun h3 => ?_) (F := fun h3 => ?_)
 rotate_left
 · refine Mi (pR ((i : Int) + 1)) (J := ?_)
   exact on1 (⟨i + 1, n + (((128 : Int) ^ i) * (((s.data.getD i 0).toNat : Int) % 128))⟩ : Nat × Int) (hI.step (by omega) (by omega) (by omega)) (by show 6 - (i + 1) < 6 - i; omega) (hp := (by simp only [Int.pow_succ]; kernel_rfl))
 refine Md ((0 : Int) < (i : Int)) (T := fun h4 => ?_) (F := fun h4 => ?_)
 rotate_left
 · refine Md ((1099511627776 : Int) < n + (((128 : Int) ^ i) * (((s.data.getD i 0).toNat : Int) % 128))) (T := fun h7 => ?_) (F := fun h7 => ?_)
   · refine Mt [.int .i64 0, .string emp, .int .i64 4] fun bs w hS => ?_
     refine ⟨?_, hS.kp⟩
     rw [hI.last (by omega) (by omega) (by omega), if_pos (by omega)]
     simp only [retOf, den, List.map_cons, List.map_nil]
   refine Mda 8 [] [] [] Tryz_mixed (J := ?_)
   refine Mih (pc (pR ((i : Int) + 1)) (pG [(47, .sl (i + 1) s.size)] (oc ((by omega) : (i : Int) + 1 = (((i + 1) : Nat) : Int)) (oc (rfl : s.size = s.size) (oc ((by omega) : (i + 1) ≤ s.size) on))))) (J := ?_)
   refine Mt [.int .i64 (n + (((128 : Int) ^ i) * (((s.data.getD i 0).toNat : Int) % 128))), .string (s.extract (i + 1) s.size), .int .i64 0] fun bs w hS => ?_
   refine ⟨?_, hS.kp⟩
   rw [hI.last (by omega) (by omega) (by omega), if_neg (by omega)]
   simp only [retOf, den, List.map_cons, List.map_nil]
 refine Mi (pG [(36, .sidx i)] (oc (rfl : (i : Int) = (i : Int)) (oc ((by omega) : i < s.size) on))) (J := ?_)
 refine Md (((s.data.getD i 0).toNat : Int) = 0) (T := fun h5 => ?_) (F := fun h5 => ?_)
 · refine Mt [.int .i64 0, .string emp, .int .i64 4] fun bs w hS => ?_
   refine ⟨?_, hS.kp⟩
   rw [hI.last (by omega) (by omega) (by omega), if_pos (by omega)]
   simp only [retOf, den, List.map_cons, List.map_nil]
 refine Md ((1099511627776 : Int) < n + (((128 : Int) ^ i) * (((s.data.getD i 0).toNat : Int) % 128))) (T := fun h6 => ?_) (F := fun h6 => ?_)
 · refine Mt [.int .i64 0, .string emp, .int .i64 4] fun bs w hS => ?_
   refine ⟨?_, hS.kp⟩
   rw [hI.last (by omega) (by omega) (by omega), if_pos (by omega)]
   simp only [retOf, den, List.map_cons, List.map_nil]
 refine Mda 8 [] [] [] Tryz_mixed (J := ?_)
 refine Mih (pc (pR ((i : Int) + 1)) (pG [(47, .sl (i + 1) s.size)] (oc ((by omega) : (i : Int) + 1 = (((i + 1) : Nat) : Int)) (oc (rfl : s.size = s.size) (oc ((by omega) : (i + 1) ≤ s.size) on))))) (J := ?_)
 refine Mt [.int .i64 (n + (((128 : Int) ^ i) * (((s.data.getD i 0).toNat : Int) % 128))), .string (s.extract (i + 1) s.size), .int .i64 0] fun bs w hS => ?_
 refine ⟨?_, hS.kp⟩
 rw [hI.last (by omega) (by omega) (by omega), if_neg (by omega)]
 simp only [retOf, den, List.map_cons, List.map_nil]

theorem codec_ReadText (s : ByteArray) (w : World) (hs : s.size ≤ 9223372036854775807) : Calls Tryz.prog 133 #[.string s] w fun e w' => e = .returned (.tuple #[.string (mTell s).1, .string (mTell s).2.1, .int .i64 (mTell s).2.2]) ∧ Kp [] w w' := by
 have hb := mRead_bd s
 refine M0 Tryz.func133 (J := ?_)
 refine Mp (vs := fun bs => [.string s]) Tryz.call132 (fun bs w hS => codec_ReadNumber _ w (by first | assumption | omega | (simp only [emp_size]; omega))) (J := ?_)
 refine Mdn ((mRead s).2.2 = 0) (T := fun h1 => ?_) (F := fun h1 => ?_)
 rotate_left
 · refine Mt [.string emp, .string emp, .int .i64 (mRead s).2.2] fun bs w hS => ?_
   refine ⟨?_, hS.kp⟩
   simp only [retOf, den, List.map_cons, List.map_nil]
   unfold mTell
   try simp only [h1, emp_size, ne_eq, not_true_eq_false, not_false_eq_true, true_or, or_true, false_or, or_false, and_true, true_and, and_false, false_and, and_self, or_self, if_true, if_false, Bool.true_eq_false, Bool.false_eq_true, reduceIte, Classical.not_not, Bool.and_eq_true, decide_eq_true_eq]
   repeat (first | rw [if_pos (by omega)] | rw [if_neg (by omega)])
   all_goals first | rfl | (exfalso; omega)
 refine Md ((5000 : Int) < (mRead s).1) (T := fun h2 => ?_) (F := fun h2 => ?_)
 · refine Mt [.string emp, .string emp, .int .i64 1] fun bs w hS => ?_
   refine ⟨?_, hS.kp⟩
   simp only [retOf, den, List.map_cons, List.map_nil]
   unfold mTell
   try simp only [h1, h2, emp_size, ne_eq, not_true_eq_false, not_false_eq_true, true_or, or_true, false_or, or_false, and_true, true_and, and_false, false_and, and_self, or_self, if_true, if_false, Bool.true_eq_false, Bool.false_eq_true, reduceIte, Classical.not_not, Bool.and_eq_true, decide_eq_true_eq]
   repeat (first | rw [if_pos (by omega)] | rw [if_neg (by omega)])
   all_goals first | rfl | (exfalso; omega)
 refine Md (((mRead s).2.1.size : Int) < (mRead s).1) (T := fun h3 => ?_) (F := fun h3 => ?_)
 · refine Mt [.string emp, .string emp, .int .i64 5] fun bs w hS => ?_
   refine ⟨?_, hS.kp⟩
   simp only [retOf, den, List.map_cons, List.map_nil]
   unfold mTell
   try simp only [h1, h2, h3, emp_size, ne_eq, not_true_eq_false, not_false_eq_true, true_or, or_true, false_or, or_false, and_true, true_and, and_false, false_and, and_self, or_self, if_true, if_false, Bool.true_eq_false, Bool.false_eq_true, reduceIte, Classical.not_not, Bool.and_eq_true, decide_eq_true_eq]
   repeat (first | rw [if_pos (by omega)] | rw [if_neg (by omega)])
   all_goals first | rfl | (exfalso; omega)
 refine Mda 9 [] [] [] Tryz_mixed (J := ?_)
 refine Mih (pc (pG [(25, .sl 0 (mRead s).1.toNat)] (oc (rfl : 0 = 0) (oc ((by omega) : (mRead s).1 = (((mRead s).1.toNat : Nat) : Int)) (oc ((by omega) : (mRead s).1.toNat ≤ (mRead s).2.1.size) on)))) (pG [(28, .sl (mRead s).1.toNat (mRead s).2.1.size)] (oc ((by omega) : (mRead s).1 = (((mRead s).1.toNat : Nat) : Int)) (oc (rfl : (mRead s).2.1.size = (mRead s).2.1.size) (oc ((by omega) : (mRead s).1.toNat ≤ (mRead s).2.1.size) on))))) (J := ?_)
 refine Mt [.string ((mRead s).2.1.extract 0 (mRead s).1.toNat), .string ((mRead s).2.1.extract (mRead s).1.toNat (mRead s).2.1.size), .int .i64 0] fun bs w hS => ?_
 refine ⟨?_, hS.kp⟩
 simp only [retOf, den, List.map_cons, List.map_nil]
 unfold mTell
 try simp only [h1, h2, h3, emp_size, ne_eq, not_true_eq_false, not_false_eq_true, true_or, or_true, false_or, or_false, and_true, true_and, and_false, false_and, and_self, or_self, if_true, if_false, Bool.true_eq_false, Bool.false_eq_true, reduceIte, Classical.not_not, Bool.and_eq_true, decide_eq_true_eq]
 repeat (first | rw [if_pos (by omega)] | rw [if_neg (by omega)])
 all_goals first | rfl | (exfalso; omega)

theorem ref_TextOf (s : ByteArray) (w : World) (hs : s.size ≤ 9223372036854775807) : Calls Tryz.prog 96 #[.string s] w fun e w' => e = .returned (.tuple #[.string (mTell s).1, .string (mTell s).2.1, .int .i64 (mTell s).2.2]) ∧ Kp [] w w' := by
 have hb := mRead_bd s
 refine M0 Tryz.func96 (J := ?_)
 refine Mp (vs := fun bs => [.string s]) Tryz.call95 (fun bs w hS => ref_NumberOf _ w (by first | assumption | omega | (simp only [emp_size]; omega))) (J := ?_)
 refine Md ((mRead s).2.2 = 0) (T := fun h1 => ?_) (F := fun h1 => ?_)
 rotate_left
 · refine Md ((mRead s).2.2 = 0) (T := fun h6 => ?_) (F := fun h6 => ?_)
   · exact absurd h6 h1
   refine Mdn ((mRead s).2.2 = 0) (T := fun h7 => ?_) (F := fun h7 => ?_)
   · exact absurd h7 h1
   refine Mt [.string emp, .string emp, .int .i64 (mRead s).2.2] fun bs w hS => ?_
   refine ⟨?_, hS.kp⟩
   simp only [retOf, den, List.map_cons, List.map_nil]
   unfold mTell
   try simp only [h1, h6, h7, emp_size, ne_eq, not_true_eq_false, not_false_eq_true, true_or, or_true, false_or, or_false, and_true, true_and, and_false, false_and, and_self, or_self, if_true, if_false, Bool.true_eq_false, Bool.false_eq_true, reduceIte, Classical.not_not, Bool.and_eq_true, decide_eq_true_eq]
   repeat (first | rw [if_pos (by omega)] | rw [if_neg (by omega)])
   all_goals first | rfl | (exfalso; omega)
 refine Md ((5000 : Int) < (mRead s).1) (T := fun h2 => ?_) (F := fun h2 => ?_)
 · refine Mq 22 false rfl (J := ?_)
   refine Mq 29 true rfl (J := ?_)
   refine Mt [.string emp, .string emp, .int .i64 1] fun bs w hS => ?_
   refine ⟨?_, hS.kp⟩
   simp only [retOf, den, List.map_cons, List.map_nil]
   unfold mTell
   try simp only [h1, h2, emp_size, ne_eq, not_true_eq_false, not_false_eq_true, true_or, or_true, false_or, or_false, and_true, true_and, and_false, false_and, and_self, or_self, if_true, if_false, Bool.true_eq_false, Bool.false_eq_true, reduceIte, Classical.not_not, Bool.and_eq_true, decide_eq_true_eq]
   repeat (first | rw [if_pos (by omega)] | rw [if_neg (by omega)])
   all_goals first | rfl | (exfalso; omega)
 refine Md ((mRead s).2.2 = 0) (T := fun h3 => ?_) (F := fun h3 => ?_)
 rotate_left
 · exact absurd h1 h3
 refine Md (((mRead s).2.1.size : Int) < (mRead s).1) (T := fun h4 => ?_) (F := fun h4 => ?_)
 · refine Mq 29 true rfl (J := ?_)
   refine Mt [.string emp, .string emp, .int .i64 5] fun bs w hS => ?_
   refine ⟨?_, hS.kp⟩
   simp only [retOf, den, List.map_cons, List.map_nil]
   unfold mTell
   try simp only [h1, h2, h3, h4, emp_size, ne_eq, not_true_eq_false, not_false_eq_true, true_or, or_true, false_or, or_false, and_true, true_and, and_false, false_and, and_self, or_self, if_true, if_false, Bool.true_eq_false, Bool.false_eq_true, reduceIte, Classical.not_not, Bool.and_eq_true, decide_eq_true_eq]
   repeat (first | rw [if_pos (by omega)] | rw [if_neg (by omega)])
   all_goals first | rfl | (exfalso; omega)
 refine Mdn ((mRead s).2.2 = 0) (T := fun h5 => ?_) (F := fun h5 => ?_)
 rotate_left
 · exact absurd h1 h5
 refine Mda 9 [] [] [] Tryz_mixed (J := ?_)
 refine Mih (pc (pG [(33, .sl 0 (mRead s).1.toNat)] (oc (rfl : 0 = 0) (oc ((by omega) : (mRead s).1 = (((mRead s).1.toNat : Nat) : Int)) (oc ((by omega) : (mRead s).1.toNat ≤ (mRead s).2.1.size) on)))) (pG [(36, .sl (mRead s).1.toNat (mRead s).2.1.size)] (oc ((by omega) : (mRead s).1 = (((mRead s).1.toNat : Nat) : Int)) (oc (rfl : (mRead s).2.1.size = (mRead s).2.1.size) (oc ((by omega) : (mRead s).1.toNat ≤ (mRead s).2.1.size) on))))) (J := ?_)
 refine Mt [.string ((mRead s).2.1.extract 0 (mRead s).1.toNat), .string ((mRead s).2.1.extract (mRead s).1.toNat (mRead s).2.1.size), .int .i64 0] fun bs w hS => ?_
 refine ⟨?_, hS.kp⟩
 simp only [retOf, den, List.map_cons, List.map_nil]
 unfold mTell
 try simp only [h1, h2, h3, h4, h5, emp_size, ne_eq, not_true_eq_false, not_false_eq_true, true_or, or_true, false_or, or_false, and_true, true_and, and_false, false_and, and_self, or_self, if_true, if_false, Bool.true_eq_false, Bool.false_eq_true, reduceIte, Classical.not_not, Bool.and_eq_true, decide_eq_true_eq]
 repeat (first | rw [if_pos (by omega)] | rw [if_neg (by omega)])
 all_goals first | rfl | (exfalso; omega)

theorem command_CheckOp {B : Nat → Prop} (x : DOp) (w : World) (hx : Rds.sub B w x) : Calls Tryz.prog 134 #[.agg #[.int .i64 x.kind, .string x.a, .string x.b, .int .i64 x.n]] w fun e w' => e = .returned (.int .i64 (mOp x)) ∧ Kp [] w w' := by
 have okx := Rds.okof hx
 refine M0 Tryz.func134 (J := ?_)
 refine Md (x.kind < 1) (T := fun h1 => ?_) (F := fun h1 => ?_)
 · refine Mt [.int .i64 3] fun bs w hS => ?_
   refine ⟨?_, hS.kp⟩
   simp only [retOf, den, List.map_cons, List.map_nil]
   unfold mOp
   try simp only [h1, emp_size, ne_eq, not_true_eq_false, not_false_eq_true, true_or, or_true, false_or, or_false, and_true, true_and, and_false, false_and, and_self, or_self, if_true, if_false, Bool.true_eq_false, Bool.false_eq_true, reduceIte, Classical.not_not, Bool.and_eq_true, decide_eq_true_eq]
   repeat (first | rw [if_pos (by omega)] | rw [if_neg (by omega)])
   all_goals first | rfl | (exfalso; omega)
 refine Md ((6 : Int) < x.kind) (T := fun h2 => ?_) (F := fun h2 => ?_)
 · refine Mt [.int .i64 3] fun bs w hS => ?_
   refine ⟨?_, hS.kp⟩
   simp only [retOf, den, List.map_cons, List.map_nil]
   unfold mOp
   try simp only [h1, h2, emp_size, ne_eq, not_true_eq_false, not_false_eq_true, true_or, or_true, false_or, or_false, and_true, true_and, and_false, false_and, and_self, or_self, if_true, if_false, Bool.true_eq_false, Bool.false_eq_true, reduceIte, Classical.not_not, Bool.and_eq_true, decide_eq_true_eq]
   repeat (first | rw [if_pos (by omega)] | rw [if_neg (by omega)])
   all_goals first | rfl | (exfalso; omega)
 refine Mp (vs := fun bs => [.string x.a]) Tryz.call129 (fun bs w hS => lock_Name _ w (And.left okx)) (J := ?_)
 refine Mbn (mName x.a) (T := fun h3 => ?_) (F := fun h3 => ?_)
 rotate_left
 · refine Mt [.int .i64 4] fun bs w hS => ?_
   refine ⟨?_, hS.kp⟩
   simp only [retOf, den, List.map_cons, List.map_nil]
   unfold mOp
   try simp only [h1, h2, h3, emp_size, ne_eq, not_true_eq_false, not_false_eq_true, true_or, or_true, false_or, or_false, and_true, true_and, and_false, false_and, and_self, or_self, if_true, if_false, Bool.true_eq_false, Bool.false_eq_true, reduceIte, Classical.not_not, Bool.and_eq_true, decide_eq_true_eq]
   repeat (first | rw [if_pos (by omega)] | rw [if_neg (by omega)])
   all_goals first | rfl | (exfalso; omega)
 refine Mdn (x.kind = 5) (T := fun h4 => ?_) (F := fun h4 => ?_)
 · refine Md ((12 : Int) < (x.b.size : Int)) (T := fun h5 => ?_) (F := fun h5 => ?_)
   · refine Mt [.int .i64 1] fun bs w hS => ?_
     refine ⟨?_, hS.kp⟩
     simp only [retOf, den, List.map_cons, List.map_nil]
     unfold mOp
     try simp only [h1, h2, h3, h4, h5, emp_size, ne_eq, not_true_eq_false, not_false_eq_true, true_or, or_true, false_or, or_false, and_true, true_and, and_false, false_and, and_self, or_self, if_true, if_false, Bool.true_eq_false, Bool.false_eq_true, reduceIte, Classical.not_not, Bool.and_eq_true, decide_eq_true_eq]
     repeat (first | rw [if_pos (by omega)] | rw [if_neg (by omega)])
     all_goals first | rfl | (exfalso; omega)
   refine Md (x.kind = 5) (T := fun h6 => ?_) (F := fun h6 => ?_)
   rotate_left
   · exact absurd h4 h6
   refine Md (x.n < 1) (T := fun h7 => ?_) (F := fun h7 => ?_)
   · refine Mt [.int .i64 2] fun bs w hS => ?_
     refine ⟨?_, hS.kp⟩
     simp only [retOf, den, List.map_cons, List.map_nil]
     unfold mOp
     try simp only [h1, h2, h3, h4, h5, h6, h7, emp_size, ne_eq, not_true_eq_false, not_false_eq_true, true_or, or_true, false_or, or_false, and_true, true_and, and_false, false_and, and_self, or_self, if_true, if_false, Bool.true_eq_false, Bool.false_eq_true, reduceIte, Classical.not_not, Bool.and_eq_true, decide_eq_true_eq]
     repeat (first | rw [if_pos (by omega)] | rw [if_neg (by omega)])
     all_goals first | rfl | (exfalso; omega)
   refine Md ((1073741824 : Int) < x.n) (T := fun h8 => ?_) (F := fun h8 => ?_)
   · refine Mt [.int .i64 2] fun bs w hS => ?_
     refine ⟨?_, hS.kp⟩
     simp only [retOf, den, List.map_cons, List.map_nil]
     unfold mOp
     try simp only [h1, h2, h3, h4, h5, h6, h7, h8, emp_size, ne_eq, not_true_eq_false, not_false_eq_true, true_or, or_true, false_or, or_false, and_true, true_and, and_false, false_and, and_self, or_self, if_true, if_false, Bool.true_eq_false, Bool.false_eq_true, reduceIte, Classical.not_not, Bool.and_eq_true, decide_eq_true_eq]
     repeat (first | rw [if_pos (by omega)] | rw [if_neg (by omega)])
     all_goals first | rfl | (exfalso; omega)
   refine Mdn (x.kind = 5) (T := fun h9 => ?_) (F := fun h9 => ?_)
   rotate_left
   · exact absurd h4 h9
   refine Mt [.int .i64 0] fun bs w hS => ?_
   refine ⟨?_, hS.kp⟩
   simp only [retOf, den, List.map_cons, List.map_nil]
   unfold mOp
   try simp only [h1, h2, h3, h4, h5, h6, h7, h8, h9, emp_size, ne_eq, not_true_eq_false, not_false_eq_true, true_or, or_true, false_or, or_false, and_true, true_and, and_false, false_and, and_self, or_self, if_true, if_false, Bool.true_eq_false, Bool.false_eq_true, reduceIte, Classical.not_not, Bool.and_eq_true, decide_eq_true_eq]
   repeat (first | rw [if_pos (by omega)] | rw [if_neg (by omega)])
   all_goals first | rfl | (exfalso; omega)
 refine Mdn (x.b = emp) (T := fun h10 => ?_) (F := fun h10 => ?_)
 rotate_left
 · refine Mt [.int .i64 4] fun bs w hS => ?_
   refine ⟨?_, hS.kp⟩
   simp only [retOf, den, List.map_cons, List.map_nil]
   unfold mOp
   try simp only [h1, h2, h3, h4, h10, emp_size, ne_eq, not_true_eq_false, not_false_eq_true, true_or, or_true, false_or, or_false, and_true, true_and, and_false, false_and, and_self, or_self, if_true, if_false, Bool.true_eq_false, Bool.false_eq_true, reduceIte, Classical.not_not, Bool.and_eq_true, decide_eq_true_eq]
   repeat (first | rw [if_pos (by omega)] | rw [if_neg (by omega)])
   all_goals first | rfl | (exfalso; omega)
 have hzh10 : x.b.size = 0 := by rw [h10]; rfl
 refine Md ((12 : Int) < (x.b.size : Int)) (T := fun h11 => ?_) (F := fun h11 => ?_)
 · refine Mt [.int .i64 1] fun bs w hS => ?_
   refine ⟨?_, hS.kp⟩
   simp only [retOf, den, List.map_cons, List.map_nil]
   unfold mOp
   try simp only [h1, h2, h3, h4, h10, h11, emp_size, ne_eq, not_true_eq_false, not_false_eq_true, true_or, or_true, false_or, or_false, and_true, true_and, and_false, false_and, and_self, or_self, if_true, if_false, Bool.true_eq_false, Bool.false_eq_true, reduceIte, Classical.not_not, Bool.and_eq_true, decide_eq_true_eq]
   repeat (first | rw [if_pos (by omega)] | rw [if_neg (by omega)])
   all_goals first | rfl | (exfalso; omega)
 refine Md (x.kind = 5) (T := fun h12 => ?_) (F := fun h12 => ?_)
 · exact absurd h12 h4
 refine Mdn (x.kind = 5) (T := fun h13 => ?_) (F := fun h13 => ?_)
 · exact absurd h13 h4
 refine Mdn (x.n = 0) (T := fun h14 => ?_) (F := fun h14 => ?_)
 · refine Mt [.int .i64 0] fun bs w hS => ?_
   refine ⟨?_, hS.kp⟩
   simp only [retOf, den, List.map_cons, List.map_nil]
   unfold mOp
   try simp only [h1, h2, h3, h4, h10, h11, h12, h13, h14, emp_size, ne_eq, not_true_eq_false, not_false_eq_true, true_or, or_true, false_or, or_false, and_true, true_and, and_false, false_and, and_self, or_self, if_true, if_false, Bool.true_eq_false, Bool.false_eq_true, reduceIte, Classical.not_not, Bool.and_eq_true, decide_eq_true_eq]
   repeat (first | rw [if_pos (by omega)] | rw [if_neg (by omega)])
   all_goals first | rfl | (exfalso; omega)
 refine Mt [.int .i64 2] fun bs w hS => ?_
 refine ⟨?_, hS.kp⟩
 simp only [retOf, den, List.map_cons, List.map_nil]
 unfold mOp
 try simp only [h1, h2, h3, h4, h10, h11, h12, h13, h14, emp_size, ne_eq, not_true_eq_false, not_false_eq_true, true_or, or_true, false_or, or_false, and_true, true_and, and_false, false_and, and_self, or_self, if_true, if_false, Bool.true_eq_false, Bool.false_eq_true, reduceIte, Classical.not_not, Bool.and_eq_true, decide_eq_true_eq]
 repeat (first | rw [if_pos (by omega)] | rw [if_neg (by omega)])
 all_goals first | rfl | (exfalso; omega)

theorem ref_OpFault {B : Nat → Prop} (x : DOp) (w : World) (hx : Rds.sub B w x) : Calls Tryz.prog 155 #[.agg #[.int .i64 x.kind, .string x.a, .string x.b, .int .i64 x.n]] w fun e w' => e = .returned (.int .i64 (mOp x)) ∧ Kp [] w w' := by
 have okx := Rds.okof hx
 refine M0 Tryz.func155 (J := ?_)
 refine Mp Tryz.call51 (fun bs w hS => ref_In x.kind 1 6 w) (J := ?_)
 refine Mbn (inB x.kind 1 6) (T := fun h1 => ?_) (F := fun h1 => ?_)
 rotate_left
 · simp only [inB, Bool.and_eq_true, Bool.and_eq_false_iff, decide_eq_true_eq, decide_eq_false_iff_not] at h1
   refine Mt [.int .i64 3] fun bs w hS => ?_
   refine ⟨?_, hS.kp⟩
   simp only [retOf, den, List.map_cons, List.map_nil]
   unfold mOp
   try simp only [h1, emp_size, ne_eq, not_true_eq_false, not_false_eq_true, true_or, or_true, false_or, or_false, and_true, true_and, and_false, false_and, and_self, or_self, if_true, if_false, Bool.true_eq_false, Bool.false_eq_true, reduceIte, Classical.not_not, Bool.and_eq_true, decide_eq_true_eq]
   repeat (first | rw [if_pos (by omega)] | rw [if_neg (by omega)])
   all_goals first | rfl | (exfalso; omega)
 simp only [inB, Bool.and_eq_true, Bool.and_eq_false_iff, decide_eq_true_eq, decide_eq_false_iff_not] at h1
 refine Mp (vs := fun bs => [.string x.a]) Tryz.call107 (fun bs w hS => ref_NameMay _ w (And.left okx)) (J := ?_)
 refine Mbn (mName x.a) (T := fun h2 => ?_) (F := fun h2 => ?_)
 rotate_left
 · refine Mt [.int .i64 4] fun bs w hS => ?_
   refine ⟨?_, hS.kp⟩
   simp only [retOf, den, List.map_cons, List.map_nil]
   unfold mOp
   try simp only [h1, h2, emp_size, ne_eq, not_true_eq_false, not_false_eq_true, true_or, or_true, false_or, or_false, and_true, true_and, and_false, false_and, and_self, or_self, if_true, if_false, Bool.true_eq_false, Bool.false_eq_true, reduceIte, Classical.not_not, Bool.and_eq_true, decide_eq_true_eq]
   repeat (first | rw [if_pos (by omega)] | rw [if_neg (by omega)])
   all_goals first | rfl | (exfalso; omega)
 refine Mdn (x.b = emp) (T := fun h3 => ?_) (F := fun h3 => ?_)
 rotate_left
 · refine Mdn (x.kind = 5) (T := fun h8 => ?_) (F := fun h8 => ?_)
   rotate_left
   · refine Mt [.int .i64 4] fun bs w hS => ?_
     refine ⟨?_, hS.kp⟩
     simp only [retOf, den, List.map_cons, List.map_nil]
     unfold mOp
     try simp only [h1, h2, h3, h8, emp_size, ne_eq, not_true_eq_false, not_false_eq_true, true_or, or_true, false_or, or_false, and_true, true_and, and_false, false_and, and_self, or_self, if_true, if_false, Bool.true_eq_false, Bool.false_eq_true, reduceIte, Classical.not_not, Bool.and_eq_true, decide_eq_true_eq]
     repeat (first | rw [if_pos (by omega)] | rw [if_neg (by omega)])
     all_goals first | rfl | (exfalso; omega)
   refine Md ((12 : Int) < (x.b.size : Int)) (T := fun h9 => ?_) (F := fun h9 => ?_)
   · refine Mt [.int .i64 1] fun bs w hS => ?_
     refine ⟨?_, hS.kp⟩
     simp only [retOf, den, List.map_cons, List.map_nil]
     unfold mOp
     try simp only [h1, h2, h3, h8, h9, emp_size, ne_eq, not_true_eq_false, not_false_eq_true, true_or, or_true, false_or, or_false, and_true, true_and, and_false, false_and, and_self, or_self, if_true, if_false, Bool.true_eq_false, Bool.false_eq_true, reduceIte, Classical.not_not, Bool.and_eq_true, decide_eq_true_eq]
     repeat (first | rw [if_pos (by omega)] | rw [if_neg (by omega)])
     all_goals first | rfl | (exfalso; omega)
   refine Md (x.kind = 5) (T := fun h10 => ?_) (F := fun h10 => ?_)
   rotate_left
   · exact absurd h8 h10
   refine Mp Tryz.call51 (fun bs w hS => ref_In x.n 1 1073741824 w) (J := ?_)
   refine Mbn (inB x.n 1 1073741824) (T := fun h11 => ?_) (F := fun h11 => ?_)
   · simp only [inB, Bool.and_eq_true, Bool.and_eq_false_iff, decide_eq_true_eq, decide_eq_false_iff_not] at h11
     refine Mt [.int .i64 0] fun bs w hS => ?_
     refine ⟨?_, hS.kp⟩
     simp only [retOf, den, List.map_cons, List.map_nil]
     unfold mOp
     try simp only [h1, h2, h3, h8, h9, h10, h11, emp_size, ne_eq, not_true_eq_false, not_false_eq_true, true_or, or_true, false_or, or_false, and_true, true_and, and_false, false_and, and_self, or_self, if_true, if_false, Bool.true_eq_false, Bool.false_eq_true, reduceIte, Classical.not_not, Bool.and_eq_true, decide_eq_true_eq]
     repeat (first | rw [if_pos (by omega)] | rw [if_neg (by omega)])
     all_goals first | rfl | (exfalso; omega)
   simp only [inB, Bool.and_eq_true, Bool.and_eq_false_iff, decide_eq_true_eq, decide_eq_false_iff_not] at h11
   refine Mt [.int .i64 2] fun bs w hS => ?_
   refine ⟨?_, hS.kp⟩
   simp only [retOf, den, List.map_cons, List.map_nil]
   unfold mOp
   try simp only [h1, h2, h3, h8, h9, h10, h11, emp_size, ne_eq, not_true_eq_false, not_false_eq_true, true_or, or_true, false_or, or_false, and_true, true_and, and_false, false_and, and_self, or_self, if_true, if_false, Bool.true_eq_false, Bool.false_eq_true, reduceIte, Classical.not_not, Bool.and_eq_true, decide_eq_true_eq]
   repeat (first | rw [if_pos (by omega)] | rw [if_neg (by omega)])
   all_goals first | rfl | (exfalso; omega)
 have hzh3 : x.b.size = 0 := by rw [h3]; rfl
 refine Md ((12 : Int) < (x.b.size : Int)) (T := fun h4 => ?_) (F := fun h4 => ?_)
 · refine Mt [.int .i64 1] fun bs w hS => ?_
   refine ⟨?_, hS.kp⟩
   simp only [retOf, den, List.map_cons, List.map_nil]
   unfold mOp
   try simp only [h1, h2, h3, h4, emp_size, ne_eq, not_true_eq_false, not_false_eq_true, true_or, or_true, false_or, or_false, and_true, true_and, and_false, false_and, and_self, or_self, if_true, if_false, Bool.true_eq_false, Bool.false_eq_true, reduceIte, Classical.not_not, Bool.and_eq_true, decide_eq_true_eq]
   repeat (first | rw [if_pos (by omega)] | rw [if_neg (by omega)])
   all_goals first | rfl | (exfalso; omega)
 refine Md (x.kind = 5) (T := fun h5 => ?_) (F := fun h5 => ?_)
 rotate_left
 · refine Mdn (x.n = 0) (T := fun h7 => ?_) (F := fun h7 => ?_)
   · refine Mt [.int .i64 0] fun bs w hS => ?_
     refine ⟨?_, hS.kp⟩
     simp only [retOf, den, List.map_cons, List.map_nil]
     unfold mOp
     try simp only [h1, h2, h3, h4, h5, h7, emp_size, ne_eq, not_true_eq_false, not_false_eq_true, true_or, or_true, false_or, or_false, and_true, true_and, and_false, false_and, and_self, or_self, if_true, if_false, Bool.true_eq_false, Bool.false_eq_true, reduceIte, Classical.not_not, Bool.and_eq_true, decide_eq_true_eq]
     repeat (first | rw [if_pos (by omega)] | rw [if_neg (by omega)])
     all_goals first | rfl | (exfalso; omega)
   refine Mt [.int .i64 2] fun bs w hS => ?_
   refine ⟨?_, hS.kp⟩
   simp only [retOf, den, List.map_cons, List.map_nil]
   unfold mOp
   try simp only [h1, h2, h3, h4, h5, h7, emp_size, ne_eq, not_true_eq_false, not_false_eq_true, true_or, or_true, false_or, or_false, and_true, true_and, and_false, false_and, and_self, or_self, if_true, if_false, Bool.true_eq_false, Bool.false_eq_true, reduceIte, Classical.not_not, Bool.and_eq_true, decide_eq_true_eq]
   repeat (first | rw [if_pos (by omega)] | rw [if_neg (by omega)])
   all_goals first | rfl | (exfalso; omega)
 refine Mp Tryz.call51 (fun bs w hS => ref_In x.n 1 1073741824 w) (J := ?_)
 refine Mbn (inB x.n 1 1073741824) (T := fun h6 => ?_) (F := fun h6 => ?_)
 · simp only [inB, Bool.and_eq_true, Bool.and_eq_false_iff, decide_eq_true_eq, decide_eq_false_iff_not] at h6
   refine Mt [.int .i64 0] fun bs w hS => ?_
   refine ⟨?_, hS.kp⟩
   simp only [retOf, den, List.map_cons, List.map_nil]
   unfold mOp
   try simp only [h1, h2, h3, h4, h5, h6, emp_size, ne_eq, not_true_eq_false, not_false_eq_true, true_or, or_true, false_or, or_false, and_true, true_and, and_false, false_and, and_self, or_self, if_true, if_false, Bool.true_eq_false, Bool.false_eq_true, reduceIte, Classical.not_not, Bool.and_eq_true, decide_eq_true_eq]
   repeat (first | rw [if_pos (by omega)] | rw [if_neg (by omega)])
   all_goals first | rfl | (exfalso; omega)
 simp only [inB, Bool.and_eq_true, Bool.and_eq_false_iff, decide_eq_true_eq, decide_eq_false_iff_not] at h6
 refine Mt [.int .i64 2] fun bs w hS => ?_
 refine ⟨?_, hS.kp⟩
 simp only [retOf, den, List.map_cons, List.map_nil]
 unfold mOp
 try simp only [h1, h2, h3, h4, h5, h6, emp_size, ne_eq, not_true_eq_false, not_false_eq_true, true_or, or_true, false_or, or_false, and_true, true_and, and_false, false_and, and_self, or_self, if_true, if_false, Bool.true_eq_false, Bool.false_eq_true, reduceIte, Classical.not_not, Bool.and_eq_true, decide_eq_true_eq]
 repeat (first | rw [if_pos (by omega)] | rw [if_neg (by omega)])
 all_goals first | rfl | (exfalso; omega)

theorem command_Check {B : Nat → Prop} (x : DCommand) (w : World) (hx : Rds.sub B w x) : Calls Tryz.prog 67 #[.agg #[.int .i64 x.kind, .int .i64 x.client, .int .i64 x.session, .int .i64 x.seq, .int .i64 x.acked, .int .i64 x.op.kind, .string x.op.a, .string x.op.b, .int .i64 x.op.n]] w fun e w' => e = .returned (.int .i64 (mCmd x)) ∧ Kp [] w w' := by
 have okx := Rds.okof hx
 refine M0 Tryz.func67 (J := ?_)
 refine Md (x.kind < 1) (T := fun h1 => ?_) (F := fun h1 => ?_)
 · refine Mt [.int .i64 3] fun bs w hS => ?_
   refine ⟨?_, hS.kp⟩
   simp only [retOf, den, List.map_cons, List.map_nil]
   unfold mCmd
   try simp only [h1, emp_size, ne_eq, not_true_eq_false, not_false_eq_true, true_or, or_true, false_or, or_false, and_true, true_and, and_false, false_and, and_self, or_self, if_true, if_false, Bool.true_eq_false, Bool.false_eq_true, reduceIte, Classical.not_not, Bool.and_eq_true, decide_eq_true_eq]
   repeat (first | rw [if_pos (by omega)] | rw [if_neg (by omega)])
   all_goals first | rfl | (exfalso; omega)
 refine Md ((3 : Int) < x.kind) (T := fun h2 => ?_) (F := fun h2 => ?_)
 · refine Mt [.int .i64 3] fun bs w hS => ?_
   refine ⟨?_, hS.kp⟩
   simp only [retOf, den, List.map_cons, List.map_nil]
   unfold mCmd
   try simp only [h1, h2, emp_size, ne_eq, not_true_eq_false, not_false_eq_true, true_or, or_true, false_or, or_false, and_true, true_and, and_false, false_and, and_self, or_self, if_true, if_false, Bool.true_eq_false, Bool.false_eq_true, reduceIte, Classical.not_not, Bool.and_eq_true, decide_eq_true_eq]
   repeat (first | rw [if_pos (by omega)] | rw [if_neg (by omega)])
   all_goals first | rfl | (exfalso; omega)
 refine Md (x.client < 1) (T := fun h3 => ?_) (F := fun h3 => ?_)
 · refine Mt [.int .i64 2] fun bs w hS => ?_
   refine ⟨?_, hS.kp⟩
   simp only [retOf, den, List.map_cons, List.map_nil]
   unfold mCmd
   try simp only [h1, h2, h3, emp_size, ne_eq, not_true_eq_false, not_false_eq_true, true_or, or_true, false_or, or_false, and_true, true_and, and_false, false_and, and_self, or_self, if_true, if_false, Bool.true_eq_false, Bool.false_eq_true, reduceIte, Classical.not_not, Bool.and_eq_true, decide_eq_true_eq]
   repeat (first | rw [if_pos (by omega)] | rw [if_neg (by omega)])
   all_goals first | rfl | (exfalso; omega)
 refine Md ((9 : Int) < x.client) (T := fun h4 => ?_) (F := fun h4 => ?_)
 · refine Mt [.int .i64 2] fun bs w hS => ?_
   refine ⟨?_, hS.kp⟩
   simp only [retOf, den, List.map_cons, List.map_nil]
   unfold mCmd
   try simp only [h1, h2, h3, h4, emp_size, ne_eq, not_true_eq_false, not_false_eq_true, true_or, or_true, false_or, or_false, and_true, true_and, and_false, false_and, and_self, or_self, if_true, if_false, Bool.true_eq_false, Bool.false_eq_true, reduceIte, Classical.not_not, Bool.and_eq_true, decide_eq_true_eq]
   repeat (first | rw [if_pos (by omega)] | rw [if_neg (by omega)])
   all_goals first | rfl | (exfalso; omega)
 refine Mdn (x.kind = 2) (T := fun h5 => ?_) (F := fun h5 => ?_)
 rotate_left
 · refine Mdn (x.session = 0) (T := fun h12 => ?_) (F := fun h12 => ?_)
   rotate_left
   · refine Mt [.int .i64 4] fun bs w hS => ?_
     refine ⟨?_, hS.kp⟩
     simp only [retOf, den, List.map_cons, List.map_nil]
     unfold mCmd
     try simp only [h1, h2, h3, h4, h5, h12, emp_size, ne_eq, not_true_eq_false, not_false_eq_true, true_or, or_true, false_or, or_false, and_true, true_and, and_false, false_and, and_self, or_self, if_true, if_false, Bool.true_eq_false, Bool.false_eq_true, reduceIte, Classical.not_not, Bool.and_eq_true, decide_eq_true_eq]
     repeat (first | rw [if_pos (by omega)] | rw [if_neg (by omega)])
     all_goals first | rfl | (exfalso; omega)
   refine Mdn (x.seq = 0) (T := fun h13 => ?_) (F := fun h13 => ?_)
   rotate_left
   · refine Mt [.int .i64 4] fun bs w hS => ?_
     refine ⟨?_, hS.kp⟩
     simp only [retOf, den, List.map_cons, List.map_nil]
     unfold mCmd
     try simp only [h1, h2, h3, h4, h5, h12, h13, emp_size, ne_eq, not_true_eq_false, not_false_eq_true, true_or, or_true, false_or, or_false, and_true, true_and, and_false, false_and, and_self, or_self, if_true, if_false, Bool.true_eq_false, Bool.false_eq_true, reduceIte, Classical.not_not, Bool.and_eq_true, decide_eq_true_eq]
     repeat (first | rw [if_pos (by omega)] | rw [if_neg (by omega)])
     all_goals first | rfl | (exfalso; omega)
   refine Mdn (x.acked = 0) (T := fun h14 => ?_) (F := fun h14 => ?_)
   rotate_left
   · refine Mt [.int .i64 4] fun bs w hS => ?_
     refine ⟨?_, hS.kp⟩
     simp only [retOf, den, List.map_cons, List.map_nil]
     unfold mCmd
     try simp only [h1, h2, h3, h4, h5, h12, h13, h14, emp_size, ne_eq, not_true_eq_false, not_false_eq_true, true_or, or_true, false_or, or_false, and_true, true_and, and_false, false_and, and_self, or_self, if_true, if_false, Bool.true_eq_false, Bool.false_eq_true, reduceIte, Classical.not_not, Bool.and_eq_true, decide_eq_true_eq]
     repeat (first | rw [if_pos (by omega)] | rw [if_neg (by omega)])
     all_goals first | rfl | (exfalso; omega)
   refine Mi (pG [(39, .val (.bool (!((decide (x.op.kind = 0)) && ((decide (x.op.a = emp)) && ((decide (x.op.b = emp)) && ((decide (x.op.n = 0)) && true)))))))] (oc ((neq_agg (by kernel_rfl) (by kernel_rfl)) : ∀ w, (do eqGuard .neq 61 (.tmp 37) (.tmp 38) (.agg #[.int .i64 x.op.kind, .string x.op.a, .string x.op.b, .int .i64 x.op.n]) (.agg #[.int .i64 0, .string emp, .string emp, .int .i64 0]); binOp .neq 61 (.agg #[.int .i64 x.op.kind, .string x.op.a, .string x.op.b, .int .i64 x.op.n]) (.agg #[.int .i64 0, .string emp, .string emp, .int .i64 0]) : Sem Value).run Tryz.prog w = .ok (.bool (!((decide (x.op.kind = 0)) && ((decide (x.op.a = emp)) && ((decide (x.op.b = emp)) && ((decide (x.op.n = 0)) && true)))))) w) on)) (J := ?_)
   refine Mbn ((decide (x.op.kind = 0)) && ((decide (x.op.a = emp)) && ((decide (x.op.b = emp)) && ((decide (x.op.n = 0)) && true)))) (T := fun h15 => ?_) (F := fun h15 => ?_)
   · simp only [Bool.and_eq_true, decide_eq_true_eq, and_true] at h15
     refine Mt [.int .i64 0] fun bs w hS => ?_
     refine ⟨?_, hS.kp⟩
     simp only [retOf, den, List.map_cons, List.map_nil]
     unfold mCmd
     try simp only [h1, h2, h3, h4, h5, h12, h13, h14, h15, emp_size, ne_eq, not_true_eq_false, not_false_eq_true, true_or, or_true, false_or, or_false, and_true, true_and, and_false, false_and, and_self, or_self, if_true, if_false, Bool.true_eq_false, Bool.false_eq_true, reduceIte, Classical.not_not, Bool.and_eq_true, decide_eq_true_eq]
     repeat (first | rw [if_pos (by omega)] | rw [if_neg (by omega)])
     all_goals first | rfl | (exfalso; omega)
   rw [Bool.eq_false_iff] at h15
   simp only [ne_eq, Bool.and_eq_true, decide_eq_true_eq, and_true] at h15
   refine Mt [.int .i64 4] fun bs w hS => ?_
   refine ⟨?_, hS.kp⟩
   simp only [retOf, den, List.map_cons, List.map_nil]
   unfold mCmd
   try simp only [h1, h2, h3, h4, h5, h12, h13, h14, h15, emp_size, ne_eq, not_true_eq_false, not_false_eq_true, true_or, or_true, false_or, or_false, and_true, true_and, and_false, false_and, and_self, or_self, if_true, if_false, Bool.true_eq_false, Bool.false_eq_true, reduceIte, Classical.not_not, Bool.and_eq_true, decide_eq_true_eq]
   repeat (first | rw [if_pos (by omega)] | rw [if_neg (by omega)])
   all_goals first | rfl | (exfalso; omega)
 refine Md (x.session < 1) (T := fun h6 => ?_) (F := fun h6 => ?_)
 · refine Mt [.int .i64 2] fun bs w hS => ?_
   refine ⟨?_, hS.kp⟩
   simp only [retOf, den, List.map_cons, List.map_nil]
   unfold mCmd
   try simp only [h1, h2, h3, h4, h5, h6, emp_size, ne_eq, not_true_eq_false, not_false_eq_true, true_or, or_true, false_or, or_false, and_true, true_and, and_false, false_and, and_self, or_self, if_true, if_false, Bool.true_eq_false, Bool.false_eq_true, reduceIte, Classical.not_not, Bool.and_eq_true, decide_eq_true_eq]
   repeat (first | rw [if_pos (by omega)] | rw [if_neg (by omega)])
   all_goals first | rfl | (exfalso; omega)
 refine Md ((1073741824 : Int) < x.session) (T := fun h7 => ?_) (F := fun h7 => ?_)
 · refine Mt [.int .i64 2] fun bs w hS => ?_
   refine ⟨?_, hS.kp⟩
   simp only [retOf, den, List.map_cons, List.map_nil]
   unfold mCmd
   try simp only [h1, h2, h3, h4, h5, h6, h7, emp_size, ne_eq, not_true_eq_false, not_false_eq_true, true_or, or_true, false_or, or_false, and_true, true_and, and_false, false_and, and_self, or_self, if_true, if_false, Bool.true_eq_false, Bool.false_eq_true, reduceIte, Classical.not_not, Bool.and_eq_true, decide_eq_true_eq]
   repeat (first | rw [if_pos (by omega)] | rw [if_neg (by omega)])
   all_goals first | rfl | (exfalso; omega)
 refine Md (x.seq < 1) (T := fun h8 => ?_) (F := fun h8 => ?_)
 · refine Mt [.int .i64 2] fun bs w hS => ?_
   refine ⟨?_, hS.kp⟩
   simp only [retOf, den, List.map_cons, List.map_nil]
   unfold mCmd
   try simp only [h1, h2, h3, h4, h5, h6, h7, h8, emp_size, ne_eq, not_true_eq_false, not_false_eq_true, true_or, or_true, false_or, or_false, and_true, true_and, and_false, false_and, and_self, or_self, if_true, if_false, Bool.true_eq_false, Bool.false_eq_true, reduceIte, Classical.not_not, Bool.and_eq_true, decide_eq_true_eq]
   repeat (first | rw [if_pos (by omega)] | rw [if_neg (by omega)])
   all_goals first | rfl | (exfalso; omega)
 refine Md ((1048576 : Int) < x.seq) (T := fun h9 => ?_) (F := fun h9 => ?_)
 · refine Mt [.int .i64 2] fun bs w hS => ?_
   refine ⟨?_, hS.kp⟩
   simp only [retOf, den, List.map_cons, List.map_nil]
   unfold mCmd
   try simp only [h1, h2, h3, h4, h5, h6, h7, h8, h9, emp_size, ne_eq, not_true_eq_false, not_false_eq_true, true_or, or_true, false_or, or_false, and_true, true_and, and_false, false_and, and_self, or_self, if_true, if_false, Bool.true_eq_false, Bool.false_eq_true, reduceIte, Classical.not_not, Bool.and_eq_true, decide_eq_true_eq]
   repeat (first | rw [if_pos (by omega)] | rw [if_neg (by omega)])
   all_goals first | rfl | (exfalso; omega)
 refine Md (x.acked < 0) (T := fun h10 => ?_) (F := fun h10 => ?_)
 · refine Mt [.int .i64 2] fun bs w hS => ?_
   refine ⟨?_, hS.kp⟩
   simp only [retOf, den, List.map_cons, List.map_nil]
   unfold mCmd
   try simp only [h1, h2, h3, h4, h5, h6, h7, h8, h9, h10, emp_size, ne_eq, not_true_eq_false, not_false_eq_true, true_or, or_true, false_or, or_false, and_true, true_and, and_false, false_and, and_self, or_self, if_true, if_false, Bool.true_eq_false, Bool.false_eq_true, reduceIte, Classical.not_not, Bool.and_eq_true, decide_eq_true_eq]
   repeat (first | rw [if_pos (by omega)] | rw [if_neg (by omega)])
   all_goals first | rfl | (exfalso; omega)
 refine Md (x.seq ≤ x.acked) (T := fun h11 => ?_) (F := fun h11 => ?_)
 · refine Mt [.int .i64 2] fun bs w hS => ?_
   refine ⟨?_, hS.kp⟩
   simp only [retOf, den, List.map_cons, List.map_nil]
   unfold mCmd
   try simp only [h1, h2, h3, h4, h5, h6, h7, h8, h9, h10, h11, emp_size, ne_eq, not_true_eq_false, not_false_eq_true, true_or, or_true, false_or, or_false, and_true, true_and, and_false, false_and, and_self, or_self, if_true, if_false, Bool.true_eq_false, Bool.false_eq_true, reduceIte, Classical.not_not, Bool.and_eq_true, decide_eq_true_eq]
   repeat (first | rw [if_pos (by omega)] | rw [if_neg (by omega)])
   all_goals first | rfl | (exfalso; omega)
 refine Mp Tryz.call134 (fun bs w hS => command_CheckOp (B := anyB) x.op w ⟨(And.left okx), (And.right okx)⟩) (J := ?_)
 refine Mt [.int .i64 (mOp x.op)] fun bs w hS => ?_
 refine ⟨?_, hS.kp⟩
 simp only [retOf, den, List.map_cons, List.map_nil]
 unfold mCmd
 try simp only [h1, h2, h3, h4, h5, h6, h7, h8, h9, h10, h11, emp_size, ne_eq, not_true_eq_false, not_false_eq_true, true_or, or_true, false_or, or_false, and_true, true_and, and_false, false_and, and_self, or_self, if_true, if_false, Bool.true_eq_false, Bool.false_eq_true, reduceIte, Classical.not_not, Bool.and_eq_true, decide_eq_true_eq]
 repeat (first | rw [if_pos (by omega)] | rw [if_neg (by omega)])
 all_goals first | rfl | (exfalso; omega)

theorem ref_CommandFault {B : Nat → Prop} (x : DCommand) (w : World) (hx : Rds.sub B w x) : Calls Tryz.prog 97 #[.agg #[.int .i64 x.kind, .int .i64 x.client, .int .i64 x.session, .int .i64 x.seq, .int .i64 x.acked, .int .i64 x.op.kind, .string x.op.a, .string x.op.b, .int .i64 x.op.n]] w fun e w' => e = .returned (.int .i64 (mCmd x)) ∧ Kp [] w w' := by
 have okx := Rds.okof hx
 refine M0 Tryz.func97 (J := ?_)
 refine Mp Tryz.call51 (fun bs w hS => ref_In x.kind 1 3 w) (J := ?_)
 refine Mbn (inB x.kind 1 3) (T := fun h1 => ?_) (F := fun h1 => ?_)
 rotate_left
 · simp only [inB, Bool.and_eq_true, Bool.and_eq_false_iff, decide_eq_true_eq, decide_eq_false_iff_not] at h1
   refine Mt [.int .i64 3] fun bs w hS => ?_
   refine ⟨?_, hS.kp⟩
   simp only [retOf, den, List.map_cons, List.map_nil]
   unfold mCmd
   try simp only [h1, emp_size, ne_eq, not_true_eq_false, not_false_eq_true, true_or, or_true, false_or, or_false, and_true, true_and, and_false, false_and, and_self, or_self, if_true, if_false, Bool.true_eq_false, Bool.false_eq_true, reduceIte, Classical.not_not, Bool.and_eq_true, decide_eq_true_eq]
   repeat (first | rw [if_pos (by omega)] | rw [if_neg (by omega)])
   all_goals first | rfl | (exfalso; omega)
 simp only [inB, Bool.and_eq_true, Bool.and_eq_false_iff, decide_eq_true_eq, decide_eq_false_iff_not] at h1
 refine Mp Tryz.call51 (fun bs w hS => ref_In x.client 1 9 w) (J := ?_)
 refine Mbn (inB x.client 1 9) (T := fun h2 => ?_) (F := fun h2 => ?_)
 rotate_left
 · simp only [inB, Bool.and_eq_true, Bool.and_eq_false_iff, decide_eq_true_eq, decide_eq_false_iff_not] at h2
   refine Mt [.int .i64 2] fun bs w hS => ?_
   refine ⟨?_, hS.kp⟩
   simp only [retOf, den, List.map_cons, List.map_nil]
   unfold mCmd
   try simp only [h1, h2, emp_size, ne_eq, not_true_eq_false, not_false_eq_true, true_or, or_true, false_or, or_false, and_true, true_and, and_false, false_and, and_self, or_self, if_true, if_false, Bool.true_eq_false, Bool.false_eq_true, reduceIte, Classical.not_not, Bool.and_eq_true, decide_eq_true_eq]
   repeat (first | rw [if_pos (by omega)] | rw [if_neg (by omega)])
   all_goals first | rfl | (exfalso; omega)
 simp only [inB, Bool.and_eq_true, Bool.and_eq_false_iff, decide_eq_true_eq, decide_eq_false_iff_not] at h2
 refine Md (x.kind = 2) (T := fun h3 => ?_) (F := fun h3 => ?_)
 · refine Mp Tryz.call51 (fun bs w hS => ref_In x.session 1 1073741824 w) (J := ?_)
   refine Mbn (inB x.session 1 1073741824) (T := fun h4 => ?_) (F := fun h4 => ?_)
   rotate_left
   · simp only [inB, Bool.and_eq_true, Bool.and_eq_false_iff, decide_eq_true_eq, decide_eq_false_iff_not] at h4
     refine Mt [.int .i64 2] fun bs w hS => ?_
     refine ⟨?_, hS.kp⟩
     simp only [retOf, den, List.map_cons, List.map_nil]
     unfold mCmd
     try simp only [h1, h2, h3, h4, emp_size, ne_eq, not_true_eq_false, not_false_eq_true, true_or, or_true, false_or, or_false, and_true, true_and, and_false, false_and, and_self, or_self, if_true, if_false, Bool.true_eq_false, Bool.false_eq_true, reduceIte, Classical.not_not, Bool.and_eq_true, decide_eq_true_eq]
     repeat (first | rw [if_pos (by omega)] | rw [if_neg (by omega)])
     all_goals first | rfl | (exfalso; omega)
   simp only [inB, Bool.and_eq_true, Bool.and_eq_false_iff, decide_eq_true_eq, decide_eq_false_iff_not] at h4
   refine Mp Tryz.call51 (fun bs w hS => ref_In x.seq 1 1048576 w) (J := ?_)
   refine Mbn (inB x.seq 1 1048576) (T := fun h5 => ?_) (F := fun h5 => ?_)
   rotate_left
   · simp only [inB, Bool.and_eq_true, Bool.and_eq_false_iff, decide_eq_true_eq, decide_eq_false_iff_not] at h5
     refine Mt [.int .i64 2] fun bs w hS => ?_
     refine ⟨?_, hS.kp⟩
     simp only [retOf, den, List.map_cons, List.map_nil]
     unfold mCmd
     try simp only [h1, h2, h3, h4, h5, emp_size, ne_eq, not_true_eq_false, not_false_eq_true, true_or, or_true, false_or, or_false, and_true, true_and, and_false, false_and, and_self, or_self, if_true, if_false, Bool.true_eq_false, Bool.false_eq_true, reduceIte, Classical.not_not, Bool.and_eq_true, decide_eq_true_eq]
     repeat (first | rw [if_pos (by omega)] | rw [if_neg (by omega)])
     all_goals first | rfl | (exfalso; omega)
   simp only [inB, Bool.and_eq_true, Bool.and_eq_false_iff, decide_eq_true_eq, decide_eq_false_iff_not] at h5
   refine Mi (pR (x.seq - 1)) (J := ?_)
   refine Mp Tryz.call51 (fun bs w hS => ref_In x.acked 0 (x.seq - 1) w) (J := ?_)
   refine Mbn (inB x.acked 0 (x.seq - 1)) (T := fun h6 => ?_) (F := fun h6 => ?_)
   rotate_left
   · simp only [inB, Bool.and_eq_true, Bool.and_eq_false_iff, decide_eq_true_eq, decide_eq_false_iff_not] at h6
     refine Mt [.int .i64 2] fun bs w hS => ?_
     refine ⟨?_, hS.kp⟩
     simp only [retOf, den, List.map_cons, List.map_nil]
     unfold mCmd
     try simp only [h1, h2, h3, h4, h5, h6, emp_size, ne_eq, not_true_eq_false, not_false_eq_true, true_or, or_true, false_or, or_false, and_true, true_and, and_false, false_and, and_self, or_self, if_true, if_false, Bool.true_eq_false, Bool.false_eq_true, reduceIte, Classical.not_not, Bool.and_eq_true, decide_eq_true_eq]
     repeat (first | rw [if_pos (by omega)] | rw [if_neg (by omega)])
     all_goals first | rfl | (exfalso; omega)
   simp only [inB, Bool.and_eq_true, Bool.and_eq_false_iff, decide_eq_true_eq, decide_eq_false_iff_not] at h6
   refine Mp Tryz.call155 (fun bs w hS => ref_OpFault (B := anyB) x.op w ⟨(And.left okx), (And.right okx)⟩) (J := ?_)
   refine Mt [.int .i64 (mOp x.op)] fun bs w hS => ?_
   refine ⟨?_, hS.kp⟩
   simp only [retOf, den, List.map_cons, List.map_nil]
   unfold mCmd
   try simp only [h1, h2, h3, h4, h5, h6, emp_size, ne_eq, not_true_eq_false, not_false_eq_true, true_or, or_true, false_or, or_false, and_true, true_and, and_false, false_and, and_self, or_self, if_true, if_false, Bool.true_eq_false, Bool.false_eq_true, reduceIte, Classical.not_not, Bool.and_eq_true, decide_eq_true_eq]
   repeat (first | rw [if_pos (by omega)] | rw [if_neg (by omega)])
   all_goals first | rfl | (exfalso; omega)
 refine Mdn (x.session = 0) (T := fun h7 => ?_) (F := fun h7 => ?_)
 rotate_left
 · refine Mt [.int .i64 4] fun bs w hS => ?_
   refine ⟨?_, hS.kp⟩
   simp only [retOf, den, List.map_cons, List.map_nil]
   unfold mCmd
   try simp only [h1, h2, h3, h7, emp_size, ne_eq, not_true_eq_false, not_false_eq_true, true_or, or_true, false_or, or_false, and_true, true_and, and_false, false_and, and_self, or_self, if_true, if_false, Bool.true_eq_false, Bool.false_eq_true, reduceIte, Classical.not_not, Bool.and_eq_true, decide_eq_true_eq]
   repeat (first | rw [if_pos (by omega)] | rw [if_neg (by omega)])
   all_goals first | rfl | (exfalso; omega)
 refine Mdn (x.seq = 0) (T := fun h8 => ?_) (F := fun h8 => ?_)
 rotate_left
 · refine Mt [.int .i64 4] fun bs w hS => ?_
   refine ⟨?_, hS.kp⟩
   simp only [retOf, den, List.map_cons, List.map_nil]
   unfold mCmd
   try simp only [h1, h2, h3, h7, h8, emp_size, ne_eq, not_true_eq_false, not_false_eq_true, true_or, or_true, false_or, or_false, and_true, true_and, and_false, false_and, and_self, or_self, if_true, if_false, Bool.true_eq_false, Bool.false_eq_true, reduceIte, Classical.not_not, Bool.and_eq_true, decide_eq_true_eq]
   repeat (first | rw [if_pos (by omega)] | rw [if_neg (by omega)])
   all_goals first | rfl | (exfalso; omega)
 refine Mdn (x.acked = 0) (T := fun h9 => ?_) (F := fun h9 => ?_)
 rotate_left
 · refine Mt [.int .i64 4] fun bs w hS => ?_
   refine ⟨?_, hS.kp⟩
   simp only [retOf, den, List.map_cons, List.map_nil]
   unfold mCmd
   try simp only [h1, h2, h3, h7, h8, h9, emp_size, ne_eq, not_true_eq_false, not_false_eq_true, true_or, or_true, false_or, or_false, and_true, true_and, and_false, false_and, and_self, or_self, if_true, if_false, Bool.true_eq_false, Bool.false_eq_true, reduceIte, Classical.not_not, Bool.and_eq_true, decide_eq_true_eq]
   repeat (first | rw [if_pos (by omega)] | rw [if_neg (by omega)])
   all_goals first | rfl | (exfalso; omega)
 refine Mdn (x.op.kind = 0) (T := fun h10 => ?_) (F := fun h10 => ?_)
 rotate_left
 · refine Mt [.int .i64 4] fun bs w hS => ?_
   refine ⟨?_, hS.kp⟩
   simp only [retOf, den, List.map_cons, List.map_nil]
   unfold mCmd
   try simp only [h1, h2, h3, h7, h8, h9, h10, emp_size, ne_eq, not_true_eq_false, not_false_eq_true, true_or, or_true, false_or, or_false, and_true, true_and, and_false, false_and, and_self, or_self, if_true, if_false, Bool.true_eq_false, Bool.false_eq_true, reduceIte, Classical.not_not, Bool.and_eq_true, decide_eq_true_eq]
   repeat (first | rw [if_pos (by omega)] | rw [if_neg (by omega)])
   all_goals first | rfl | (exfalso; omega)
 refine Mdn (x.op.a = emp) (T := fun h11 => ?_) (F := fun h11 => ?_)
 rotate_left
 · refine Mt [.int .i64 4] fun bs w hS => ?_
   refine ⟨?_, hS.kp⟩
   simp only [retOf, den, List.map_cons, List.map_nil]
   unfold mCmd
   try simp only [h1, h2, h3, h7, h8, h9, h10, h11, emp_size, ne_eq, not_true_eq_false, not_false_eq_true, true_or, or_true, false_or, or_false, and_true, true_and, and_false, false_and, and_self, or_self, if_true, if_false, Bool.true_eq_false, Bool.false_eq_true, reduceIte, Classical.not_not, Bool.and_eq_true, decide_eq_true_eq]
   repeat (first | rw [if_pos (by omega)] | rw [if_neg (by omega)])
   all_goals first | rfl | (exfalso; omega)
 have hzh11 : x.op.a.size = 0 := by rw [h11]; rfl
 refine Mdn (x.op.b = emp) (T := fun h12 => ?_) (F := fun h12 => ?_)
 rotate_left
 · refine Mt [.int .i64 4] fun bs w hS => ?_
   refine ⟨?_, hS.kp⟩
   simp only [retOf, den, List.map_cons, List.map_nil]
   unfold mCmd
   try simp only [h1, h2, h3, h7, h8, h9, h10, h11, h12, emp_size, ne_eq, not_true_eq_false, not_false_eq_true, true_or, or_true, false_or, or_false, and_true, true_and, and_false, false_and, and_self, or_self, if_true, if_false, Bool.true_eq_false, Bool.false_eq_true, reduceIte, Classical.not_not, Bool.and_eq_true, decide_eq_true_eq]
   repeat (first | rw [if_pos (by omega)] | rw [if_neg (by omega)])
   all_goals first | rfl | (exfalso; omega)
 have hzh12 : x.op.b.size = 0 := by rw [h12]; rfl
 refine Mdn (x.op.n = 0) (T := fun h13 => ?_) (F := fun h13 => ?_)
 · refine Mt [.int .i64 0] fun bs w hS => ?_
   refine ⟨?_, hS.kp⟩
   simp only [retOf, den, List.map_cons, List.map_nil]
   unfold mCmd
   try simp only [h1, h2, h3, h7, h8, h9, h10, h11, h12, h13, emp_size, ne_eq, not_true_eq_false, not_false_eq_true, true_or, or_true, false_or, or_false, and_true, true_and, and_false, false_and, and_self, or_self, if_true, if_false, Bool.true_eq_false, Bool.false_eq_true, reduceIte, Classical.not_not, Bool.and_eq_true, decide_eq_true_eq]
   repeat (first | rw [if_pos (by omega)] | rw [if_neg (by omega)])
   all_goals first | rfl | (exfalso; omega)
 refine Mt [.int .i64 4] fun bs w hS => ?_
 refine ⟨?_, hS.kp⟩
 simp only [retOf, den, List.map_cons, List.map_nil]
 unfold mCmd
 try simp only [h1, h2, h3, h7, h8, h9, h10, h11, h12, h13, emp_size, ne_eq, not_true_eq_false, not_false_eq_true, true_or, or_true, false_or, or_false, and_true, true_and, and_false, false_and, and_self, or_self, if_true, if_false, Bool.true_eq_false, Bool.false_eq_true, reduceIte, Classical.not_not, Bool.and_eq_true, decide_eq_true_eq]
 repeat (first | rw [if_pos (by omega)] | rw [if_neg (by omega)])
 all_goals first | rfl | (exfalso; omega)

theorem command_body (c : DCommand) (b : Nat) (t : ByteArray) (w : World) (hb : (blkR b 63 [.int .i64 c.kind, .int .i64 c.client, .int .i64 c.session, .int .i64 c.seq, .int .i64 c.acked, .int .i64 c.op.kind, .string c.op.a, .string c.op.b, .int .i64 c.op.n]).p w) (ht : t.size ≤ 9223372036854775807) (hc : Rds.ok c) : Calls Tryz.prog 66 #[.pointer (some ⟨b, 0, none⟩), .string t] w fun e w' => ∃ y : DCommand, e = .returned (.tuple #[.string (mBody c t).2.1, .int .i64 (mBody c t).2.2]) ∧ (((mBody c t).2.2 = 0 → y = (mBody c t).1) ∧ Rds.ok y) ∧ Kp [b] w w' ∧ (blkR b 63 [.int .i64 y.kind, .int .i64 y.client, .int .i64 y.session, .int .i64 y.seq, .int .i64 y.acked, .int .i64 y.op.kind, .string y.op.a, .string y.op.b, .int .i64 y.op.n]).p w' := by
 refine Mj Tryz.func66 (WS.start1 w _ hb (by simp [blkR]) (blkR_lt hb)) (J := ?_)
 refine Mda 20 [] [] [blkR b 63 [.int .i64 c.kind, .int .i64 c.client, .int .i64 c.session, .int .i64 c.seq, .int .i64 c.acked, .int .i64 c.op.kind, .string c.op.a, .string c.op.b, .int .i64 c.op.n]] Tryz_mixed (J := ?_)
 refine M1 (J := ?_)
 refine Mz (J := ?_)
 refine Mun 6 (B := fun _ on1 => ?_)
 refine Mq 32 true rfl (J := ?_)
 refine Mi (pG [(33, .idx default 0)] (oc (rfl : (0 : Int) = ((0 : Nat) : Int)) (oc ((by omega) : 0 < 5) on))) (J := ?_)
 refine Mp (vs := fun bs => [.string t]) Tryz.call132 (fun bs w hS => codec_ReadNumber _ w (by first | assumption | omega | (simp only [emp_size]; omega))) (J := ?_)
 have hzr1 := mRead_bd t
 generalize hr1 : mRead t = r1 at hzr1 ⊢
 refine Msb 2 [.int .i64 c.kind, .int .i64 c.client, .int .i64 r1.1, .int .i64 c.seq, .int .i64 c.acked, .int .i64 c.op.kind, .string c.op.a, .string c.op.b, .int .i64 c.op.n] (J := ?_)
 refine Mdn (r1.2.2 = 0) (T := fun h1 => ?_) (F := fun h1 => ?_)
 rotate_left
 · refine Mt [.string emp, .int .i64 r1.2.2] fun bs w hS => ?_
   have hm : mBody c t = (c, emp, r1.2.2) := by unfold mBody; simp only [hr1, h1, ne_eq, not_true_eq_false, not_false_eq_true, if_true, if_false, reduceIte]
   exact ⟨(⟨c.kind, c.client, r1.1, c.seq, c.acked, ⟨c.op.kind, c.op.a, c.op.b, c.op.n⟩⟩ : DCommand), by rw [hm]; rfl, ⟨fun h0 => absurd h0 (by rw [hm]; exact h1), ⟨hc.1, hc.2⟩⟩, hS.kp, hS.res _ (.head _)⟩
 refine Mi (pR (1)) (J := ?_)
 refine on1 5 (J := ?_)
 refine Mq 32 true rfl (J := ?_)
 refine Mi (pG [(33, .idx default 1)] (oc (rfl : (1 : Int) = ((1 : Nat) : Int)) (oc ((by omega) : 1 < 5) on))) (J := ?_)
 refine Mp (vs := fun bs => [.string r1.2.1]) Tryz.call132 (fun bs w hS => codec_ReadNumber _ w (by first | assumption | omega | (simp only [emp_size]; omega))) (J := ?_)
 have hzr2 := mRead_bd r1.2.1
 generalize hr2 : mRead r1.2.1 = r2 at hzr2 ⊢
 refine Msb 3 [.int .i64 c.kind, .int .i64 c.client, .int .i64 r1.1, .int .i64 r2.1, .int .i64 c.acked, .int .i64 c.op.kind, .string c.op.a, .string c.op.b, .int .i64 c.op.n] (J := ?_)
 refine Mdn (r2.2.2 = 0) (T := fun h2 => ?_) (F := fun h2 => ?_)
 rotate_left
 · refine Mt [.string emp, .int .i64 r2.2.2] fun bs w hS => ?_
   have hm : mBody c t = (c, emp, r2.2.2) := by unfold mBody; simp only [hr1, hr2, h1, h2, ne_eq, not_true_eq_false, not_false_eq_true, if_true, if_false, reduceIte]
   exact ⟨(⟨c.kind, c.client, r1.1, r2.1, c.acked, ⟨c.op.kind, c.op.a, c.op.b, c.op.n⟩⟩ : DCommand), by rw [hm]; rfl, ⟨fun h0 => absurd h0 (by rw [hm]; exact h2), ⟨hc.1, hc.2⟩⟩, hS.kp, hS.res _ (.head _)⟩
 refine Mi (pR (2)) (J := ?_)
 refine on1 4 (J := ?_)
 refine Mq 32 true rfl (J := ?_)
 refine Mi (pG [(33, .idx default 2)] (oc (rfl : (2 : Int) = ((2 : Nat) : Int)) (oc ((by omega) : 2 < 5) on))) (J := ?_)
 refine Mp (vs := fun bs => [.string r2.2.1]) Tryz.call132 (fun bs w hS => codec_ReadNumber _ w (by first | assumption | omega | (simp only [emp_size]; omega))) (J := ?_)
 have hzr3 := mRead_bd r2.2.1
 generalize hr3 : mRead r2.2.1 = r3 at hzr3 ⊢
 refine Msb 4 [.int .i64 c.kind, .int .i64 c.client, .int .i64 r1.1, .int .i64 r2.1, .int .i64 r3.1, .int .i64 c.op.kind, .string c.op.a, .string c.op.b, .int .i64 c.op.n] (J := ?_)
 refine Mdn (r3.2.2 = 0) (T := fun h3 => ?_) (F := fun h3 => ?_)
 rotate_left
 · refine Mt [.string emp, .int .i64 r3.2.2] fun bs w hS => ?_
   have hm : mBody c t = (c, emp, r3.2.2) := by unfold mBody; simp only [hr1, hr2, hr3, h1, h2, h3, ne_eq, not_true_eq_false, not_false_eq_true, if_true, if_false, reduceIte]
   exact ⟨(⟨c.kind, c.client, r1.1, r2.1, r3.1, ⟨c.op.kind, c.op.a, c.op.b, c.op.n⟩⟩ : DCommand), by rw [hm]; rfl, ⟨fun h0 => absurd h0 (by rw [hm]; exact h3), ⟨hc.1, hc.2⟩⟩, hS.kp, hS.res _ (.head _)⟩
 refine Mi (pR (3)) (J := ?_)
 refine on1 3 (J := ?_)
 refine Mq 32 true rfl (J := ?_)
 refine Mi (pG [(33, .idx default 3)] (oc (rfl : (3 : Int) = ((3 : Nat) : Int)) (oc ((by omega) : 3 < 5) on))) (J := ?_)
 refine Mp (vs := fun bs => [.string r3.2.1]) Tryz.call132 (fun bs w hS => codec_ReadNumber _ w (by first | assumption | omega | (simp only [emp_size]; omega))) (J := ?_)
 have hzr4 := mRead_bd r3.2.1
 generalize hr4 : mRead r3.2.1 = r4 at hzr4 ⊢
 refine Msb 5 [.int .i64 c.kind, .int .i64 c.client, .int .i64 r1.1, .int .i64 r2.1, .int .i64 r3.1, .int .i64 r4.1, .string c.op.a, .string c.op.b, .int .i64 c.op.n] (J := ?_)
 refine Mdn (r4.2.2 = 0) (T := fun h4 => ?_) (F := fun h4 => ?_)
 rotate_left
 · refine Mt [.string emp, .int .i64 r4.2.2] fun bs w hS => ?_
   have hm : mBody c t = (c, emp, r4.2.2) := by unfold mBody; simp only [hr1, hr2, hr3, hr4, h1, h2, h3, h4, ne_eq, not_true_eq_false, not_false_eq_true, if_true, if_false, reduceIte]
   exact ⟨(⟨c.kind, c.client, r1.1, r2.1, r3.1, ⟨r4.1, c.op.a, c.op.b, c.op.n⟩⟩ : DCommand), by rw [hm]; rfl, ⟨fun h0 => absurd h0 (by rw [hm]; exact h4), ⟨hc.1, hc.2⟩⟩, hS.kp, hS.res _ (.head _)⟩
 refine Mi (pR (4)) (J := ?_)
 refine on1 2 (J := ?_)
 refine Mq 32 true rfl (J := ?_)
 refine Mi (pG [(33, .idx default 4)] (oc (rfl : (4 : Int) = ((4 : Nat) : Int)) (oc ((by omega) : 4 < 5) on))) (J := ?_)
 refine Mp (vs := fun bs => [.string r4.2.1]) Tryz.call132 (fun bs w hS => codec_ReadNumber _ w (by first | assumption | omega | (simp only [emp_size]; omega))) (J := ?_)
 have hzr5 := mRead_bd r4.2.1
 generalize hr5 : mRead r4.2.1 = r5 at hzr5 ⊢
 refine Msb 8 [.int .i64 c.kind, .int .i64 c.client, .int .i64 r1.1, .int .i64 r2.1, .int .i64 r3.1, .int .i64 r4.1, .string c.op.a, .string c.op.b, .int .i64 r5.1] (J := ?_)
 refine Mdn (r5.2.2 = 0) (T := fun h5 => ?_) (F := fun h5 => ?_)
 rotate_left
 · refine Mt [.string emp, .int .i64 r5.2.2] fun bs w hS => ?_
   have hm : mBody c t = (c, emp, r5.2.2) := by unfold mBody; simp only [hr1, hr2, hr3, hr4, hr5, h1, h2, h3, h4, h5, ne_eq, not_true_eq_false, not_false_eq_true, if_true, if_false, reduceIte]
   exact ⟨(⟨c.kind, c.client, r1.1, r2.1, r3.1, ⟨r4.1, c.op.a, c.op.b, r5.1⟩⟩ : DCommand), by rw [hm]; rfl, ⟨fun h0 => absurd h0 (by rw [hm]; exact h5), ⟨hc.1, hc.2⟩⟩, hS.kp, hS.res _ (.head _)⟩
 refine Mi (pR (5)) (J := ?_)
 refine on1 1 (J := ?_)
 refine Mq 32 false rfl (J := ?_)
 refine Mda 11 [] [] [blkR b 63 [.int .i64 c.kind, .int .i64 c.client, .int .i64 r1.1, .int .i64 r2.1, .int .i64 r3.1, .int .i64 r4.1, .string c.op.a, .string c.op.b, .int .i64 r5.1]] Tryz_mixed (J := ?_)
 refine M1 (J := ?_)
 refine Mz (J := ?_)
 refine Mun 3 (B := fun _ on2 => ?_)
 refine Mq 58 true rfl (J := ?_)
 refine Mi (pG [(59, .idx default 0)] (oc (rfl : (0 : Int) = ((0 : Nat) : Int)) (oc ((by omega) : 0 < 2) on))) (J := ?_)
 refine Mp (vs := fun bs => [.string r5.2.1]) Tryz.call133 (fun bs w hS => codec_ReadText _ w (by first | assumption | omega | (simp only [emp_size]; omega))) (J := ?_)
 have hzr6 := mTell_bd r5.2.1
 generalize hr6 : mTell r5.2.1 = r6 at hzr6 ⊢
 refine Msb 6 [.int .i64 c.kind, .int .i64 c.client, .int .i64 r1.1, .int .i64 r2.1, .int .i64 r3.1, .int .i64 r4.1, .string r6.1, .string c.op.b, .int .i64 r5.1] (J := ?_)
 refine Mdn (r6.2.2 = 0) (T := fun h6 => ?_) (F := fun h6 => ?_)
 rotate_left
 · refine Mt [.string emp, .int .i64 r6.2.2] fun bs w hS => ?_
   have hm : mBody c t = (c, emp, r6.2.2) := by unfold mBody; simp only [hr1, hr2, hr3, hr4, hr5, hr6, h1, h2, h3, h4, h5, h6, ne_eq, not_true_eq_false, not_false_eq_true, if_true, if_false, reduceIte]
   exact ⟨(⟨c.kind, c.client, r1.1, r2.1, r3.1, ⟨r4.1, r6.1, c.op.b, r5.1⟩⟩ : DCommand), by rw [hm]; rfl, ⟨fun h0 => absurd h0 (by rw [hm]; exact h6), ⟨(show r6.1.size ≤ 9223372036854775807 by omega), hc.2⟩⟩, hS.kp, hS.res _ (.head _)⟩
 refine Mi (pR (1)) (J := ?_)
 refine on2 2 (J := ?_)
 refine Mq 58 true rfl (J := ?_)
 refine Mi (pG [(59, .idx default 1)] (oc (rfl : (1 : Int) = ((1 : Nat) : Int)) (oc ((by omega) : 1 < 2) on))) (J := ?_)
 refine Mp (vs := fun bs => [.string r6.2.1]) Tryz.call133 (fun bs w hS => codec_ReadText _ w (by first | assumption | omega | (simp only [emp_size]; omega))) (J := ?_)
 have hzr7 := mTell_bd r6.2.1
 generalize hr7 : mTell r6.2.1 = r7 at hzr7 ⊢
 refine Msb 7 [.int .i64 c.kind, .int .i64 c.client, .int .i64 r1.1, .int .i64 r2.1, .int .i64 r3.1, .int .i64 r4.1, .string r6.1, .string r7.1, .int .i64 r5.1] (J := ?_)
 refine Mdn (r7.2.2 = 0) (T := fun h7 => ?_) (F := fun h7 => ?_)
 rotate_left
 · refine Mt [.string emp, .int .i64 r7.2.2] fun bs w hS => ?_
   have hm : mBody c t = (c, emp, r7.2.2) := by unfold mBody; simp only [hr1, hr2, hr3, hr4, hr5, hr6, hr7, h1, h2, h3, h4, h5, h6, h7, ne_eq, not_true_eq_false, not_false_eq_true, if_true, if_false, reduceIte]
   exact ⟨(⟨c.kind, c.client, r1.1, r2.1, r3.1, ⟨r4.1, r6.1, r7.1, r5.1⟩⟩ : DCommand), by rw [hm]; rfl, ⟨fun h0 => absurd h0 (by rw [hm]; exact h7), ⟨(show r6.1.size ≤ 9223372036854775807 by omega), (show r7.1.size ≤ 9223372036854775807 by omega)⟩⟩, hS.kp, hS.res _ (.head _)⟩
 refine Mi (pR (2)) (J := ?_)
 refine on2 1 (J := ?_)
 refine Mq 58 false rfl (J := ?_)
 refine Mt [.string r7.2.1, .int .i64 0] fun bs w hS => ?_
 have hm : mBody c t = ((⟨c.kind, c.client, r1.1, r2.1, r3.1, ⟨r4.1, r6.1, r7.1, r5.1⟩⟩ : DCommand), r7.2.1, 0) := by unfold mBody; simp only [hr1, hr2, hr3, hr4, hr5, hr6, hr7, h1, h2, h3, h4, h5, h6, h7, ne_eq, not_true_eq_false, not_false_eq_true, if_true, if_false, reduceIte]
 exact ⟨(⟨c.kind, c.client, r1.1, r2.1, r3.1, ⟨r4.1, r6.1, r7.1, r5.1⟩⟩ : DCommand), by rw [hm]; rfl, ⟨fun _ => by rw [hm], ⟨(show r6.1.size ≤ 9223372036854775807 by omega), (show r7.1.size ≤ 9223372036854775807 by omega)⟩⟩, hS.kp, hS.res _ (.head _)⟩

theorem command_Decode (s : ByteArray) (w : World) (hs : s.size ≤ 9223372036854775807) : Calls Tryz.prog 21 #[.string s] w fun e w' => e = .returned (.tuple #[.agg #[.int .i64 (mDecode s).1.kind, .int .i64 (mDecode s).1.client, .int .i64 (mDecode s).1.session, .int .i64 (mDecode s).1.seq, .int .i64 (mDecode s).1.acked, .int .i64 (mDecode s).1.op.kind, .string (mDecode s).1.op.a, .string (mDecode s).1.op.b, .int .i64 (mDecode s).1.op.n], .int .i64 (mDecode s).2]) ∧ Kp [] w w' := by
 have hu0 := (s.data.getD 0 0).toNat_lt
 have hu1 := (s.data.getD 1 0).toNat_lt
 have hex : (s.extract 2 s.size).size ≤ s.size := by simp
 refine M0 Tryz.func21 (J := ?_)
 refine Md ((5000 : Int) < (s.size : Int)) (T := fun h1 => ?_) (F := fun h1 => ?_)
 · refine Mt [.agg #[.int .i64 0, .int .i64 0, .int .i64 0, .int .i64 0, .int .i64 0, .int .i64 0, .string emp, .string emp, .int .i64 0], .int .i64 1] fun bs w hS => ?_
   refine ⟨?_, hS.kp⟩
   have hm : mDecode s = ((⟨0, 0, 0, 0, 0, ⟨0, emp, emp, 0⟩⟩ : DCommand), 1) := by
     have hk : (cmd0 s).kind = ((s.data.getD 0 0).toNat : Int) := rfl
     unfold mDecode
     repeat (first | rw [if_pos (by omega)] | rw [if_neg (by omega)])
     rfl
   rw [hm]
   rfl
 refine Md ((s.size : Int) < 2) (T := fun h2 => ?_) (F := fun h2 => ?_)
 · refine Mt [.agg #[.int .i64 0, .int .i64 0, .int .i64 0, .int .i64 0, .int .i64 0, .int .i64 0, .string emp, .string emp, .int .i64 0], .int .i64 5] fun bs w hS => ?_
   refine ⟨?_, hS.kp⟩
   have hm : mDecode s = ((⟨0, 0, 0, 0, 0, ⟨0, emp, emp, 0⟩⟩ : DCommand), 5) := by
     have hk : (cmd0 s).kind = ((s.data.getD 0 0).toNat : Int) := rfl
     unfold mDecode
     repeat (first | rw [if_pos (by omega)] | rw [if_neg (by omega)])
     rfl
   rw [hm]
   rfl
 refine Mda 8 [] [] [] Tryz_mixed (J := ?_)
 refine Mih (pc (pG [(16, .sidx 0)] (oc (rfl : (0 : Int) = ((0 : Nat) : Int)) (oc ((by omega) : 0 < s.size) on))) (pc (pP (0 ≤ ((s.data.getD 0 0).toNat : Int))) (pc (pP (((s.data.getD 0 0).toNat : Int) ≤ 255)) (pc (pG [(19, .sidx 1)] (oc (rfl : (1 : Int) = ((1 : Nat) : Int)) (oc ((by omega) : 1 < s.size) on))) (pc (pP (0 ≤ ((s.data.getD 1 0).toNat : Int))) (pP (((s.data.getD 1 0).toNat : Int) ≤ 255))))))) (J := ?_)
 refine Mi (pG [(23, .sl 2 s.size)] (oc (rfl : (2 : Int) = ((2 : Nat) : Int)) (oc (rfl : s.size = s.size) (oc ((by omega) : 2 ≤ s.size) on)))) (J := ?_)
 refine Md (((s.data.getD 0 0).toNat : Int) = 2) (T := fun h3 => ?_) (F := fun h3 => ?_)
 rotate_left
 · refine Mdn ((s.extract 2 s.size) = emp) (T := fun h7 => ?_) (F := fun h7 => ?_)
   rotate_left
   · refine Mt [.agg #[.int .i64 0, .int .i64 0, .int .i64 0, .int .i64 0, .int .i64 0, .int .i64 0, .string emp, .string emp, .int .i64 0], .int .i64 4] fun bs w hS => ?_
     refine ⟨?_, hS.kp⟩
     have hm : mDecode s = ((⟨0, 0, 0, 0, 0, ⟨0, emp, emp, 0⟩⟩ : DCommand), 4) := by
       have hk : (cmd0 s).kind = ((s.data.getD 0 0).toNat : Int) := rfl
       unfold mDecode
       repeat (first | rw [if_pos (by omega)] | rw [if_neg (by omega)])
       all_goals (simp only [mFin, cmd0, zOp, h7, ne_eq, not_true_eq_false, not_false_eq_true, if_true, if_false, reduceIte]; try rfl)
     rw [hm]
     rfl
   have hzh7 : (s.extract 2 s.size).size = 0 := by rw [h7]; rfl
   refine Mp Tryz.call67 (fun bs w hS => command_Check (B := anyB) (⟨((s.data.getD 0 0).toNat : Int), ((s.data.getD 1 0).toNat : Int), 0, 0, 0, ⟨0, emp, emp, 0⟩⟩ : DCommand) w ⟨(show emp.size ≤ 9223372036854775807 from (by first | assumption | omega | (simp only [emp_size]; omega))), (show emp.size ≤ 9223372036854775807 from (by first | assumption | omega | (simp only [emp_size]; omega)))⟩) (J := ?_)
   refine Mdn (mCmd (⟨((s.data.getD 0 0).toNat : Int), ((s.data.getD 1 0).toNat : Int), 0, 0, 0, ⟨0, emp, emp, 0⟩⟩ : DCommand) = 0) (T := fun h8 => ?_) (F := fun h8 => ?_)
   · refine Mt [.agg #[.int .i64 ((s.data.getD 0 0).toNat : Int), .int .i64 ((s.data.getD 1 0).toNat : Int), .int .i64 0, .int .i64 0, .int .i64 0, .int .i64 0, .string emp, .string emp, .int .i64 0], .int .i64 0] fun bs w hS => ?_
     refine ⟨?_, hS.kp⟩
     have hm : mDecode s = ((⟨((s.data.getD 0 0).toNat : Int), ((s.data.getD 1 0).toNat : Int), 0, 0, 0, ⟨0, emp, emp, 0⟩⟩ : DCommand), 0) := by
       have hk : (cmd0 s).kind = ((s.data.getD 0 0).toNat : Int) := rfl
       unfold mDecode
       repeat (first | rw [if_pos (by omega)] | rw [if_neg (by omega)])
       all_goals (simp only [mFin, cmd0, zOp, h7, h8, ne_eq, not_true_eq_false, not_false_eq_true, if_true, if_false, reduceIte]; try rfl)
     rw [hm]
     rfl
   refine Mt [.agg #[.int .i64 0, .int .i64 0, .int .i64 0, .int .i64 0, .int .i64 0, .int .i64 0, .string emp, .string emp, .int .i64 0], .int .i64 (mCmd (⟨((s.data.getD 0 0).toNat : Int), ((s.data.getD 1 0).toNat : Int), 0, 0, 0, ⟨0, emp, emp, 0⟩⟩ : DCommand))] fun bs w hS => ?_
   refine ⟨?_, hS.kp⟩
   have hm : mDecode s = ((⟨0, 0, 0, 0, 0, ⟨0, emp, emp, 0⟩⟩ : DCommand), mCmd (⟨((s.data.getD 0 0).toNat : Int), ((s.data.getD 1 0).toNat : Int), 0, 0, 0, ⟨0, emp, emp, 0⟩⟩ : DCommand)) := by
     have hk : (cmd0 s).kind = ((s.data.getD 0 0).toNat : Int) := rfl
     unfold mDecode
     repeat (first | rw [if_pos (by omega)] | rw [if_neg (by omega)])
     all_goals (simp only [mFin, cmd0, zOp, h7, h8, ne_eq, not_true_eq_false, not_false_eq_true, if_true, if_false, reduceIte]; try rfl)
   rw [hm]
   rfl
 refine Mo 1 Tryz.call66 (fun bs w hS hb => command_body (⟨((s.data.getD 0 0).toNat : Int), ((s.data.getD 1 0).toNat : Int), 0, 0, 0, ⟨0, emp, emp, 0⟩⟩ : DCommand) (bs.getD 1 0) (s.extract 2 s.size) w hb (by first | assumption | omega | (simp only [emp_size]; omega)) ⟨(by simp [emp_size]), (by simp [emp_size])⟩) (J := ?_)
 rintro y1 ⟨hF1, hG1⟩
 generalize hbd : mBody (⟨((s.data.getD 0 0).toNat : Int), ((s.data.getD 1 0).toNat : Int), 0, 0, 0, ⟨0, emp, emp, 0⟩⟩ : DCommand) (s.extract 2 s.size) = bd at hF1 ⊢
 refine Mdn (bd.2.2 = 0) (T := fun h4 => ?_) (F := fun h4 => ?_)
 rotate_left
 · refine Mt [.agg #[.int .i64 0, .int .i64 0, .int .i64 0, .int .i64 0, .int .i64 0, .int .i64 0, .string emp, .string emp, .int .i64 0], .int .i64 bd.2.2] fun bs w hS => ?_
   refine ⟨?_, hS.kp⟩
   have hm : mDecode s = ((⟨0, 0, 0, 0, 0, ⟨0, emp, emp, 0⟩⟩ : DCommand), bd.2.2) := by
     have hk : (cmd0 s).kind = ((s.data.getD 0 0).toNat : Int) := rfl
     unfold mDecode
     repeat (first | rw [if_pos (by omega)] | rw [if_neg (by omega)])
     rw [show mBody (cmd0 s) (s.extract 2 s.size) = bd from hbd]
     all_goals (simp only [mFin, cmd0, zOp, h4, ne_eq, not_true_eq_false, not_false_eq_true, if_true, if_false, reduceIte]; try rfl)
   rw [hm]
   rfl
 refine Mdn (bd.2.1 = emp) (T := fun h5 => ?_) (F := fun h5 => ?_)
 rotate_left
 · refine Mt [.agg #[.int .i64 0, .int .i64 0, .int .i64 0, .int .i64 0, .int .i64 0, .int .i64 0, .string emp, .string emp, .int .i64 0], .int .i64 4] fun bs w hS => ?_
   refine ⟨?_, hS.kp⟩
   have hm : mDecode s = ((⟨0, 0, 0, 0, 0, ⟨0, emp, emp, 0⟩⟩ : DCommand), 4) := by
     have hk : (cmd0 s).kind = ((s.data.getD 0 0).toNat : Int) := rfl
     unfold mDecode
     repeat (first | rw [if_pos (by omega)] | rw [if_neg (by omega)])
     rw [show mBody (cmd0 s) (s.extract 2 s.size) = bd from hbd]
     have hbz : bd.2.2 = 0 := by assumption
     all_goals (simp only [mFin, cmd0, zOp, ← hF1 hbz, h4, h5, ne_eq, not_true_eq_false, not_false_eq_true, if_true, if_false, reduceIte]; try rfl)
   rw [hm]
   rfl
 have hzh5 : bd.2.1.size = 0 := by rw [h5]; rfl
 refine Mp Tryz.call67 (fun bs w hS => command_Check (B := anyB) y1 w hG1) (J := ?_)
 refine Mdn (mCmd y1 = 0) (T := fun h6 => ?_) (F := fun h6 => ?_)
 rotate_left
 · refine Mt [.agg #[.int .i64 0, .int .i64 0, .int .i64 0, .int .i64 0, .int .i64 0, .int .i64 0, .string emp, .string emp, .int .i64 0], .int .i64 (mCmd y1)] fun bs w hS => ?_
   refine ⟨?_, hS.kp⟩
   have hm : mDecode s = ((⟨0, 0, 0, 0, 0, ⟨0, emp, emp, 0⟩⟩ : DCommand), mCmd y1) := by
     have hk : (cmd0 s).kind = ((s.data.getD 0 0).toNat : Int) := rfl
     unfold mDecode
     repeat (first | rw [if_pos (by omega)] | rw [if_neg (by omega)])
     rw [show mBody (cmd0 s) (s.extract 2 s.size) = bd from hbd]
     have hbz : bd.2.2 = 0 := by assumption
     all_goals (simp only [mFin, cmd0, zOp, ← hF1 hbz, h4, h5, h6, ne_eq, not_true_eq_false, not_false_eq_true, if_true, if_false, reduceIte]; try rfl)
   rw [hm]
   rfl
 refine Mt [.agg #[.int .i64 y1.kind, .int .i64 y1.client, .int .i64 y1.session, .int .i64 y1.seq, .int .i64 y1.acked, .int .i64 y1.op.kind, .string y1.op.a, .string y1.op.b, .int .i64 y1.op.n], .int .i64 0] fun bs w hS => ?_
 refine ⟨?_, hS.kp⟩
 have hm : mDecode s = ((⟨y1.kind, y1.client, y1.session, y1.seq, y1.acked, ⟨y1.op.kind, y1.op.a, y1.op.b, y1.op.n⟩⟩ : DCommand), 0) := by
   have hk : (cmd0 s).kind = ((s.data.getD 0 0).toNat : Int) := rfl
   unfold mDecode
   repeat (first | rw [if_pos (by omega)] | rw [if_neg (by omega)])
   rw [show mBody (cmd0 s) (s.extract 2 s.size) = bd from hbd]
   have hbz : bd.2.2 = 0 := by assumption
   all_goals (simp only [mFin, cmd0, zOp, ← hF1 hbz, h4, h5, h6, ne_eq, not_true_eq_false, not_false_eq_true, if_true, if_false, reduceIte]; try rfl)
 rw [hm]
 rfl

theorem ref_CommandOf (s : ByteArray) (w : World) (hs : s.size ≤ 9223372036854775807) : Calls Tryz.prog 31 #[.string s] w fun e w' => e = .returned (.tuple #[.agg #[.int .i64 (mDecode s).1.kind, .int .i64 (mDecode s).1.client, .int .i64 (mDecode s).1.session, .int .i64 (mDecode s).1.seq, .int .i64 (mDecode s).1.acked, .int .i64 (mDecode s).1.op.kind, .string (mDecode s).1.op.a, .string (mDecode s).1.op.b, .int .i64 (mDecode s).1.op.n], .int .i64 (mDecode s).2]) ∧ Kp [] w w' := by
 have hu0 := (s.data.getD 0 0).toNat_lt
 have hu1 := (s.data.getD 1 0).toNat_lt
 have hex : (s.extract 2 s.size).size ≤ s.size := by simp
 refine M0 Tryz.func31 (J := ?_)
 refine Md ((5000 : Int) < (s.size : Int)) (T := fun h1 => ?_) (F := fun h1 => ?_)
 · refine Mt [.agg #[.int .i64 0, .int .i64 0, .int .i64 0, .int .i64 0, .int .i64 0, .int .i64 0, .string emp, .string emp, .int .i64 0], .int .i64 1] fun bs w hS => ?_
   refine ⟨?_, hS.kp⟩
   have hm : mDecode s = ((⟨0, 0, 0, 0, 0, ⟨0, emp, emp, 0⟩⟩ : DCommand), 1) := by
     have hk : (cmd0 s).kind = ((s.data.getD 0 0).toNat : Int) := rfl
     unfold mDecode
     repeat (first | rw [if_pos (by omega)] | rw [if_neg (by omega)])
     rfl
   rw [hm]
   rfl
 refine Md ((s.size : Int) < 2) (T := fun h2 => ?_) (F := fun h2 => ?_)
 · refine Mt [.agg #[.int .i64 0, .int .i64 0, .int .i64 0, .int .i64 0, .int .i64 0, .int .i64 0, .string emp, .string emp, .int .i64 0], .int .i64 5] fun bs w hS => ?_
   refine ⟨?_, hS.kp⟩
   have hm : mDecode s = ((⟨0, 0, 0, 0, 0, ⟨0, emp, emp, 0⟩⟩ : DCommand), 5) := by
     have hk : (cmd0 s).kind = ((s.data.getD 0 0).toNat : Int) := rfl
     unfold mDecode
     repeat (first | rw [if_pos (by omega)] | rw [if_neg (by omega)])
     rfl
   rw [hm]
   rfl
 refine Mda 8 [] [] [] Tryz_mixed (J := ?_)
 refine Mih (pc (pG [(27, .sidx 0)] (oc (rfl : (0 : Int) = ((0 : Nat) : Int)) (oc ((by omega) : 0 < s.size) on))) (pc (pP (0 ≤ ((s.data.getD 0 0).toNat : Int))) (pc (pP (((s.data.getD 0 0).toNat : Int) ≤ 255)) (pc (pG [(30, .sidx 1)] (oc (rfl : (1 : Int) = ((1 : Nat) : Int)) (oc ((by omega) : 1 < s.size) on))) (pc (pP (0 ≤ ((s.data.getD 1 0).toNat : Int))) (pP (((s.data.getD 1 0).toNat : Int) ≤ 255))))))) (J := ?_)
 refine Mi (pG [(34, .sl 2 s.size)] (oc (rfl : (2 : Int) = ((2 : Nat) : Int)) (oc (rfl : s.size = s.size) (oc ((by omega) : 2 ≤ s.size) on)))) (J := ?_)
 refine Md (((s.data.getD 0 0).toNat : Int) = 2) (T := fun h3 => ?_) (F := fun h3 => ?_)
 rotate_left
 · refine Mdn ((s.extract 2 s.size) = emp) (T := fun h13 => ?_) (F := fun h13 => ?_)
   rotate_left
   · refine Mt [.agg #[.int .i64 0, .int .i64 0, .int .i64 0, .int .i64 0, .int .i64 0, .int .i64 0, .string emp, .string emp, .int .i64 0], .int .i64 4] fun bs w hS => ?_
     refine ⟨?_, hS.kp⟩
     have hm : mDecode s = ((⟨0, 0, 0, 0, 0, ⟨0, emp, emp, 0⟩⟩ : DCommand), 4) := by
       have hk : (cmd0 s).kind = ((s.data.getD 0 0).toNat : Int) := rfl
       unfold mDecode
       repeat (first | rw [if_pos (by omega)] | rw [if_neg (by omega)])
       all_goals (simp only [mFin, mBody, cmd0, zOp, h13, ne_eq, not_true_eq_false, not_false_eq_true, if_true, if_false, reduceIte]; try rfl)
     rw [hm]
     rfl
   have hzh13 : (s.extract 2 s.size).size = 0 := by rw [h13]; rfl
   refine Mp Tryz.call97 (fun bs w hS => ref_CommandFault (B := anyB) (⟨((s.data.getD 0 0).toNat : Int), ((s.data.getD 1 0).toNat : Int), 0, 0, 0, ⟨0, emp, emp, 0⟩⟩ : DCommand) w ⟨(show emp.size ≤ 9223372036854775807 from (by first | assumption | omega | (simp only [emp_size]; omega))), (show emp.size ≤ 9223372036854775807 from (by first | assumption | omega | (simp only [emp_size]; omega)))⟩) (J := ?_)
   refine Mdn (mCmd (⟨((s.data.getD 0 0).toNat : Int), ((s.data.getD 1 0).toNat : Int), 0, 0, 0, ⟨0, emp, emp, 0⟩⟩ : DCommand) = 0) (T := fun h14 => ?_) (F := fun h14 => ?_)
   · refine Mt [.agg #[.int .i64 ((s.data.getD 0 0).toNat : Int), .int .i64 ((s.data.getD 1 0).toNat : Int), .int .i64 0, .int .i64 0, .int .i64 0, .int .i64 0, .string emp, .string emp, .int .i64 0], .int .i64 0] fun bs w hS => ?_
     refine ⟨?_, hS.kp⟩
     have hm : mDecode s = ((⟨((s.data.getD 0 0).toNat : Int), ((s.data.getD 1 0).toNat : Int), 0, 0, 0, ⟨0, emp, emp, 0⟩⟩ : DCommand), 0) := by
       have hk : (cmd0 s).kind = ((s.data.getD 0 0).toNat : Int) := rfl
       unfold mDecode
       repeat (first | rw [if_pos (by omega)] | rw [if_neg (by omega)])
       all_goals (simp only [mFin, mBody, cmd0, zOp, h13, h14, ne_eq, not_true_eq_false, not_false_eq_true, if_true, if_false, reduceIte]; try rfl)
     rw [hm]
     rfl
   refine Mt [.agg #[.int .i64 0, .int .i64 0, .int .i64 0, .int .i64 0, .int .i64 0, .int .i64 0, .string emp, .string emp, .int .i64 0], .int .i64 (mCmd (⟨((s.data.getD 0 0).toNat : Int), ((s.data.getD 1 0).toNat : Int), 0, 0, 0, ⟨0, emp, emp, 0⟩⟩ : DCommand))] fun bs w hS => ?_
   refine ⟨?_, hS.kp⟩
   have hm : mDecode s = ((⟨0, 0, 0, 0, 0, ⟨0, emp, emp, 0⟩⟩ : DCommand), mCmd (⟨((s.data.getD 0 0).toNat : Int), ((s.data.getD 1 0).toNat : Int), 0, 0, 0, ⟨0, emp, emp, 0⟩⟩ : DCommand)) := by
     have hk : (cmd0 s).kind = ((s.data.getD 0 0).toNat : Int) := rfl
     unfold mDecode
     repeat (first | rw [if_pos (by omega)] | rw [if_neg (by omega)])
     all_goals (simp only [mFin, mBody, cmd0, zOp, h13, h14, ne_eq, not_true_eq_false, not_false_eq_true, if_true, if_false, reduceIte]; try rfl)
   rw [hm]
   rfl
 refine Mun 6 (B := fun _ on1 => ?_)
 refine Mq 39 true rfl (J := ?_)
 refine Mp (vs := fun bs => [.string (s.extract 2 s.size)]) Tryz.call95 (fun bs w hS => ref_NumberOf _ w (by first | assumption | omega | (simp only [emp_size]; omega))) (J := ?_)
 have hzr1 := mRead_bd (s.extract 2 s.size)
 generalize hr1 : mRead (s.extract 2 s.size) = r1 at hzr1 ⊢
 refine Mdn (r1.2.2 = 0) (T := fun h4 => ?_) (F := fun h4 => ?_)
 rotate_left
 · refine Mt [.agg #[.int .i64 0, .int .i64 0, .int .i64 0, .int .i64 0, .int .i64 0, .int .i64 0, .string emp, .string emp, .int .i64 0], .int .i64 r1.2.2] fun bs w hS => ?_
   refine ⟨?_, hS.kp⟩
   have hm : mDecode s = ((⟨0, 0, 0, 0, 0, ⟨0, emp, emp, 0⟩⟩ : DCommand), r1.2.2) := by
     have hk : (cmd0 s).kind = ((s.data.getD 0 0).toNat : Int) := rfl
     unfold mDecode
     repeat (first | rw [if_pos (by omega)] | rw [if_neg (by omega)])
     all_goals (simp only [mFin, mBody, cmd0, zOp, hr1, h4, ne_eq, not_true_eq_false, not_false_eq_true, if_true, if_false, reduceIte]; try rfl)
   rw [hm]
   rfl
 refine Mi (pc (pG [(54, .idx default 0)] (oc (rfl : (0 : Int) = ((0 : Nat) : Int)) (oc ((by omega) : 0 < 5) on))) (pR (1))) (J := ?_)
 refine on1 5 (J := ?_)
 refine Mq 39 true rfl (J := ?_)
 refine Mp (vs := fun bs => [.string r1.2.1]) Tryz.call95 (fun bs w hS => ref_NumberOf _ w (by first | assumption | omega | (simp only [emp_size]; omega))) (J := ?_)
 have hzr2 := mRead_bd r1.2.1
 generalize hr2 : mRead r1.2.1 = r2 at hzr2 ⊢
 refine Mdn (r2.2.2 = 0) (T := fun h5 => ?_) (F := fun h5 => ?_)
 rotate_left
 · refine Mt [.agg #[.int .i64 0, .int .i64 0, .int .i64 0, .int .i64 0, .int .i64 0, .int .i64 0, .string emp, .string emp, .int .i64 0], .int .i64 r2.2.2] fun bs w hS => ?_
   refine ⟨?_, hS.kp⟩
   have hm : mDecode s = ((⟨0, 0, 0, 0, 0, ⟨0, emp, emp, 0⟩⟩ : DCommand), r2.2.2) := by
     have hk : (cmd0 s).kind = ((s.data.getD 0 0).toNat : Int) := rfl
     unfold mDecode
     repeat (first | rw [if_pos (by omega)] | rw [if_neg (by omega)])
     all_goals (simp only [mFin, mBody, cmd0, zOp, hr1, hr2, h4, h5, ne_eq, not_true_eq_false, not_false_eq_true, if_true, if_false, reduceIte]; try rfl)
   rw [hm]
   rfl
 refine Mi (pc (pG [(54, .idx default 1)] (oc (rfl : (1 : Int) = ((1 : Nat) : Int)) (oc ((by omega) : 1 < 5) on))) (pR (2))) (J := ?_)
 refine on1 4 (J := ?_)
 refine Mq 39 true rfl (J := ?_)
 refine Mp (vs := fun bs => [.string r2.2.1]) Tryz.call95 (fun bs w hS => ref_NumberOf _ w (by first | assumption | omega | (simp only [emp_size]; omega))) (J := ?_)
 have hzr3 := mRead_bd r2.2.1
 generalize hr3 : mRead r2.2.1 = r3 at hzr3 ⊢
 refine Mdn (r3.2.2 = 0) (T := fun h6 => ?_) (F := fun h6 => ?_)
 rotate_left
 · refine Mt [.agg #[.int .i64 0, .int .i64 0, .int .i64 0, .int .i64 0, .int .i64 0, .int .i64 0, .string emp, .string emp, .int .i64 0], .int .i64 r3.2.2] fun bs w hS => ?_
   refine ⟨?_, hS.kp⟩
   have hm : mDecode s = ((⟨0, 0, 0, 0, 0, ⟨0, emp, emp, 0⟩⟩ : DCommand), r3.2.2) := by
     have hk : (cmd0 s).kind = ((s.data.getD 0 0).toNat : Int) := rfl
     unfold mDecode
     repeat (first | rw [if_pos (by omega)] | rw [if_neg (by omega)])
     all_goals (simp only [mFin, mBody, cmd0, zOp, hr1, hr2, hr3, h4, h5, h6, ne_eq, not_true_eq_false, not_false_eq_true, if_true, if_false, reduceIte]; try rfl)
   rw [hm]
   rfl
 refine Mi (pc (pG [(54, .idx default 2)] (oc (rfl : (2 : Int) = ((2 : Nat) : Int)) (oc ((by omega) : 2 < 5) on))) (pR (3))) (J := ?_)
 refine on1 3 (J := ?_)
 refine Mq 39 true rfl (J := ?_)
 refine Mp (vs := fun bs => [.string r3.2.1]) Tryz.call95 (fun bs w hS => ref_NumberOf _ w (by first | assumption | omega | (simp only [emp_size]; omega))) (J := ?_)
 have hzr4 := mRead_bd r3.2.1
 generalize hr4 : mRead r3.2.1 = r4 at hzr4 ⊢
 refine Mdn (r4.2.2 = 0) (T := fun h7 => ?_) (F := fun h7 => ?_)
 rotate_left
 · refine Mt [.agg #[.int .i64 0, .int .i64 0, .int .i64 0, .int .i64 0, .int .i64 0, .int .i64 0, .string emp, .string emp, .int .i64 0], .int .i64 r4.2.2] fun bs w hS => ?_
   refine ⟨?_, hS.kp⟩
   have hm : mDecode s = ((⟨0, 0, 0, 0, 0, ⟨0, emp, emp, 0⟩⟩ : DCommand), r4.2.2) := by
     have hk : (cmd0 s).kind = ((s.data.getD 0 0).toNat : Int) := rfl
     unfold mDecode
     repeat (first | rw [if_pos (by omega)] | rw [if_neg (by omega)])
     all_goals (simp only [mFin, mBody, cmd0, zOp, hr1, hr2, hr3, hr4, h4, h5, h6, h7, ne_eq, not_true_eq_false, not_false_eq_true, if_true, if_false, reduceIte]; try rfl)
   rw [hm]
   rfl
 refine Mi (pc (pG [(54, .idx default 3)] (oc (rfl : (3 : Int) = ((3 : Nat) : Int)) (oc ((by omega) : 3 < 5) on))) (pR (4))) (J := ?_)
 refine on1 2 (J := ?_)
 refine Mq 39 true rfl (J := ?_)
 refine Mp (vs := fun bs => [.string r4.2.1]) Tryz.call95 (fun bs w hS => ref_NumberOf _ w (by first | assumption | omega | (simp only [emp_size]; omega))) (J := ?_)
 have hzr5 := mRead_bd r4.2.1
 generalize hr5 : mRead r4.2.1 = r5 at hzr5 ⊢
 refine Mdn (r5.2.2 = 0) (T := fun h8 => ?_) (F := fun h8 => ?_)
 rotate_left
 · refine Mt [.agg #[.int .i64 0, .int .i64 0, .int .i64 0, .int .i64 0, .int .i64 0, .int .i64 0, .string emp, .string emp, .int .i64 0], .int .i64 r5.2.2] fun bs w hS => ?_
   refine ⟨?_, hS.kp⟩
   have hm : mDecode s = ((⟨0, 0, 0, 0, 0, ⟨0, emp, emp, 0⟩⟩ : DCommand), r5.2.2) := by
     have hk : (cmd0 s).kind = ((s.data.getD 0 0).toNat : Int) := rfl
     unfold mDecode
     repeat (first | rw [if_pos (by omega)] | rw [if_neg (by omega)])
     all_goals (simp only [mFin, mBody, cmd0, zOp, hr1, hr2, hr3, hr4, hr5, h4, h5, h6, h7, h8, ne_eq, not_true_eq_false, not_false_eq_true, if_true, if_false, reduceIte]; try rfl)
   rw [hm]
   rfl
 refine Mi (pc (pG [(54, .idx default 4)] (oc (rfl : (4 : Int) = ((4 : Nat) : Int)) (oc ((by omega) : 4 < 5) on))) (pR (5))) (J := ?_)
 refine on1 1 (J := ?_)
 refine Mq 39 false rfl (J := ?_)
 refine Mi (pc (pG [(56, .idx default 0)] (oc (rfl : (0 : Int) = ((0 : Nat) : Int)) (oc ((by omega) : 0 < 5) on))) (pc (pG [(59, .idx default 1)] (oc (rfl : (1 : Int) = ((1 : Nat) : Int)) (oc ((by omega) : 1 < 5) on))) (pc (pG [(62, .idx default 2)] (oc (rfl : (2 : Int) = ((2 : Nat) : Int)) (oc ((by omega) : 2 < 5) on))) (pc (pG [(65, .idx default 3)] (oc (rfl : (3 : Int) = ((3 : Nat) : Int)) (oc ((by omega) : 3 < 5) on))) (pG [(69, .idx default 4)] (oc (rfl : (4 : Int) = ((4 : Nat) : Int)) (oc ((by omega) : 4 < 5) on))))))) (J := ?_)
 refine Mp (vs := fun bs => [.string r5.2.1]) Tryz.call96 (fun bs w hS => ref_TextOf _ w (by first | assumption | omega | (simp only [emp_size]; omega))) (J := ?_)
 have hzr6 := mTell_bd r5.2.1
 generalize hr6 : mTell r5.2.1 = r6 at hzr6 ⊢
 refine Mdn (r6.2.2 = 0) (T := fun h9 => ?_) (F := fun h9 => ?_)
 rotate_left
 · refine Mt [.agg #[.int .i64 0, .int .i64 0, .int .i64 0, .int .i64 0, .int .i64 0, .int .i64 0, .string emp, .string emp, .int .i64 0], .int .i64 r6.2.2] fun bs w hS => ?_
   refine ⟨?_, hS.kp⟩
   have hm : mDecode s = ((⟨0, 0, 0, 0, 0, ⟨0, emp, emp, 0⟩⟩ : DCommand), r6.2.2) := by
     have hk : (cmd0 s).kind = ((s.data.getD 0 0).toNat : Int) := rfl
     unfold mDecode
     repeat (first | rw [if_pos (by omega)] | rw [if_neg (by omega)])
     all_goals (simp only [mFin, mBody, cmd0, zOp, hr1, hr2, hr3, hr4, hr5, hr6, h4, h5, h6, h7, h8, h9, ne_eq, not_true_eq_false, not_false_eq_true, if_true, if_false, reduceIte]; try rfl)
   rw [hm]
   rfl
 refine Mp (vs := fun bs => [.string r6.2.1]) Tryz.call96 (fun bs w hS => ref_TextOf _ w (by first | assumption | omega | (simp only [emp_size]; omega))) (J := ?_)
 have hzr7 := mTell_bd r6.2.1
 generalize hr7 : mTell r6.2.1 = r7 at hzr7 ⊢
 refine Mdn (r7.2.2 = 0) (T := fun h10 => ?_) (F := fun h10 => ?_)
 rotate_left
 · refine Mt [.agg #[.int .i64 0, .int .i64 0, .int .i64 0, .int .i64 0, .int .i64 0, .int .i64 0, .string emp, .string emp, .int .i64 0], .int .i64 r7.2.2] fun bs w hS => ?_
   refine ⟨?_, hS.kp⟩
   have hm : mDecode s = ((⟨0, 0, 0, 0, 0, ⟨0, emp, emp, 0⟩⟩ : DCommand), r7.2.2) := by
     have hk : (cmd0 s).kind = ((s.data.getD 0 0).toNat : Int) := rfl
     unfold mDecode
     repeat (first | rw [if_pos (by omega)] | rw [if_neg (by omega)])
     all_goals (simp only [mFin, mBody, cmd0, zOp, hr1, hr2, hr3, hr4, hr5, hr6, hr7, h4, h5, h6, h7, h8, h9, h10, ne_eq, not_true_eq_false, not_false_eq_true, if_true, if_false, reduceIte]; try rfl)
   rw [hm]
   rfl
 refine Mdn (r7.2.1 = emp) (T := fun h11 => ?_) (F := fun h11 => ?_)
 rotate_left
 · refine Mt [.agg #[.int .i64 0, .int .i64 0, .int .i64 0, .int .i64 0, .int .i64 0, .int .i64 0, .string emp, .string emp, .int .i64 0], .int .i64 4] fun bs w hS => ?_
   refine ⟨?_, hS.kp⟩
   have hm : mDecode s = ((⟨0, 0, 0, 0, 0, ⟨0, emp, emp, 0⟩⟩ : DCommand), 4) := by
     have hk : (cmd0 s).kind = ((s.data.getD 0 0).toNat : Int) := rfl
     unfold mDecode
     repeat (first | rw [if_pos (by omega)] | rw [if_neg (by omega)])
     all_goals (simp only [mFin, mBody, cmd0, zOp, hr1, hr2, hr3, hr4, hr5, hr6, hr7, h4, h5, h6, h7, h8, h9, h10, h11, ne_eq, not_true_eq_false, not_false_eq_true, if_true, if_false, reduceIte]; try rfl)
   rw [hm]
   rfl
 have hzh11 : r7.2.1.size = 0 := by rw [h11]; rfl
 refine Mp Tryz.call97 (fun bs w hS => ref_CommandFault (B := anyB) (⟨((s.data.getD 0 0).toNat : Int), ((s.data.getD 1 0).toNat : Int), r1.1, r2.1, r3.1, ⟨r4.1, r6.1, r7.1, r5.1⟩⟩ : DCommand) w ⟨(show r6.1.size ≤ 9223372036854775807 from (by first | assumption | omega | (simp only [emp_size]; omega))), (show r7.1.size ≤ 9223372036854775807 from (by first | assumption | omega | (simp only [emp_size]; omega)))⟩) (J := ?_)
 refine Mdn (mCmd (⟨((s.data.getD 0 0).toNat : Int), ((s.data.getD 1 0).toNat : Int), r1.1, r2.1, r3.1, ⟨r4.1, r6.1, r7.1, r5.1⟩⟩ : DCommand) = 0) (T := fun h12 => ?_) (F := fun h12 => ?_)
 · refine Mt [.agg #[.int .i64 ((s.data.getD 0 0).toNat : Int), .int .i64 ((s.data.getD 1 0).toNat : Int), .int .i64 r1.1, .int .i64 r2.1, .int .i64 r3.1, .int .i64 r4.1, .string r6.1, .string r7.1, .int .i64 r5.1], .int .i64 0] fun bs w hS => ?_
   refine ⟨?_, hS.kp⟩
   have hm : mDecode s = ((⟨((s.data.getD 0 0).toNat : Int), ((s.data.getD 1 0).toNat : Int), r1.1, r2.1, r3.1, ⟨r4.1, r6.1, r7.1, r5.1⟩⟩ : DCommand), 0) := by
     have hk : (cmd0 s).kind = ((s.data.getD 0 0).toNat : Int) := rfl
     unfold mDecode
     repeat (first | rw [if_pos (by omega)] | rw [if_neg (by omega)])
     all_goals (simp only [mFin, mBody, cmd0, zOp, hr1, hr2, hr3, hr4, hr5, hr6, hr7, h4, h5, h6, h7, h8, h9, h10, h11, h12, ne_eq, not_true_eq_false, not_false_eq_true, if_true, if_false, reduceIte]; try rfl)
   rw [hm]
   rfl
 refine Mt [.agg #[.int .i64 0, .int .i64 0, .int .i64 0, .int .i64 0, .int .i64 0, .int .i64 0, .string emp, .string emp, .int .i64 0], .int .i64 (mCmd (⟨((s.data.getD 0 0).toNat : Int), ((s.data.getD 1 0).toNat : Int), r1.1, r2.1, r3.1, ⟨r4.1, r6.1, r7.1, r5.1⟩⟩ : DCommand))] fun bs w hS => ?_
 refine ⟨?_, hS.kp⟩
 have hm : mDecode s = ((⟨0, 0, 0, 0, 0, ⟨0, emp, emp, 0⟩⟩ : DCommand), mCmd (⟨((s.data.getD 0 0).toNat : Int), ((s.data.getD 1 0).toNat : Int), r1.1, r2.1, r3.1, ⟨r4.1, r6.1, r7.1, r5.1⟩⟩ : DCommand)) := by
   have hk : (cmd0 s).kind = ((s.data.getD 0 0).toNat : Int) := rfl
   unfold mDecode
   repeat (first | rw [if_pos (by omega)] | rw [if_neg (by omega)])
   all_goals (simp only [mFin, mBody, cmd0, zOp, hr1, hr2, hr3, hr4, hr5, hr6, hr7, h4, h5, h6, h7, h8, h9, h10, h11, h12, ne_eq, not_true_eq_false, not_false_eq_true, if_true, if_false, reduceIte]; try rfl)
 rw [hm]
 rfl

theorem lock_client (n : Int) (w : World) : Calls Tryz.prog 130 #[.int .i64 n] w fun e w' => e = .returned (.bool (inB n 1 9)) ∧ Kp [] w w' := by
 refine M0 Tryz.func130 (J := ?_)
 refine Md ((1 : Int) ≤ n) (T := fun h1 => ?_) (F := fun h1 => ?_)
 rotate_left
 · exact Mt [.bool false] fun bs w hS => ⟨by simp [retOf, den, inB, h1], hS.kp⟩
 exact Mt [.bool (decide (n ≤ 9))] fun bs w hS => ⟨by simp [retOf, den, inB, h1], hS.kp⟩

theorem idx_ints {B : Nat → Prop} (s : Sl Int) (k : Nat) (n : Int) (w : World) (hs : s.rd B w) (hk : k ≤ s.n) : Calls Tryz.prog 138 #[.slice s.A k s.c, .int .i64 n] w fun e w' => e = .returned (.int .i64 (mIdx (fun z => decide (z = n)) (s.xs.take k))) ∧ Kp [] w w' := by
 have oks := Sl.rd.ok hs
 have ncs := Sl.ok.nc oks
 have hns : s.n = s.xs.length := rfl
 refine M0 Tryz.func138 (J := ?_)
 refine Ml (σ := Nat) (fun i => i ≤ k ∧ ∀ j, j < i → decide (s.at j = n) = false) (fun i => k - i) (fun _ => []) [8, 7, 0, 1] (fun i => [(8, vI (i : Int))]) (fun _ => []) 0 ⟨Nat.zero_le _, fun j hj => absurd hj (Nat.not_lt_zero _)⟩ (B := ?_)
 rintro i ⟨hi, hI⟩ _ on1
 refine Md ((i : Int) < (k : Int)) (T := fun h1 => ?_) (F := fun h1 => ?_)
 rotate_left
 · refine Mt [.int .i64 (-1)] fun bs w hS => ?_
   refine ⟨?_, hS.kp⟩
   rw [mIdxT_none hk fun j hj => hI j (by omega)]
   rfl
 refine Mi (pc (pIk 14 (i : Int) i k (rdk hs)) (pE 15 i (rdk hs))) (J := ?_)
 refine Md (n = (s.at i)) (T := fun h2 => ?_) (F := fun h2 => ?_)
 · refine Mt [.int .i64 (i : Int)] fun bs w hS => ?_
   refine ⟨?_, hS.kp⟩
   rw [mIdxT_here (i := i) hk (by omega) (decide_eq_true (by omega)) hI]
   rfl
 refine Mi (pR ((i : Int) + 1)) (J := ?_)
 exact on1 (i + 1) ⟨by omega, fun j hj => by rcases Nat.lt_succ_iff_lt_or_eq.1 hj with h | h; exact hI j h; subst h; exact decide_eq_false (fun e => by omega)⟩ (by omega)

theorem has_ints {B : Nat → Prop} (s : Sl Int) (k : Nat) (n : Int) (w : World) (hs : s.rd B w) (hk : k ≤ s.n) : Calls Tryz.prog 150 #[.slice s.A k s.c, .int .i64 n] w fun e w' => e = .returned (.bool ((s.xs.take k).any fun z => decide (z = n))) ∧ Kp [] w w' := by
 have oks := Sl.rd.ok hs
 have ncs := Sl.ok.nc oks
 have hns : s.n = s.xs.length := rfl
 refine M0 Tryz.func150 (J := ?_)
 refine Mp Tryz.call138 (fun bs w hS => idx_ints s k n w (Sl.rd.kp hs hS.kp) (by omega)) (J := ?_)
 refine Mt [.bool (decide ((0 : Int) ≤ mIdx (fun z => decide (z = n)) (s.xs.take k)))] fun bs w hS => ?_
 refine ⟨?_, hS.kp⟩
 simp only [retOf, den, List.map_cons, List.map_nil, mIdx_nonneg]

theorem ref_has {B : Nat → Prop} (s : Sl Int) (k : Nat) (n : Int) (w : World) (hs : s.rd B w) (hk : k ≤ s.n) : Calls Tryz.prog 103 #[.slice s.A k s.c, .int .i64 n] w fun e w' => e = .returned (.bool ((s.xs.take k).any fun z => decide (z = n))) ∧ Kp [] w w' := by
 have oks := Sl.rd.ok hs
 have ncs := Sl.ok.nc oks
 have hns : s.n = s.xs.length := rfl
 refine M0 Tryz.func103 (J := ?_)
 refine Ml (σ := Nat) (fun i => i ≤ k ∧ ∀ j, j < i → ¬ s.at j = n) (fun i => k - i) (fun _ => []) [5, 0, 1] (fun i => [(5, vI (i : Int))]) (fun _ => []) 0 ⟨Nat.zero_le _, fun j hj => absurd hj (Nat.not_lt_zero _)⟩ (B := ?_)
 rintro i ⟨hi, hI⟩ _ on1
 refine Md ((i : Int) < (k : Int)) (T := fun h1 => ?_) (F := fun h1 => ?_)
 rotate_left
 · refine Mt [.bool false] fun bs w hS => ?_
   refine ⟨?_, hS.kp⟩
   rw [any_none hk fun j hj => hI j (by omega)]
   rfl
 refine Mi (pc (pIk 14 (i : Int) i k (rdk hs)) (pE 15 i (rdk hs))) (J := ?_)
 refine Md ((s.at i) = n) (T := fun h2 => ?_) (F := fun h2 => ?_)
 · refine Mt [.bool true] fun bs w hS => ?_
   refine ⟨?_, hS.kp⟩
   rw [any_here (j := i) hk (by omega) (by assumption)]
   rfl
 refine Mi (pR ((i : Int) + 1)) (J := ?_)
 exact on1 (i + 1) ⟨by omega, fun j hj => by rcases Nat.lt_succ_iff_lt_or_eq.1 hj with h | h; exact hI j h; subst h; assumption⟩ (by omega)

theorem lock_line {B : Nat → Prop} (x : CLock) (w : World) (hx : Rds.sub B w x) : Calls Tryz.prog 131 #[.agg #[.string x.name, .int .i64 x.holder, .int .i64 x.fence, .slice x.line.A x.line.n x.line.c]] w fun e w' => e = .returned (.bool (lineOk x.abs)) ∧ Kp [] w w' := by
 have okx := Rds.okof hx
 have ncx := Sl.ok.nc okx.2
 have hnx : x.line.n = x.line.xs.length := rfl
 have hll : x.abs.line.length = x.line.n := rfl
 have hho : x.abs.holder = x.holder := rfl
 have hp : ∀ q, posOk x.abs q = (inB (x.line.at q) 1 9 && (!decide (x.line.at q = x.holder) && !((x.line.xs.take q).any fun z => decide (z = x.line.at q)))) := fun _ => rfl
 refine M0 Tryz.func131 (J := ?_)
 refine Ml (σ := Nat) (fun i => i ≤ x.line.n ∧ allTo (posOk x.abs) i = true) (fun i => x.line.n - i) (fun _ => []) [8, 7, 6, 1] (fun i => [(8, vI (i : Int))]) (fun _ => []) 0 ⟨Nat.zero_le _, rfl⟩ (B := ?_)
 rintro i ⟨hi, hI⟩ _ on1
 refine Md ((i : Int) < (x.line.n : Int)) (T := fun h1 => ?_) (F := fun h1 => ?_)
 rotate_left
 · refine Md ((x.line.n : Int) ≤ 3) (T := fun h5 => ?_) (F := fun h5 => ?_)
   rotate_left
   · refine Mt [.bool false] fun bs w hS => ?_
     refine ⟨?_, hS.kp⟩
     have hall : allTo (posOk x.abs) x.line.n = true := by rw [show x.line.n = i by omega]; exact hI
     have hm : lineOk x.abs = (false) := by
       rw [Bool.eq_iff_iff]
       simp only [lineOk, hll, hho, hall, Bool.true_and, Bool.and_eq_true, Bool.or_eq_true, Bool.not_eq_true', decide_eq_true_eq, decide_eq_false_iff_not, Bool.false_eq_true, iff_true, iff_false]
       omega
     rw [hm]
     rfl
   refine Mdn (x.holder = 0) (T := fun h6 => ?_) (F := fun h6 => ?_)
   rotate_left
   · refine Mt [.bool true] fun bs w hS => ?_
     refine ⟨?_, hS.kp⟩
     have hall : allTo (posOk x.abs) x.line.n = true := by rw [show x.line.n = i by omega]; exact hI
     have hm : lineOk x.abs = (true) := by
       rw [Bool.eq_iff_iff]
       simp only [lineOk, hll, hho, hall, Bool.true_and, Bool.and_eq_true, Bool.or_eq_true, Bool.not_eq_true', decide_eq_true_eq, decide_eq_false_iff_not, Bool.false_eq_true, iff_true, iff_false]
       omega
     rw [hm]
     rfl
   refine Mt [.bool (decide ((x.line.n : Int) = 0))] fun bs w hS => ?_
   refine ⟨?_, hS.kp⟩
   have hall : allTo (posOk x.abs) x.line.n = true := by rw [show x.line.n = i by omega]; exact hI
   have hm : lineOk x.abs = (decide ((x.line.n : Int) = 0)) := by
     rw [Bool.eq_iff_iff]
     simp only [lineOk, hll, hho, hall, Bool.true_and, Bool.and_eq_true, Bool.or_eq_true, Bool.not_eq_true', decide_eq_true_eq, decide_eq_false_iff_not, Bool.false_eq_true, iff_true, iff_false]
     omega
   rw [hm]
   rfl
 refine Mi (pA 11 12 (i : Int) i (s := x.line) (fun w hk hr => (And.right (Rds.kp hx hk)))) (J := ?_)
 refine Mp Tryz.call130 (fun bs w hS => lock_client (x.line.at i) w) (J := ?_)
 refine Mbn (inB (x.line.at i) 1 9) (T := fun h2 => ?_) (F := fun h2 => ?_)
 rotate_left
 · refine Mt [.bool false] fun bs w hS => ?_
   refine ⟨?_, hS.kp⟩
   have hb : posOk x.abs i = false := by rw [hp]; simp [h1, h2]
   have hm : lineOk x.abs = false := by unfold lineOk; rw [allTo_bad hb (show i < x.abs.line.length by rw [hll]; omega)]; rfl
   rw [hm]
   rfl
 refine Md ((x.line.at i) = x.holder) (T := fun h3 => ?_) (F := fun h3 => ?_)
 · refine Mt [.bool false] fun bs w hS => ?_
   refine ⟨?_, hS.kp⟩
   have hb : posOk x.abs i = false := by rw [hp]; simp [h1, h2, h3]
   have hm : lineOk x.abs = false := by unfold lineOk; rw [allTo_bad hb (show i < x.abs.line.length by rw [hll]; omega)]; rfl
   rw [hm]
   rfl
 refine Mi (pG [(26, .sl 0 i)] (oc (rfl : 0 = 0) (oc (rfl : (i : Int) = (i : Int)) (oc ((by omega) : i ≤ x.line.c) on)))) (J := ?_)
 refine Mp Tryz.call150 (fun bs w hS => has_ints x.line i (x.line.at i) w (And.right (Rds.kp hx hS.kp)) (by omega)) (J := ?_)
 refine Mb ((x.line.xs.take i).any fun z => decide (z = (x.line.at i))) (T := fun h4 => ?_) (F := fun h4 => ?_)
 rotate_left
 · refine Mi (pR ((i : Int) + 1)) (J := ?_)
   exact on1 (i + 1) ⟨by omega, by show (allTo _ i && posOk x.abs i) = true; rw [hI, hp]; simp [*]⟩ (by omega)
 refine Mt [.bool false] fun bs w hS => ?_
 refine ⟨?_, hS.kp⟩
 have hb : posOk x.abs i = false := by rw [hp]; simp [h1, h2, h3, h4]
 have hm : lineOk x.abs = false := by unfold lineOk; rw [allTo_bad hb (show i < x.abs.line.length by rw [hll]; omega)]; rfl
 rw [hm]
 rfl

theorem lock_Check {B : Nat → Prop} (s : Sl CLock) (w : World) (hs : s.rd B w) : Calls Tryz.prog 64 #[.slice s.A s.n s.c] w fun e w' => e = .returned (.int .i64 (mLocks (s.xs.map CLock.abs))) ∧ Kp [] w w' := by
 have oks := Sl.rd.ok hs
 have ncs := Sl.ok.nc oks
 have hns : s.n = s.xs.length := rfl
 have hat : ∀ q, (s.xs.map CLock.abs).getD q default = (s.at q).abs := fun q => abs_at q
 have hq1 : ∀ q, (s.at q).abs.name = (s.at q).name := fun _ => rfl
 have hq2 : ∀ q, (s.at q).abs.holder = (s.at q).holder := fun _ => rfl
 have hq3 : ∀ q, (s.at q).abs.fence = (s.at q).fence := fun _ => rfl
 have hml : (s.xs.map CLock.abs).length = s.n := by simp
 refine M0 Tryz.func64 (J := ?_)
 refine Md ((5 : Int) < (s.n : Int)) (T := fun h1 => ?_) (F := fun h1 => ?_)
 · refine Mt [.int .i64 1] fun bs w hS => ?_
   refine ⟨?_, hS.kp⟩
   simp only [retOf, den, List.map_cons, List.map_nil]
   have hm : mLocks (s.xs.map CLock.abs) = 1 := by
     unfold mLocks; rw [hml, if_pos (by omega)]
   rw [hm]
 refine Ml (σ := Nat) (fun i => i ≤ s.n ∧ mLocks (s.xs.map CLock.abs) = firstF (lockF (s.xs.map CLock.abs)) (s.n - i) i) (fun i => s.n - i) (fun _ => []) [10, 9, 8, 0] (fun i => [(10, vI (i : Int))]) (fun _ => []) 0 ⟨Nat.zero_le _, by unfold mLocks; rw [hml, if_neg (by omega)]⟩ (B := ?_)
 rintro i ⟨hi, hI⟩ _ on1
 refine Md ((i : Int) < (s.n : Int)) (T := fun h2 => ?_) (F := fun h2 => ?_)
 rotate_left
 · refine Mt [.int .i64 0] fun bs w hS => ?_
   refine ⟨?_, hS.kp⟩
   simp only [retOf, den, List.map_cons, List.map_nil]
   rw [hI, firstF_end (by omega)]
 refine Mi (pA 13 14 (i : Int) i (rdk hs)) (J := ?_)
 refine Mp (vs := fun bs => [.string (s.at i).name]) Tryz.call129 (fun bs w hS => lock_Name _ w (And.left (Sl.ok.at (s := s) (i := i) oks (by omega)))) (J := ?_)
 refine Mbn (mName (s.at i).name) (T := fun h3 => ?_) (F := fun h3 => ?_)
 rotate_left
 · refine Mt [.int .i64 4] fun bs w hS => ?_
   refine ⟨?_, hS.kp⟩
   simp only [retOf, den, List.map_cons, List.map_nil]
   have hf : lockF (s.xs.map CLock.abs) i = 4 := by
     unfold lockF
     simp only [hat, hq1, hq2, hq3]
     try simp only [h1, h2, h3, emp_size, ne_eq, not_true_eq_false, not_false_eq_true, true_or, or_true, false_or, or_false, and_true, true_and, and_false, false_and, and_self, or_self, if_true, if_false, Bool.true_eq_false, Bool.false_eq_true, reduceIte, Classical.not_not, Bool.and_eq_true, decide_eq_true_eq]
     repeat (first | rw [if_pos (by omega)] | rw [if_neg (by omega)])
     all_goals first | rfl | (exfalso; omega)
   rw [hI, firstF_here (by omega) hf (by omega)]
 refine Mdn ((s.at i).holder = 0) (T := fun h4 => ?_) (F := fun h4 => ?_)
 · refine Mp Tryz.call131 (fun bs w hS => lock_line (s.at i) w (Sl.rd.sub (s := s) (i := i) (Sl.rd.kp hs hS.kp) (by omega))) (J := ?_)
   refine Mbn (lineOk (s.at i).abs) (T := fun h5 => ?_) (F := fun h5 => ?_)
   rotate_left
   · refine Mt [.int .i64 4] fun bs w hS => ?_
     refine ⟨?_, hS.kp⟩
     simp only [retOf, den, List.map_cons, List.map_nil]
     have hf : lockF (s.xs.map CLock.abs) i = 4 := by
       unfold lockF
       simp only [hat, hq1, hq2, hq3]
       try simp only [h1, h2, h3, h4, h5, emp_size, ne_eq, not_true_eq_false, not_false_eq_true, true_or, or_true, false_or, or_false, and_true, true_and, and_false, false_and, and_self, or_self, if_true, if_false, Bool.true_eq_false, Bool.false_eq_true, reduceIte, Classical.not_not, Bool.and_eq_true, decide_eq_true_eq]
       repeat (first | rw [if_pos (by omega)] | rw [if_neg (by omega)])
       all_goals first | rfl | (exfalso; omega)
     rw [hI, firstF_here (by omega) hf (by omega)]
   refine Md ((s.at i).fence < 1) (T := fun h6 => ?_) (F := fun h6 => ?_)
   · refine Mt [.int .i64 2] fun bs w hS => ?_
     refine ⟨?_, hS.kp⟩
     simp only [retOf, den, List.map_cons, List.map_nil]
     have hf : lockF (s.xs.map CLock.abs) i = 2 := by
       unfold lockF
       simp only [hat, hq1, hq2, hq3]
       try simp only [h1, h2, h3, h4, h5, h6, emp_size, ne_eq, not_true_eq_false, not_false_eq_true, true_or, or_true, false_or, or_false, and_true, true_and, and_false, false_and, and_self, or_self, if_true, if_false, Bool.true_eq_false, Bool.false_eq_true, reduceIte, Classical.not_not, Bool.and_eq_true, decide_eq_true_eq]
       repeat (first | rw [if_pos (by omega)] | rw [if_neg (by omega)])
       all_goals first | rfl | (exfalso; omega)
     rw [hI, firstF_here (by omega) hf (by omega)]
   refine Md ((1073741824 : Int) < (s.at i).fence) (T := fun h7 => ?_) (F := fun h7 => ?_)
   · refine Mt [.int .i64 2] fun bs w hS => ?_
     refine ⟨?_, hS.kp⟩
     simp only [retOf, den, List.map_cons, List.map_nil]
     have hf : lockF (s.xs.map CLock.abs) i = 2 := by
       unfold lockF
       simp only [hat, hq1, hq2, hq3]
       try simp only [h1, h2, h3, h4, h5, h6, h7, emp_size, ne_eq, not_true_eq_false, not_false_eq_true, true_or, or_true, false_or, or_false, and_true, true_and, and_false, false_and, and_self, or_self, if_true, if_false, Bool.true_eq_false, Bool.false_eq_true, reduceIte, Classical.not_not, Bool.and_eq_true, decide_eq_true_eq]
       repeat (first | rw [if_pos (by omega)] | rw [if_neg (by omega)])
       all_goals first | rfl | (exfalso; omega)
     rw [hI, firstF_here (by omega) hf (by omega)]
   refine Mda 13 [] [] [] Tryz_mixed (J := ?_)
   refine Md ((0 : Int) < (i : Int)) (T := fun h8 => ?_) (F := fun h8 => ?_)
   rotate_left
   · refine Mi (pR ((i : Int) + 1)) (J := ?_)
     have hf0 : lockF (s.xs.map CLock.abs) i = 0 := by
       unfold lockF
       simp only [hat, hq1, hq2, hq3]
       try simp only [h1, h2, h3, h4, h5, h6, h7, h8, emp_size, ne_eq, not_true_eq_false, not_false_eq_true, true_or, or_true, false_or, or_false, and_true, true_and, and_false, false_and, and_self, or_self, if_true, if_false, Bool.true_eq_false, Bool.false_eq_true, reduceIte, Classical.not_not, Bool.and_eq_true, decide_eq_true_eq]
       repeat (first | rw [if_pos (by omega)] | rw [if_neg (by omega)])
       all_goals first | rfl | (exfalso; omega)
     exact on1 (i + 1) ⟨by omega, by rw [hI]; exact firstF_step (by omega) hf0⟩ (by omega)
   refine Mih (pc (pR ((i : Int) - 1)) (pc (pI 49 ((i : Int) - 1) (i - 1) (rdk hs)) (pF 51 (i - 1) 0 1 (rdk hs)))) (J := ?_)
   refine Mbn (Op.bytesLess ((s.at (i - 1)).name).toList ((s.at i).name).toList) (T := fun h9 => ?_) (F := fun h9 => ?_)
   · refine Mi (pR ((i : Int) + 1)) (J := ?_)
     have hf0 : lockF (s.xs.map CLock.abs) i = 0 := by
       unfold lockF
       simp only [hat, hq1, hq2, hq3]
       try simp only [h1, h2, h3, h4, h5, h6, h7, h8, h9, emp_size, ne_eq, not_true_eq_false, not_false_eq_true, true_or, or_true, false_or, or_false, and_true, true_and, and_false, false_and, and_self, or_self, if_true, if_false, Bool.true_eq_false, Bool.false_eq_true, reduceIte, Classical.not_not, Bool.and_eq_true, decide_eq_true_eq]
       repeat (first | rw [if_pos (by omega)] | rw [if_neg (by omega)])
       all_goals first | rfl | (exfalso; omega)
     exact on1 (i + 1) ⟨by omega, by rw [hI]; exact firstF_step (by omega) hf0⟩ (by omega)
   refine Mt [.int .i64 14] fun bs w hS => ?_
   refine ⟨?_, hS.kp⟩
   simp only [retOf, den, List.map_cons, List.map_nil]
   have hf : lockF (s.xs.map CLock.abs) i = 14 := by
     unfold lockF
     simp only [hat, hq1, hq2, hq3]
     try simp only [h1, h2, h3, h4, h5, h6, h7, h8, h9, emp_size, ne_eq, not_true_eq_false, not_false_eq_true, true_or, or_true, false_or, or_false, and_true, true_and, and_false, false_and, and_self, or_self, if_true, if_false, Bool.true_eq_false, Bool.false_eq_true, reduceIte, Classical.not_not, Bool.and_eq_true, decide_eq_true_eq]
     repeat (first | rw [if_pos (by omega)] | rw [if_neg (by omega)])
     all_goals first | rfl | (exfalso; omega)
   rw [hI, firstF_here (by omega) hf (by omega)]
 refine Mp Tryz.call130 (fun bs w hS => lock_client (s.at i).holder w) (J := ?_)
 refine Mbn (inB (s.at i).holder 1 9) (T := fun h10 => ?_) (F := fun h10 => ?_)
 rotate_left
 · simp only [inB, Bool.and_eq_true, Bool.and_eq_false_iff, decide_eq_true_eq, decide_eq_false_iff_not] at h10
   refine Mt [.int .i64 4] fun bs w hS => ?_
   refine ⟨?_, hS.kp⟩
   simp only [retOf, den, List.map_cons, List.map_nil]
   have hf : lockF (s.xs.map CLock.abs) i = 4 := by
     unfold lockF
     simp only [hat, hq1, hq2, hq3]
     try simp only [h1, h2, h3, h4, h10, emp_size, ne_eq, not_true_eq_false, not_false_eq_true, true_or, or_true, false_or, or_false, and_true, true_and, and_false, false_and, and_self, or_self, if_true, if_false, Bool.true_eq_false, Bool.false_eq_true, reduceIte, Classical.not_not, Bool.and_eq_true, decide_eq_true_eq]
     repeat (first | rw [if_pos (by omega)] | rw [if_neg (by omega)])
     all_goals first | rfl | (exfalso; omega)
   rw [hI, firstF_here (by omega) hf (by omega)]
 simp only [inB, Bool.and_eq_true, Bool.and_eq_false_iff, decide_eq_true_eq, decide_eq_false_iff_not] at h10
 refine Mp Tryz.call131 (fun bs w hS => lock_line (s.at i) w (Sl.rd.sub (s := s) (i := i) (Sl.rd.kp hs hS.kp) (by omega))) (J := ?_)
 refine Mbn (lineOk (s.at i).abs) (T := fun h11 => ?_) (F := fun h11 => ?_)
 rotate_left
 · refine Mt [.int .i64 4] fun bs w hS => ?_
   refine ⟨?_, hS.kp⟩
   simp only [retOf, den, List.map_cons, List.map_nil]
   have hf : lockF (s.xs.map CLock.abs) i = 4 := by
     unfold lockF
     simp only [hat, hq1, hq2, hq3]
     try simp only [h1, h2, h3, h4, h10, h11, emp_size, ne_eq, not_true_eq_false, not_false_eq_true, true_or, or_true, false_or, or_false, and_true, true_and, and_false, false_and, and_self, or_self, if_true, if_false, Bool.true_eq_false, Bool.false_eq_true, reduceIte, Classical.not_not, Bool.and_eq_true, decide_eq_true_eq]
     repeat (first | rw [if_pos (by omega)] | rw [if_neg (by omega)])
     all_goals first | rfl | (exfalso; omega)
   rw [hI, firstF_here (by omega) hf (by omega)]
 refine Md ((s.at i).fence < 1) (T := fun h12 => ?_) (F := fun h12 => ?_)
 · refine Mt [.int .i64 2] fun bs w hS => ?_
   refine ⟨?_, hS.kp⟩
   simp only [retOf, den, List.map_cons, List.map_nil]
   have hf : lockF (s.xs.map CLock.abs) i = 2 := by
     unfold lockF
     simp only [hat, hq1, hq2, hq3]
     try simp only [h1, h2, h3, h4, h10, h11, h12, emp_size, ne_eq, not_true_eq_false, not_false_eq_true, true_or, or_true, false_or, or_false, and_true, true_and, and_false, false_and, and_self, or_self, if_true, if_false, Bool.true_eq_false, Bool.false_eq_true, reduceIte, Classical.not_not, Bool.and_eq_true, decide_eq_true_eq]
     repeat (first | rw [if_pos (by omega)] | rw [if_neg (by omega)])
     all_goals first | rfl | (exfalso; omega)
   rw [hI, firstF_here (by omega) hf (by omega)]
 refine Md ((1073741824 : Int) < (s.at i).fence) (T := fun h13 => ?_) (F := fun h13 => ?_)
 · refine Mt [.int .i64 2] fun bs w hS => ?_
   refine ⟨?_, hS.kp⟩
   simp only [retOf, den, List.map_cons, List.map_nil]
   have hf : lockF (s.xs.map CLock.abs) i = 2 := by
     unfold lockF
     simp only [hat, hq1, hq2, hq3]
     try simp only [h1, h2, h3, h4, h10, h11, h12, h13, emp_size, ne_eq, not_true_eq_false, not_false_eq_true, true_or, or_true, false_or, or_false, and_true, true_and, and_false, false_and, and_self, or_self, if_true, if_false, Bool.true_eq_false, Bool.false_eq_true, reduceIte, Classical.not_not, Bool.and_eq_true, decide_eq_true_eq]
     repeat (first | rw [if_pos (by omega)] | rw [if_neg (by omega)])
     all_goals first | rfl | (exfalso; omega)
   rw [hI, firstF_here (by omega) hf (by omega)]
 refine Mda 13 [] [] [] Tryz_mixed (J := ?_)
 refine Md ((0 : Int) < (i : Int)) (T := fun h14 => ?_) (F := fun h14 => ?_)
 rotate_left
 · refine Mi (pR ((i : Int) + 1)) (J := ?_)
   have hf0 : lockF (s.xs.map CLock.abs) i = 0 := by
     unfold lockF
     simp only [hat, hq1, hq2, hq3]
     try simp only [h1, h2, h3, h4, h10, h11, h12, h13, h14, emp_size, ne_eq, not_true_eq_false, not_false_eq_true, true_or, or_true, false_or, or_false, and_true, true_and, and_false, false_and, and_self, or_self, if_true, if_false, Bool.true_eq_false, Bool.false_eq_true, reduceIte, Classical.not_not, Bool.and_eq_true, decide_eq_true_eq]
     repeat (first | rw [if_pos (by omega)] | rw [if_neg (by omega)])
     all_goals first | rfl | (exfalso; omega)
   exact on1 (i + 1) ⟨by omega, by rw [hI]; exact firstF_step (by omega) hf0⟩ (by omega)
 refine Mih (pc (pR ((i : Int) - 1)) (pc (pI 49 ((i : Int) - 1) (i - 1) (rdk hs)) (pF 51 (i - 1) 0 1 (rdk hs)))) (J := ?_)
 refine Mbn (Op.bytesLess ((s.at (i - 1)).name).toList ((s.at i).name).toList) (T := fun h15 => ?_) (F := fun h15 => ?_)
 · refine Mi (pR ((i : Int) + 1)) (J := ?_)
   have hf0 : lockF (s.xs.map CLock.abs) i = 0 := by
     unfold lockF
     simp only [hat, hq1, hq2, hq3]
     try simp only [h1, h2, h3, h4, h10, h11, h12, h13, h14, h15, emp_size, ne_eq, not_true_eq_false, not_false_eq_true, true_or, or_true, false_or, or_false, and_true, true_and, and_false, false_and, and_self, or_self, if_true, if_false, Bool.true_eq_false, Bool.false_eq_true, reduceIte, Classical.not_not, Bool.and_eq_true, decide_eq_true_eq]
     repeat (first | rw [if_pos (by omega)] | rw [if_neg (by omega)])
     all_goals first | rfl | (exfalso; omega)
   exact on1 (i + 1) ⟨by omega, by rw [hI]; exact firstF_step (by omega) hf0⟩ (by omega)
 refine Mt [.int .i64 14] fun bs w hS => ?_
 refine ⟨?_, hS.kp⟩
 simp only [retOf, den, List.map_cons, List.map_nil]
 have hf : lockF (s.xs.map CLock.abs) i = 14 := by
   unfold lockF
   simp only [hat, hq1, hq2, hq3]
   try simp only [h1, h2, h3, h4, h10, h11, h12, h13, h14, h15, emp_size, ne_eq, not_true_eq_false, not_false_eq_true, true_or, or_true, false_or, or_false, and_true, true_and, and_false, false_and, and_self, or_self, if_true, if_false, Bool.true_eq_false, Bool.false_eq_true, reduceIte, Classical.not_not, Bool.and_eq_true, decide_eq_true_eq]
   repeat (first | rw [if_pos (by omega)] | rw [if_neg (by omega)])
   all_goals first | rfl | (exfalso; omega)
 rw [hI, firstF_here (by omega) hf (by omega)]

theorem ref_LocksFault {B : Nat → Prop} (s : Sl CLock) (w : World) (hs : s.rd B w) : Calls Tryz.prog 93 #[.slice s.A s.n s.c] w fun e w' => e = .returned (.int .i64 (mLocks (s.xs.map CLock.abs))) ∧ Kp [] w w' := by
 have oks := Sl.rd.ok hs
 have ncs := Sl.ok.nc oks
 have hns : s.n = s.xs.length := rfl
 have hat : ∀ q, (s.xs.map CLock.abs).getD q default = (s.at q).abs := fun q => abs_at q
 have hq1 : ∀ q, (s.at q).abs.name = (s.at q).name := fun _ => rfl
 have hq2 : ∀ q, (s.at q).abs.holder = (s.at q).holder := fun _ => rfl
 have hq3 : ∀ q, (s.at q).abs.fence = (s.at q).fence := fun _ => rfl
 have hml : (s.xs.map CLock.abs).length = s.n := by simp
 refine M0 Tryz.func93 (J := ?_)
 refine Md ((5 : Int) < (s.n : Int)) (T := fun h1 => ?_) (F := fun h1 => ?_)
 · refine Mt [.int .i64 1] fun bs w hS => ?_
   refine ⟨?_, hS.kp⟩
   simp only [retOf, den, List.map_cons, List.map_nil]
   have hm : mLocks (s.xs.map CLock.abs) = 1 := by
     unfold mLocks; rw [hml, if_pos (by omega)]
   rw [hm]
 refine Ml (σ := Nat) (fun i => i ≤ s.n ∧ mLocks (s.xs.map CLock.abs) = firstF (lockF (s.xs.map CLock.abs)) (s.n - i) i) (fun i => s.n - i) (fun _ => []) [3, 0] (fun i => [(3, vI (i : Int))]) (fun _ => []) 0 ⟨Nat.zero_le _, by unfold mLocks; rw [hml, if_neg (by omega)]⟩ (B := ?_)
 rintro i ⟨hi, hI⟩ _ on1
 have hp : ∀ q, posOk (s.at i).abs q = (inB ((s.at i).line.at q) 1 9 && (!decide ((s.at i).line.at q = (s.at i).holder) && !(((s.at i).line.xs.take q).any fun z => decide (z = (s.at i).line.at q)))) := fun _ => rfl
 refine Md ((i : Int) < (s.n : Int)) (T := fun h2 => ?_) (F := fun h2 => ?_)
 rotate_left
 · refine Mt [.int .i64 0] fun bs w hS => ?_
   refine ⟨?_, hS.kp⟩
   simp only [retOf, den, List.map_cons, List.map_nil]
   rw [hI, firstF_end (by omega)]
 refine Mi (pA 18 19 (i : Int) i (rdk hs)) (J := ?_)
 refine Mp (vs := fun bs => [.string (s.at i).name]) Tryz.call107 (fun bs w hS => ref_NameMay _ w (And.left (Sl.ok.at (s := s) (i := i) oks (by omega)))) (J := ?_)
 refine Mbn (mName (s.at i).name) (T := fun h3 => ?_) (F := fun h3 => ?_)
 rotate_left
 · refine Ml (σ := Nat × Bool) (fun ⟨j, b⟩ => j ≤ (s.at i).line.n ∧ b = (true || !(allTo (posOk (s.at i).abs) j))) (fun ⟨j, b⟩ => (s.at i).line.n - j) (fun _ => []) [6, 5, 4, 3, 0] (fun ⟨j, b⟩ => [(6, vI (j : Int)), (5, vB b)]) (fun _ => []) (⟨0, true⟩) ⟨Nat.zero_le _, by simp [allTo]⟩ (B := ?_)
   rintro ⟨j, b⟩ ⟨hj, hJ⟩ _ on7
   have ncl := Sl.ok.nc (And.right (Sl.ok.at oks (show i < s.n by omega)))
   refine Md ((j : Int) < (((s.at i).line.n : Nat) : Int)) (T := fun h33 => ?_) (F := fun h33 => ?_)
   · refine Mda 33 [] [] [] Tryz_mixed (J := ?_)
     refine Mb (b) (T := fun h34 => ?_) (F := fun h34 => ?_)
     rotate_left
     · exfalso; rw [h34] at hJ; simp at hJ
     refine Mi (pR ((j : Int) + 1)) (J := ?_)
     exact on7 (⟨j + 1, true⟩ : Nat × Bool) ⟨by omega, by simp only [allTo, hp]; simp_all⟩ (by show (s.at i).line.n - (j + 1) < (s.at i).line.n - j; omega)
   refine Mb (b) (T := fun h35 => ?_) (F := fun h35 => ?_)
   rotate_left
   · exfalso; rw [h35] at hJ; simp at hJ
   refine Mt [.int .i64 4] fun bs w hS => ?_
   clear on1 on7
   refine ⟨?_, hS.kp⟩
   simp only [retOf, den, List.map_cons, List.map_nil]
   have hf : lockF (s.xs.map CLock.abs) i = 4 := by
     have hor : mName (s.at i).name = false ∨ (s.at i).holder < 0 ∨ 9 < (s.at i).holder ∨ lineOk (s.at i).abs = false := by
       first | exact .inl (by assumption) | exact .inr ((show (s.at i).holder < 0 ∨ 9 < (s.at i).holder by omega).elim .inl (fun h => .inr (.inl h))) | exact .inr (.inr (.inr (lineOk_false (.inr (.inl (by show 3 < (s.at i).line.n; omega)))))) | exact .inr (.inr (.inr (lineOk_false (.inr (.inr ⟨by show (s.at i).holder = 0; omega, by show 0 < (s.at i).line.n; omega⟩))))) | exact .inr (.inr (.inr (lineOk_false (.inl (by show allTo _ (s.at i).line.n = false; rw [show (s.at i).line.n = j by omega]; cases hq : allTo (posOk (s.at i).abs) j <;> simp_all)))))
     unfold lockF
     simp only [hat, hq1, hq2, hq3]
     rw [if_pos hor]
   rw [hI, firstF_here (by omega) hf (by omega)]
 refine Mp Tryz.call51 (fun bs w hS => ref_In (s.at i).holder 0 9 w) (J := ?_)
 refine Mbn (inB (s.at i).holder 0 9) (T := fun h4 => ?_) (F := fun h4 => ?_)
 rotate_left
 · simp only [inB, Bool.and_eq_true, Bool.and_eq_false_iff, decide_eq_true_eq, decide_eq_false_iff_not] at h4
   refine Ml (σ := Nat × Bool) (fun ⟨j, b⟩ => j ≤ (s.at i).line.n ∧ b = (true || !(allTo (posOk (s.at i).abs) j))) (fun ⟨j, b⟩ => (s.at i).line.n - j) (fun _ => []) [6, 5, 4, 3, 0] (fun ⟨j, b⟩ => [(6, vI (j : Int)), (5, vB b)]) (fun _ => []) (⟨0, true⟩) ⟨Nat.zero_le _, by simp [allTo]⟩ (B := ?_)
   rintro ⟨j, b⟩ ⟨hj, hJ⟩ _ on6
   have ncl := Sl.ok.nc (And.right (Sl.ok.at oks (show i < s.n by omega)))
   refine Md ((j : Int) < (((s.at i).line.n : Nat) : Int)) (T := fun h30 => ?_) (F := fun h30 => ?_)
   · refine Mda 33 [] [] [] Tryz_mixed (J := ?_)
     refine Mb (b) (T := fun h31 => ?_) (F := fun h31 => ?_)
     rotate_left
     · exfalso; rw [h31] at hJ; simp at hJ
     refine Mi (pR ((j : Int) + 1)) (J := ?_)
     exact on6 (⟨j + 1, true⟩ : Nat × Bool) ⟨by omega, by simp only [allTo, hp]; simp_all⟩ (by show (s.at i).line.n - (j + 1) < (s.at i).line.n - j; omega)
   refine Mb (b) (T := fun h32 => ?_) (F := fun h32 => ?_)
   rotate_left
   · exfalso; rw [h32] at hJ; simp at hJ
   refine Mt [.int .i64 4] fun bs w hS => ?_
   clear on1 on6
   refine ⟨?_, hS.kp⟩
   simp only [retOf, den, List.map_cons, List.map_nil]
   have hf : lockF (s.xs.map CLock.abs) i = 4 := by
     have hor : mName (s.at i).name = false ∨ (s.at i).holder < 0 ∨ 9 < (s.at i).holder ∨ lineOk (s.at i).abs = false := by
       first | exact .inl (by assumption) | exact .inr ((show (s.at i).holder < 0 ∨ 9 < (s.at i).holder by omega).elim .inl (fun h => .inr (.inl h))) | exact .inr (.inr (.inr (lineOk_false (.inr (.inl (by show 3 < (s.at i).line.n; omega)))))) | exact .inr (.inr (.inr (lineOk_false (.inr (.inr ⟨by show (s.at i).holder = 0; omega, by show 0 < (s.at i).line.n; omega⟩))))) | exact .inr (.inr (.inr (lineOk_false (.inl (by show allTo _ (s.at i).line.n = false; rw [show (s.at i).line.n = j by omega]; cases hq : allTo (posOk (s.at i).abs) j <;> simp_all)))))
     unfold lockF
     simp only [hat, hq1, hq2, hq3]
     rw [if_pos hor]
   rw [hI, firstF_here (by omega) hf (by omega)]
 simp only [inB, Bool.and_eq_true, Bool.and_eq_false_iff, decide_eq_true_eq, decide_eq_false_iff_not] at h4
 refine Md ((3 : Int) < (((s.at i).line.n : Nat) : Int)) (T := fun h5 => ?_) (F := fun h5 => ?_)
 · refine Ml (σ := Nat × Bool) (fun ⟨j, b⟩ => j ≤ (s.at i).line.n ∧ b = (true || !(allTo (posOk (s.at i).abs) j))) (fun ⟨j, b⟩ => (s.at i).line.n - j) (fun _ => []) [6, 5, 4, 3, 0] (fun ⟨j, b⟩ => [(6, vI (j : Int)), (5, vB b)]) (fun _ => []) (⟨0, true⟩) ⟨Nat.zero_le _, by simp [allTo]⟩ (B := ?_)
   rintro ⟨j, b⟩ ⟨hj, hJ⟩ _ on2
   have ncl := Sl.ok.nc (And.right (Sl.ok.at oks (show i < s.n by omega)))
   refine Md ((j : Int) < (((s.at i).line.n : Nat) : Int)) (T := fun h6 => ?_) (F := fun h6 => ?_)
   · refine Mda 33 [] [] [] Tryz_mixed (J := ?_)
     refine Mb (b) (T := fun h7 => ?_) (F := fun h7 => ?_)
     rotate_left
     · exfalso; rw [h7] at hJ; simp at hJ
     refine Mi (pR ((j : Int) + 1)) (J := ?_)
     exact on2 (⟨j + 1, true⟩ : Nat × Bool) ⟨by omega, by simp only [allTo, hp]; simp_all⟩ (by show (s.at i).line.n - (j + 1) < (s.at i).line.n - j; omega)
   refine Mb (b) (T := fun h8 => ?_) (F := fun h8 => ?_)
   rotate_left
   · exfalso; rw [h8] at hJ; simp at hJ
   refine Mt [.int .i64 4] fun bs w hS => ?_
   clear on1 on2
   refine ⟨?_, hS.kp⟩
   simp only [retOf, den, List.map_cons, List.map_nil]
   have hf : lockF (s.xs.map CLock.abs) i = 4 := by
     have hor : mName (s.at i).name = false ∨ (s.at i).holder < 0 ∨ 9 < (s.at i).holder ∨ lineOk (s.at i).abs = false := by
       first | exact .inl (by assumption) | exact .inr ((show (s.at i).holder < 0 ∨ 9 < (s.at i).holder by omega).elim .inl (fun h => .inr (.inl h))) | exact .inr (.inr (.inr (lineOk_false (.inr (.inl (by show 3 < (s.at i).line.n; omega)))))) | exact .inr (.inr (.inr (lineOk_false (.inr (.inr ⟨by show (s.at i).holder = 0; omega, by show 0 < (s.at i).line.n; omega⟩))))) | exact .inr (.inr (.inr (lineOk_false (.inl (by show allTo _ (s.at i).line.n = false; rw [show (s.at i).line.n = j by omega]; cases hq : allTo (posOk (s.at i).abs) j <;> simp_all)))))
     unfold lockF
     simp only [hat, hq1, hq2, hq3]
     rw [if_pos hor]
   rw [hI, firstF_here (by omega) hf (by omega)]
 refine Md ((s.at i).holder = 0) (T := fun h9 => ?_) (F := fun h9 => ?_)
 rotate_left
 · refine Ml (σ := Nat × Bool) (fun ⟨j, b⟩ => j ≤ (s.at i).line.n ∧ b = (false || !(allTo (posOk (s.at i).abs) j))) (fun ⟨j, b⟩ => (s.at i).line.n - j) (fun _ => []) [6, 5, 4, 3, 0] (fun ⟨j, b⟩ => [(6, vI (j : Int)), (5, vB b)]) (fun _ => []) (⟨0, false⟩) ⟨Nat.zero_le _, by simp [allTo]⟩ (B := ?_)
   rintro ⟨j, b⟩ ⟨hj, hJ⟩ _ on5
   have ncl := Sl.ok.nc (And.right (Sl.ok.at oks (show i < s.n by omega)))
   refine Md ((j : Int) < (((s.at i).line.n : Nat) : Int)) (T := fun h22 => ?_) (F := fun h22 => ?_)
   · refine Mda 33 [] [] [] Tryz_mixed (J := ?_)
     refine Mb (b) (T := fun h23 => ?_) (F := fun h23 => ?_)
     · refine Mi (pR ((j : Int) + 1)) (J := ?_)
       exact on5 (⟨j + 1, true⟩ : Nat × Bool) ⟨by omega, by simp only [allTo, hp]; simp_all⟩ (by show (s.at i).line.n - (j + 1) < (s.at i).line.n - j; omega)
     refine Mih (pA 59 60 (j : Int) j (s := (s.at i).line) (fun w hk hr => (And.right (Sl.rd.sub (s := s) (i := i) (Sl.rd.kp hs hk) (by omega))))) (J := ?_)
     refine Mp Tryz.call51 (fun bs w hS => ref_In ((s.at i).line.at j) 1 9 w) (J := ?_)
     refine Mbn (inB ((s.at i).line.at j) 1 9) (T := fun h24 => ?_) (F := fun h24 => ?_)
     rotate_left
     · refine Mi (pR ((j : Int) + 1)) (J := ?_)
       exact on5 (⟨j + 1, true⟩ : Nat × Bool) ⟨by omega, by simp only [allTo, hp]; simp_all⟩ (by show (s.at i).line.n - (j + 1) < (s.at i).line.n - j; omega)
     refine Mih (pA 68 69 (j : Int) j (s := (s.at i).line) (fun w hk hr => (And.right (Sl.rd.sub (s := s) (i := i) (Sl.rd.kp hs hk) (by omega))))) (J := ?_)
     refine Md (((s.at i).line.at j) = (s.at i).holder) (T := fun h25 => ?_) (F := fun h25 => ?_)
     · refine Mi (pR ((j : Int) + 1)) (J := ?_)
       exact on5 (⟨j + 1, true⟩ : Nat × Bool) ⟨by omega, by simp only [allTo, hp]; simp_all⟩ (by show (s.at i).line.n - (j + 1) < (s.at i).line.n - j; omega)
     refine Mih (pc (pG [(78, .sl 0 j)] (oc (rfl : 0 = 0) (oc (rfl : (j : Int) = (j : Int)) (oc ((by omega) : j ≤ (s.at i).line.c) on)))) (pA 82 83 (j : Int) j (s := (s.at i).line) (fun w hk hr => (And.right (Sl.rd.sub (s := s) (i := i) (Sl.rd.kp hs hk) (by omega)))))) (J := ?_)
     refine Mp Tryz.call103 (fun bs w hS => ref_has (s.at i).line j ((s.at i).line.at j) w (And.right (Sl.rd.sub (s := s) (i := i) (Sl.rd.kp hs hS.kp) (by omega))) (by omega)) (J := ?_)
     refine Mi (pR ((j : Int) + 1)) (J := ?_)
     exact on5 (⟨j + 1, ((s.at i).line.xs.take j).any fun z => decide (z = ((s.at i).line.at j))⟩ : Nat × Bool) ⟨by omega, by simp only [allTo, hp]; simp_all⟩ (by show (s.at i).line.n - (j + 1) < (s.at i).line.n - j; omega)
   refine Mb (b) (T := fun h26 => ?_) (F := fun h26 => ?_)
   · refine Mt [.int .i64 4] fun bs w hS => ?_
     clear on1 on5
     refine ⟨?_, hS.kp⟩
     simp only [retOf, den, List.map_cons, List.map_nil]
     have hf : lockF (s.xs.map CLock.abs) i = 4 := by
       have hor : mName (s.at i).name = false ∨ (s.at i).holder < 0 ∨ 9 < (s.at i).holder ∨ lineOk (s.at i).abs = false := by
         first | exact .inl (by assumption) | exact .inr ((show (s.at i).holder < 0 ∨ 9 < (s.at i).holder by omega).elim .inl (fun h => .inr (.inl h))) | exact .inr (.inr (.inr (lineOk_false (.inr (.inl (by show 3 < (s.at i).line.n; omega)))))) | exact .inr (.inr (.inr (lineOk_false (.inr (.inr ⟨by show (s.at i).holder = 0; omega, by show 0 < (s.at i).line.n; omega⟩))))) | exact .inr (.inr (.inr (lineOk_false (.inl (by show allTo _ (s.at i).line.n = false; rw [show (s.at i).line.n = j by omega]; cases hq : allTo (posOk (s.at i).abs) j <;> simp_all)))))
       unfold lockF
       simp only [hat, hq1, hq2, hq3]
       rw [if_pos hor]
     rw [hI, firstF_here (by omega) hf (by omega)]
   refine Mp Tryz.call51 (fun bs w hS => ref_In (s.at i).fence 1 1073741824 w) (J := ?_)
   refine Mbn (inB (s.at i).fence 1 1073741824) (T := fun h27 => ?_) (F := fun h27 => ?_)
   rotate_left
   · simp only [inB, Bool.and_eq_true, Bool.and_eq_false_iff, decide_eq_true_eq, decide_eq_false_iff_not] at h27
     refine Mt [.int .i64 2] fun bs w hS => ?_
     clear on1 on5
     refine ⟨?_, hS.kp⟩
     simp only [retOf, den, List.map_cons, List.map_nil]
     have hf : lockF (s.xs.map CLock.abs) i = 2 := by
       have hjn : (s.at i).line.n = j := by omega
       have hall : allTo (posOk (s.at i).abs) (s.at i).line.n = true := by rw [hjn]; cases hq : allTo (posOk (s.at i).abs) j <;> simp_all
       have hlo : lineOk (s.at i).abs = true := lineOk_true hall (by show (s.at i).line.n ≤ 3; omega) (by show ¬ (s.at i).holder = 0 ∨ (s.at i).line.n = 0; omega)
       unfold lockF
       simp only [hat, hq1, hq2, hq3]
       try simp only [hlo]
       try simp only [h1, h2, h3, h4, h5, h9, h22, h26, h27, emp_size, ne_eq, not_true_eq_false, not_false_eq_true, true_or, or_true, false_or, or_false, and_true, true_and, and_false, false_and, and_self, or_self, if_true, if_false, Bool.true_eq_false, Bool.false_eq_true, reduceIte, Classical.not_not, Bool.and_eq_true, decide_eq_true_eq]
       repeat (first | rw [if_pos (by omega)] | rw [if_neg (by omega)])
       all_goals first | rfl | (exfalso; omega)
     rw [hI, firstF_here (by omega) hf (by omega)]
   simp only [inB, Bool.and_eq_true, Bool.and_eq_false_iff, decide_eq_true_eq, decide_eq_false_iff_not] at h27
   refine Mda 13 [] [] [] Tryz_mixed (J := ?_)
   refine Md ((0 : Int) < (i : Int)) (T := fun h28 => ?_) (F := fun h28 => ?_)
   rotate_left
   · refine Mi (pR ((i : Int) + 1)) (J := ?_)
     have hf0 : lockF (s.xs.map CLock.abs) i = 0 := by
       have hjn : (s.at i).line.n = j := by omega
       have hall : allTo (posOk (s.at i).abs) (s.at i).line.n = true := by rw [hjn]; cases hq : allTo (posOk (s.at i).abs) j <;> simp_all
       have hlo : lineOk (s.at i).abs = true := lineOk_true hall (by show (s.at i).line.n ≤ 3; omega) (by show ¬ (s.at i).holder = 0 ∨ (s.at i).line.n = 0; omega)
       unfold lockF
       simp only [hat, hq1, hq2, hq3]
       try simp only [hlo]
       try simp only [h1, h2, h3, h4, h5, h9, h22, h26, h27, h28, emp_size, ne_eq, not_true_eq_false, not_false_eq_true, true_or, or_true, false_or, or_false, and_true, true_and, and_false, false_and, and_self, or_self, if_true, if_false, Bool.true_eq_false, Bool.false_eq_true, reduceIte, Classical.not_not, Bool.and_eq_true, decide_eq_true_eq]
       repeat (first | rw [if_pos (by omega)] | rw [if_neg (by omega)])
       all_goals first | rfl | (exfalso; omega)
     exact on1 (i + 1) ⟨by omega, by rw [hI]; exact firstF_step (by omega) hf0⟩ (by omega)
   refine Mih (pc (pR ((i : Int) - 1)) (pc (pI 99 ((i : Int) - 1) (i - 1) (rdk hs)) (pF 101 (i - 1) 0 1 (rdk hs)))) (J := ?_)
   refine Mb (Op.bytesLess ((s.at i).name).toList ((s.at (i - 1)).name).toList || decide ((s.at i).name = (s.at (i - 1)).name)) (T := fun h29 => ?_) (F := fun h29 => ?_)
   rotate_left
   · rw [bytes_total] at h29
     simp only [Bool.not_eq_true', Bool.not_eq_false', Bool.not_eq_true, Bool.not_eq_false] at h29
     refine Mi (pR ((i : Int) + 1)) (J := ?_)
     have hf0 : lockF (s.xs.map CLock.abs) i = 0 := by
       have hjn : (s.at i).line.n = j := by omega
       have hall : allTo (posOk (s.at i).abs) (s.at i).line.n = true := by rw [hjn]; cases hq : allTo (posOk (s.at i).abs) j <;> simp_all
       have hlo : lineOk (s.at i).abs = true := lineOk_true hall (by show (s.at i).line.n ≤ 3; omega) (by show ¬ (s.at i).holder = 0 ∨ (s.at i).line.n = 0; omega)
       unfold lockF
       simp only [hat, hq1, hq2, hq3]
       try simp only [hlo]
       try simp only [h1, h2, h3, h4, h5, h9, h22, h26, h27, h28, h29, emp_size, ne_eq, not_true_eq_false, not_false_eq_true, true_or, or_true, false_or, or_false, and_true, true_and, and_false, false_and, and_self, or_self, if_true, if_false, Bool.true_eq_false, Bool.false_eq_true, reduceIte, Classical.not_not, Bool.and_eq_true, decide_eq_true_eq]
       repeat (first | rw [if_pos (by omega)] | rw [if_neg (by omega)])
       all_goals first | rfl | (exfalso; omega)
     exact on1 (i + 1) ⟨by omega, by rw [hI]; exact firstF_step (by omega) hf0⟩ (by omega)
   rw [bytes_total] at h29
   simp only [Bool.not_eq_true', Bool.not_eq_false', Bool.not_eq_true, Bool.not_eq_false] at h29
   refine Mt [.int .i64 14] fun bs w hS => ?_
   clear on1 on5
   refine ⟨?_, hS.kp⟩
   simp only [retOf, den, List.map_cons, List.map_nil]
   have hf : lockF (s.xs.map CLock.abs) i = 14 := by
     have hjn : (s.at i).line.n = j := by omega
     have hall : allTo (posOk (s.at i).abs) (s.at i).line.n = true := by rw [hjn]; cases hq : allTo (posOk (s.at i).abs) j <;> simp_all
     have hlo : lineOk (s.at i).abs = true := lineOk_true hall (by show (s.at i).line.n ≤ 3; omega) (by show ¬ (s.at i).holder = 0 ∨ (s.at i).line.n = 0; omega)
     unfold lockF
     simp only [hat, hq1, hq2, hq3]
     try simp only [hlo]
     try simp only [h1, h2, h3, h4, h5, h9, h22, h26, h27, h28, h29, emp_size, ne_eq, not_true_eq_false, not_false_eq_true, true_or, or_true, false_or, or_false, and_true, true_and, and_false, false_and, and_self, or_self, if_true, if_false, Bool.true_eq_false, Bool.false_eq_true, reduceIte, Classical.not_not, Bool.and_eq_true, decide_eq_true_eq]
     repeat (first | rw [if_pos (by omega)] | rw [if_neg (by omega)])
     all_goals first | rfl | (exfalso; omega)
   rw [hI, firstF_here (by omega) hf (by omega)]
 by_cases h10 : (0 : Int) < (((s.at i).line.n : Nat) : Int)
 · refine Mq 5 true (dT h10) (J := ?_)
   refine Ml (σ := Nat × Bool) (fun ⟨j, b⟩ => j ≤ (s.at i).line.n ∧ b = (true || !(allTo (posOk (s.at i).abs) j))) (fun ⟨j, b⟩ => (s.at i).line.n - j) (fun _ => []) [6, 5, 4, 3, 0] (fun ⟨j, b⟩ => [(6, vI (j : Int)), (5, vB b)]) (fun _ => []) (⟨0, true⟩) ⟨Nat.zero_le _, by simp [allTo]⟩ (B := ?_)
   rintro ⟨j, b⟩ ⟨hj, hJ⟩ _ on3
   have ncl := Sl.ok.nc (And.right (Sl.ok.at oks (show i < s.n by omega)))
   refine Md ((j : Int) < (((s.at i).line.n : Nat) : Int)) (T := fun h11 => ?_) (F := fun h11 => ?_)
   · refine Mda 33 [] [] [] Tryz_mixed (J := ?_)
     refine Mb (b) (T := fun h12 => ?_) (F := fun h12 => ?_)
     rotate_left
     · exfalso; rw [h12] at hJ; simp at hJ
     refine Mi (pR ((j : Int) + 1)) (J := ?_)
     exact on3 (⟨j + 1, true⟩ : Nat × Bool) ⟨by omega, by simp only [allTo, hp]; simp_all⟩ (by show (s.at i).line.n - (j + 1) < (s.at i).line.n - j; omega)
   refine Mb (b) (T := fun h13 => ?_) (F := fun h13 => ?_)
   rotate_left
   · exfalso; rw [h13] at hJ; simp at hJ
   refine Mt [.int .i64 4] fun bs w hS => ?_
   clear on1 on3
   refine ⟨?_, hS.kp⟩
   simp only [retOf, den, List.map_cons, List.map_nil]
   have hf : lockF (s.xs.map CLock.abs) i = 4 := by
     have hor : mName (s.at i).name = false ∨ (s.at i).holder < 0 ∨ 9 < (s.at i).holder ∨ lineOk (s.at i).abs = false := by
       first | exact .inl (by assumption) | exact .inr ((show (s.at i).holder < 0 ∨ 9 < (s.at i).holder by omega).elim .inl (fun h => .inr (.inl h))) | exact .inr (.inr (.inr (lineOk_false (.inr (.inl (by show 3 < (s.at i).line.n; omega)))))) | exact .inr (.inr (.inr (lineOk_false (.inr (.inr ⟨by show (s.at i).holder = 0; omega, by show 0 < (s.at i).line.n; omega⟩))))) | exact .inr (.inr (.inr (lineOk_false (.inl (by show allTo _ (s.at i).line.n = false; rw [show (s.at i).line.n = j by omega]; cases hq : allTo (posOk (s.at i).abs) j <;> simp_all)))))
     unfold lockF
     simp only [hat, hq1, hq2, hq3]
     rw [if_pos hor]
   rw [hI, firstF_here (by omega) hf (by omega)]
 refine Mq 5 false (dF h10) (J := ?_)
 refine Ml (σ := Nat × Bool) (fun ⟨j, b⟩ => j ≤ (s.at i).line.n ∧ b = (false || !(allTo (posOk (s.at i).abs) j))) (fun ⟨j, b⟩ => (s.at i).line.n - j) (fun _ => []) [6, 5, 4, 3, 0] (fun ⟨j, b⟩ => [(6, vI (j : Int)), (5, vB b)]) (fun _ => []) (⟨0, false⟩) ⟨Nat.zero_le _, by simp [allTo]⟩ (B := ?_)
 rintro ⟨j, b⟩ ⟨hj, hJ⟩ _ on4
 have ncl := Sl.ok.nc (And.right (Sl.ok.at oks (show i < s.n by omega)))
 refine Md ((j : Int) < (((s.at i).line.n : Nat) : Int)) (T := fun h14 => ?_) (F := fun h14 => ?_)
 · refine Mda 33 [] [] [] Tryz_mixed (J := ?_)
   refine Mb (b) (T := fun h15 => ?_) (F := fun h15 => ?_)
   · refine Mi (pR ((j : Int) + 1)) (J := ?_)
     exact on4 (⟨j + 1, true⟩ : Nat × Bool) ⟨by omega, by simp only [allTo, hp]; simp_all⟩ (by show (s.at i).line.n - (j + 1) < (s.at i).line.n - j; omega)
   refine Mih (pA 59 60 (j : Int) j (s := (s.at i).line) (fun w hk hr => (And.right (Sl.rd.sub (s := s) (i := i) (Sl.rd.kp hs hk) (by omega))))) (J := ?_)
   refine Mp Tryz.call51 (fun bs w hS => ref_In ((s.at i).line.at j) 1 9 w) (J := ?_)
   refine Mbn (inB ((s.at i).line.at j) 1 9) (T := fun h16 => ?_) (F := fun h16 => ?_)
   rotate_left
   · refine Mi (pR ((j : Int) + 1)) (J := ?_)
     exact on4 (⟨j + 1, true⟩ : Nat × Bool) ⟨by omega, by simp only [allTo, hp]; simp_all⟩ (by show (s.at i).line.n - (j + 1) < (s.at i).line.n - j; omega)
   refine Mih (pA 68 69 (j : Int) j (s := (s.at i).line) (fun w hk hr => (And.right (Sl.rd.sub (s := s) (i := i) (Sl.rd.kp hs hk) (by omega))))) (J := ?_)
   refine Md (((s.at i).line.at j) = (s.at i).holder) (T := fun h17 => ?_) (F := fun h17 => ?_)
   · refine Mi (pR ((j : Int) + 1)) (J := ?_)
     exact on4 (⟨j + 1, true⟩ : Nat × Bool) ⟨by omega, by simp only [allTo, hp]; simp_all⟩ (by show (s.at i).line.n - (j + 1) < (s.at i).line.n - j; omega)
   refine Mih (pc (pG [(78, .sl 0 j)] (oc (rfl : 0 = 0) (oc (rfl : (j : Int) = (j : Int)) (oc ((by omega) : j ≤ (s.at i).line.c) on)))) (pA 82 83 (j : Int) j (s := (s.at i).line) (fun w hk hr => (And.right (Sl.rd.sub (s := s) (i := i) (Sl.rd.kp hs hk) (by omega)))))) (J := ?_)
   refine Mp Tryz.call103 (fun bs w hS => ref_has (s.at i).line j ((s.at i).line.at j) w (And.right (Sl.rd.sub (s := s) (i := i) (Sl.rd.kp hs hS.kp) (by omega))) (by omega)) (J := ?_)
   refine Mi (pR ((j : Int) + 1)) (J := ?_)
   exact on4 (⟨j + 1, ((s.at i).line.xs.take j).any fun z => decide (z = ((s.at i).line.at j))⟩ : Nat × Bool) ⟨by omega, by simp only [allTo, hp]; simp_all⟩ (by show (s.at i).line.n - (j + 1) < (s.at i).line.n - j; omega)
 refine Mb (b) (T := fun h18 => ?_) (F := fun h18 => ?_)
 · refine Mt [.int .i64 4] fun bs w hS => ?_
   clear on1 on4
   refine ⟨?_, hS.kp⟩
   simp only [retOf, den, List.map_cons, List.map_nil]
   have hf : lockF (s.xs.map CLock.abs) i = 4 := by
     have hor : mName (s.at i).name = false ∨ (s.at i).holder < 0 ∨ 9 < (s.at i).holder ∨ lineOk (s.at i).abs = false := by
       first | exact .inl (by assumption) | exact .inr ((show (s.at i).holder < 0 ∨ 9 < (s.at i).holder by omega).elim .inl (fun h => .inr (.inl h))) | exact .inr (.inr (.inr (lineOk_false (.inr (.inl (by show 3 < (s.at i).line.n; omega)))))) | exact .inr (.inr (.inr (lineOk_false (.inr (.inr ⟨by show (s.at i).holder = 0; omega, by show 0 < (s.at i).line.n; omega⟩))))) | exact .inr (.inr (.inr (lineOk_false (.inl (by show allTo _ (s.at i).line.n = false; rw [show (s.at i).line.n = j by omega]; cases hq : allTo (posOk (s.at i).abs) j <;> simp_all)))))
     unfold lockF
     simp only [hat, hq1, hq2, hq3]
     rw [if_pos hor]
   rw [hI, firstF_here (by omega) hf (by omega)]
 refine Mp Tryz.call51 (fun bs w hS => ref_In (s.at i).fence 1 1073741824 w) (J := ?_)
 refine Mbn (inB (s.at i).fence 1 1073741824) (T := fun h19 => ?_) (F := fun h19 => ?_)
 rotate_left
 · simp only [inB, Bool.and_eq_true, Bool.and_eq_false_iff, decide_eq_true_eq, decide_eq_false_iff_not] at h19
   refine Mt [.int .i64 2] fun bs w hS => ?_
   clear on1 on4
   refine ⟨?_, hS.kp⟩
   simp only [retOf, den, List.map_cons, List.map_nil]
   have hf : lockF (s.xs.map CLock.abs) i = 2 := by
     have hjn : (s.at i).line.n = j := by omega
     have hall : allTo (posOk (s.at i).abs) (s.at i).line.n = true := by rw [hjn]; cases hq : allTo (posOk (s.at i).abs) j <;> simp_all
     have hlo : lineOk (s.at i).abs = true := lineOk_true hall (by show (s.at i).line.n ≤ 3; omega) (by show ¬ (s.at i).holder = 0 ∨ (s.at i).line.n = 0; omega)
     unfold lockF
     simp only [hat, hq1, hq2, hq3]
     try simp only [hlo]
     try simp only [h1, h2, h3, h4, h5, h9, h10, h14, h18, h19, emp_size, ne_eq, not_true_eq_false, not_false_eq_true, true_or, or_true, false_or, or_false, and_true, true_and, and_false, false_and, and_self, or_self, if_true, if_false, Bool.true_eq_false, Bool.false_eq_true, reduceIte, Classical.not_not, Bool.and_eq_true, decide_eq_true_eq]
     repeat (first | rw [if_pos (by omega)] | rw [if_neg (by omega)])
     all_goals first | rfl | (exfalso; omega)
   rw [hI, firstF_here (by omega) hf (by omega)]
 simp only [inB, Bool.and_eq_true, Bool.and_eq_false_iff, decide_eq_true_eq, decide_eq_false_iff_not] at h19
 refine Mda 13 [] [] [] Tryz_mixed (J := ?_)
 refine Md ((0 : Int) < (i : Int)) (T := fun h20 => ?_) (F := fun h20 => ?_)
 rotate_left
 · refine Mi (pR ((i : Int) + 1)) (J := ?_)
   have hf0 : lockF (s.xs.map CLock.abs) i = 0 := by
     have hjn : (s.at i).line.n = j := by omega
     have hall : allTo (posOk (s.at i).abs) (s.at i).line.n = true := by rw [hjn]; cases hq : allTo (posOk (s.at i).abs) j <;> simp_all
     have hlo : lineOk (s.at i).abs = true := lineOk_true hall (by show (s.at i).line.n ≤ 3; omega) (by show ¬ (s.at i).holder = 0 ∨ (s.at i).line.n = 0; omega)
     unfold lockF
     simp only [hat, hq1, hq2, hq3]
     try simp only [hlo]
     try simp only [h1, h2, h3, h4, h5, h9, h10, h14, h18, h19, h20, emp_size, ne_eq, not_true_eq_false, not_false_eq_true, true_or, or_true, false_or, or_false, and_true, true_and, and_false, false_and, and_self, or_self, if_true, if_false, Bool.true_eq_false, Bool.false_eq_true, reduceIte, Classical.not_not, Bool.and_eq_true, decide_eq_true_eq]
     repeat (first | rw [if_pos (by omega)] | rw [if_neg (by omega)])
     all_goals first | rfl | (exfalso; omega)
   exact on1 (i + 1) ⟨by omega, by rw [hI]; exact firstF_step (by omega) hf0⟩ (by omega)
 refine Mih (pc (pR ((i : Int) - 1)) (pc (pI 99 ((i : Int) - 1) (i - 1) (rdk hs)) (pF 101 (i - 1) 0 1 (rdk hs)))) (J := ?_)
 refine Mb (Op.bytesLess ((s.at i).name).toList ((s.at (i - 1)).name).toList || decide ((s.at i).name = (s.at (i - 1)).name)) (T := fun h21 => ?_) (F := fun h21 => ?_)
 rotate_left
 · rw [bytes_total] at h21
   simp only [Bool.not_eq_true', Bool.not_eq_false', Bool.not_eq_true, Bool.not_eq_false] at h21
   refine Mi (pR ((i : Int) + 1)) (J := ?_)
   have hf0 : lockF (s.xs.map CLock.abs) i = 0 := by
     have hjn : (s.at i).line.n = j := by omega
     have hall : allTo (posOk (s.at i).abs) (s.at i).line.n = true := by rw [hjn]; cases hq : allTo (posOk (s.at i).abs) j <;> simp_all
     have hlo : lineOk (s.at i).abs = true := lineOk_true hall (by show (s.at i).line.n ≤ 3; omega) (by show ¬ (s.at i).holder = 0 ∨ (s.at i).line.n = 0; omega)
     unfold lockF
     simp only [hat, hq1, hq2, hq3]
     try simp only [hlo]
     try simp only [h1, h2, h3, h4, h5, h9, h10, h14, h18, h19, h20, h21, emp_size, ne_eq, not_true_eq_false, not_false_eq_true, true_or, or_true, false_or, or_false, and_true, true_and, and_false, false_and, and_self, or_self, if_true, if_false, Bool.true_eq_false, Bool.false_eq_true, reduceIte, Classical.not_not, Bool.and_eq_true, decide_eq_true_eq]
     repeat (first | rw [if_pos (by omega)] | rw [if_neg (by omega)])
     all_goals first | rfl | (exfalso; omega)
   exact on1 (i + 1) ⟨by omega, by rw [hI]; exact firstF_step (by omega) hf0⟩ (by omega)
 rw [bytes_total] at h21
 simp only [Bool.not_eq_true', Bool.not_eq_false', Bool.not_eq_true, Bool.not_eq_false] at h21
 refine Mt [.int .i64 14] fun bs w hS => ?_
 clear on1 on4
 refine ⟨?_, hS.kp⟩
 simp only [retOf, den, List.map_cons, List.map_nil]
 have hf : lockF (s.xs.map CLock.abs) i = 14 := by
   have hjn : (s.at i).line.n = j := by omega
   have hall : allTo (posOk (s.at i).abs) (s.at i).line.n = true := by rw [hjn]; cases hq : allTo (posOk (s.at i).abs) j <;> simp_all
   have hlo : lineOk (s.at i).abs = true := lineOk_true hall (by show (s.at i).line.n ≤ 3; omega) (by show ¬ (s.at i).holder = 0 ∨ (s.at i).line.n = 0; omega)
   unfold lockF
   simp only [hat, hq1, hq2, hq3]
   try simp only [hlo]
   try simp only [h1, h2, h3, h4, h5, h9, h10, h14, h18, h19, h20, h21, emp_size, ne_eq, not_true_eq_false, not_false_eq_true, true_or, or_true, false_or, or_false, and_true, true_and, and_false, false_and, and_self, or_self, if_true, if_false, Bool.true_eq_false, Bool.false_eq_true, reduceIte, Classical.not_not, Bool.and_eq_true, decide_eq_true_eq]
   repeat (first | rw [if_pos (by omega)] | rw [if_neg (by omega)])
   all_goals first | rfl | (exfalso; omega)
 rw [hI, firstF_here (by omega) hf (by omega)]

theorem session_replies {B : Nat → Prop} (x : CSession) (w : World) (hx : Rds.sub B w x) (hb : 0 ≤ x.acked ∧ x.acked ≤ 1048576) : Calls Tryz.prog 91 #[.agg #[.int .i64 x.client, .int .i64 x.id, .int .i64 x.acked, .int .i64 x.last, .slice x.replies.A x.replies.n x.replies.c]] w fun e w' => e = .returned (.bool (mReplies x.abs)) ∧ Kp [] w w' := by
 have okx := Rds.okof hx
 have ncx := Sl.ok.nc okx
 have hns : x.replies.n = x.replies.xs.length := rfl
 have hat : ∀ q, x.abs.replies.getD q default = x.replies.at q := fun _ => rfl
 have hac : x.abs.acked = x.acked := rfl
 have hln : x.abs.replies.length = x.replies.n := rfl
 refine M0 Tryz.func91 (J := ?_)
 refine Ml (σ := Nat) (fun i => i ≤ x.replies.n ∧ allTo (keptOk x.abs) i = true) (fun i => x.replies.n - i) (fun _ => []) [9, 8, 7, 1] (fun i => [(9, vI (i : Int))]) (fun _ => []) 0 ⟨Nat.zero_le _, rfl⟩ (B := ?_)
 rintro i ⟨hi, hI⟩ _ on1
 refine Md ((i : Int) < (x.replies.n : Int)) (T := fun h1 => ?_) (F := fun h1 => ?_)
 rotate_left
 · refine Mt [.bool true] fun bs w hS => ?_
   refine ⟨?_, hS.kp⟩
   have hm : mReplies x.abs = true := by show allTo _ x.abs.replies.length = true; rw [hln, show x.replies.n = i by omega]; exact hI
   rw [hm]
   rfl
 refine Mi (pA 12 13 (i : Int) i (s := x.replies) (fun w hk hr => (Rds.kp hx hk))) (J := ?_)
 refine Mda 29 [] [] [] Tryz_mixed (J := ?_)
 refine Md ((x.replies.at i).seq ≤ x.acked) (T := fun h2 => ?_) (F := fun h2 => ?_)
 · refine Mt [.bool false] fun bs w hS => ?_
   refine ⟨?_, hS.kp⟩
   have hm : mReplies x.abs = false := allTo_bad (j := i) (decide_eq_false (fun hk => by simp only [hat, hac] at hk; omega)) (show i < x.abs.replies.length by rw [hln]; omega)
   rw [hm]
   rfl
 refine Mih (pR (x.acked + 4)) (J := ?_)
 refine Md (x.acked + 4 < (x.replies.at i).seq) (T := fun h3 => ?_) (F := fun h3 => ?_)
 · refine Mt [.bool false] fun bs w hS => ?_
   refine ⟨?_, hS.kp⟩
   have hm : mReplies x.abs = false := allTo_bad (j := i) (decide_eq_false (fun hk => by simp only [hat, hac] at hk; omega)) (show i < x.abs.replies.length by rw [hln]; omega)
   rw [hm]
   rfl
 refine Md ((0 : Int) < (i : Int)) (T := fun h4 => ?_) (F := fun h4 => ?_)
 rotate_left
 · refine Md ((x.replies.at i).reply.code < 0) (T := fun h11 => ?_) (F := fun h11 => ?_)
   · refine Mt [.bool false] fun bs w hS => ?_
     refine ⟨?_, hS.kp⟩
     have hm : mReplies x.abs = false := allTo_bad (j := i) (decide_eq_false (fun hk => by simp only [hat, hac] at hk; omega)) (show i < x.abs.replies.length by rw [hln]; omega)
     rw [hm]
     rfl
   refine Md ((15 : Int) < (x.replies.at i).reply.code) (T := fun h12 => ?_) (F := fun h12 => ?_)
   · refine Mt [.bool false] fun bs w hS => ?_
     refine ⟨?_, hS.kp⟩
     have hm : mReplies x.abs = false := allTo_bad (j := i) (decide_eq_false (fun hk => by simp only [hat, hac] at hk; omega)) (show i < x.abs.replies.length by rw [hln]; omega)
     rw [hm]
     rfl
   refine Md ((x.replies.at i).reply.n < 0) (T := fun h13 => ?_) (F := fun h13 => ?_)
   · refine Mt [.bool false] fun bs w hS => ?_
     refine ⟨?_, hS.kp⟩
     have hm : mReplies x.abs = false := allTo_bad (j := i) (decide_eq_false (fun hk => by simp only [hat, hac] at hk; omega)) (show i < x.abs.replies.length by rw [hln]; omega)
     rw [hm]
     rfl
   refine Md ((1073741824 : Int) < (x.replies.at i).reply.n) (T := fun h14 => ?_) (F := fun h14 => ?_)
   · refine Mt [.bool false] fun bs w hS => ?_
     refine ⟨?_, hS.kp⟩
     have hm : mReplies x.abs = false := allTo_bad (j := i) (decide_eq_false (fun hk => by simp only [hat, hac] at hk; omega)) (show i < x.abs.replies.length by rw [hln]; omega)
     rw [hm]
     rfl
   refine Md ((12 : Int) < ((x.replies.at i).reply.text.size : Int)) (T := fun h15 => ?_) (F := fun h15 => ?_)
   rotate_left
   · refine Mi (pR ((i : Int) + 1)) (J := ?_)
     exact on1 (i + 1) ⟨by omega, allTo_step hI (decide_eq_true (by simp only [hat, hac]; exact ⟨by omega, by omega, by omega, by omega, by omega, by omega, by omega, by omega⟩))⟩ (by omega)
   refine Mt [.bool false] fun bs w hS => ?_
   refine ⟨?_, hS.kp⟩
   have hm : mReplies x.abs = false := allTo_bad (j := i) (decide_eq_false (fun hk => by simp only [hat, hac] at hk; omega)) (show i < x.abs.replies.length by rw [hln]; omega)
   rw [hm]
   rfl
 refine Mih (pc (pR ((i : Int) - 1)) (pc (pI 35 ((i : Int) - 1) (i - 1) (s := x.replies) (fun w hk hr => (Rds.kp hx hk))) (pF 37 (i - 1) 0 1 (s := x.replies) (fun w hk hr => (Rds.kp hx hk))))) (J := ?_)
 refine Md ((x.replies.at i).seq ≤ (x.replies.at (i - 1)).seq) (T := fun h5 => ?_) (F := fun h5 => ?_)
 · refine Mt [.bool false] fun bs w hS => ?_
   refine ⟨?_, hS.kp⟩
   have hm : mReplies x.abs = false := allTo_bad (j := i) (decide_eq_false (fun hk => by simp only [hat, hac] at hk; omega)) (show i < x.abs.replies.length by rw [hln]; omega)
   rw [hm]
   rfl
 refine Md ((x.replies.at i).reply.code < 0) (T := fun h6 => ?_) (F := fun h6 => ?_)
 · refine Mt [.bool false] fun bs w hS => ?_
   refine ⟨?_, hS.kp⟩
   have hm : mReplies x.abs = false := allTo_bad (j := i) (decide_eq_false (fun hk => by simp only [hat, hac] at hk; omega)) (show i < x.abs.replies.length by rw [hln]; omega)
   rw [hm]
   rfl
 refine Md ((15 : Int) < (x.replies.at i).reply.code) (T := fun h7 => ?_) (F := fun h7 => ?_)
 · refine Mt [.bool false] fun bs w hS => ?_
   refine ⟨?_, hS.kp⟩
   have hm : mReplies x.abs = false := allTo_bad (j := i) (decide_eq_false (fun hk => by simp only [hat, hac] at hk; omega)) (show i < x.abs.replies.length by rw [hln]; omega)
   rw [hm]
   rfl
 refine Md ((x.replies.at i).reply.n < 0) (T := fun h8 => ?_) (F := fun h8 => ?_)
 · refine Mt [.bool false] fun bs w hS => ?_
   refine ⟨?_, hS.kp⟩
   have hm : mReplies x.abs = false := allTo_bad (j := i) (decide_eq_false (fun hk => by simp only [hat, hac] at hk; omega)) (show i < x.abs.replies.length by rw [hln]; omega)
   rw [hm]
   rfl
 refine Md ((1073741824 : Int) < (x.replies.at i).reply.n) (T := fun h9 => ?_) (F := fun h9 => ?_)
 · refine Mt [.bool false] fun bs w hS => ?_
   refine ⟨?_, hS.kp⟩
   have hm : mReplies x.abs = false := allTo_bad (j := i) (decide_eq_false (fun hk => by simp only [hat, hac] at hk; omega)) (show i < x.abs.replies.length by rw [hln]; omega)
   rw [hm]
   rfl
 refine Md ((12 : Int) < ((x.replies.at i).reply.text.size : Int)) (T := fun h10 => ?_) (F := fun h10 => ?_)
 rotate_left
 · refine Mi (pR ((i : Int) + 1)) (J := ?_)
   exact on1 (i + 1) ⟨by omega, allTo_step hI (decide_eq_true (by simp only [hat, hac]; exact ⟨by omega, by omega, by omega, by omega, by omega, by omega, by omega, by omega⟩))⟩ (by omega)
 refine Mt [.bool false] fun bs w hS => ?_
 refine ⟨?_, hS.kp⟩
 have hm : mReplies x.abs = false := allTo_bad (j := i) (decide_eq_false (fun hk => by simp only [hat, hac] at hk; omega)) (show i < x.abs.replies.length by rw [hln]; omega)
 rw [hm]
 rfl

theorem ref_repliesMay {B : Nat → Prop} (x : CSession) (w : World) (hx : Rds.sub B w x) (hb : 0 ≤ x.acked ∧ x.acked ≤ 1048576) : Calls Tryz.prog 108 #[.agg #[.int .i64 x.client, .int .i64 x.id, .int .i64 x.acked, .int .i64 x.last, .slice x.replies.A x.replies.n x.replies.c]] w fun e w' => e = .returned (.bool (mReplies x.abs)) ∧ Kp [] w w' := by
 have okx := Rds.okof hx
 have ncx := Sl.ok.nc okx
 have hns : x.replies.n = x.replies.xs.length := rfl
 have hat : ∀ q, x.abs.replies.getD q default = x.replies.at q := fun _ => rfl
 have hac : x.abs.acked = x.acked := rfl
 have hln : x.abs.replies.length = x.replies.n := rfl
 refine M0 Tryz.func108 (J := ?_)
 refine Ml (σ := Nat × Int) (fun ⟨i, la⟩ => i ≤ x.replies.n ∧ allTo (keptOk x.abs) i = true ∧ x.acked ≤ la ∧ la ≤ x.acked + 4 ∧ (i = 0 → la = x.acked) ∧ (0 < i → la = (x.replies.at (i - 1)).seq)) (fun ⟨i, la⟩ => x.replies.n - i) (fun _ => []) [4, 3, 1] (fun ⟨i, la⟩ => [(4, vI (i : Int)), (3, vI la)]) (fun _ => []) (⟨0, x.acked⟩) ⟨Nat.zero_le _, rfl, by omega, by omega, fun _ => rfl, fun h => absurd h (by omega)⟩ (B := ?_)
 rintro ⟨i, la⟩ ⟨hi, hI, hl1, hl2, hl3, hl4⟩ _ on1
 have hz : i = 0 ∧ la = x.acked ∨ 0 < i ∧ la = (x.replies.at (i - 1)).seq := by rcases Nat.eq_zero_or_pos i with h | h; exact .inl ⟨h, hl3 h⟩; exact .inr ⟨h, hl4 h⟩
 refine Md ((i : Int) < (x.replies.n : Int)) (T := fun h1 => ?_) (F := fun h1 => ?_)
 rotate_left
 · refine Mt [.bool true] fun bs w hS => ?_
   refine ⟨?_, hS.kp⟩
   have hm : mReplies x.abs = true := by show allTo _ x.abs.replies.length = true; rw [hln, show x.replies.n = i by omega]; exact hI
   rw [hm]
   rfl
 refine Mi (pc (pA 18 19 (i : Int) i (s := x.replies) (fun w hk hr => (Rds.kp hx hk))) (pc (pR (la + 1)) (pR (x.acked + 4)))) (J := ?_)
 refine Mp Tryz.call51 (fun bs w hS => ref_In (x.replies.at i).seq (la + 1) (x.acked + 4) w) (J := ?_)
 refine Mbn (inB (x.replies.at i).seq (la + 1) (x.acked + 4)) (T := fun h2 => ?_) (F := fun h2 => ?_)
 rotate_left
 · simp only [inB, Bool.and_eq_true, Bool.and_eq_false_iff, decide_eq_true_eq, decide_eq_false_iff_not] at h2
   refine Mt [.bool false] fun bs w hS => ?_
   refine ⟨?_, hS.kp⟩
   have hm : mReplies x.abs = false := allTo_bad (j := i) (decide_eq_false (fun hk => by simp only [hat, hac] at hk; omega)) (show i < x.abs.replies.length by rw [hln]; omega)
   rw [hm]
   rfl
 simp only [inB, Bool.and_eq_true, Bool.and_eq_false_iff, decide_eq_true_eq, decide_eq_false_iff_not] at h2
 refine Mp Tryz.call51 (fun bs w hS => ref_In (x.replies.at i).reply.code 0 15 w) (J := ?_)
 refine Mbn (inB (x.replies.at i).reply.code 0 15) (T := fun h3 => ?_) (F := fun h3 => ?_)
 rotate_left
 · simp only [inB, Bool.and_eq_true, Bool.and_eq_false_iff, decide_eq_true_eq, decide_eq_false_iff_not] at h3
   refine Mt [.bool false] fun bs w hS => ?_
   refine ⟨?_, hS.kp⟩
   have hm : mReplies x.abs = false := allTo_bad (j := i) (decide_eq_false (fun hk => by simp only [hat, hac] at hk; omega)) (show i < x.abs.replies.length by rw [hln]; omega)
   rw [hm]
   rfl
 simp only [inB, Bool.and_eq_true, Bool.and_eq_false_iff, decide_eq_true_eq, decide_eq_false_iff_not] at h3
 refine Mp Tryz.call51 (fun bs w hS => ref_In (x.replies.at i).reply.n 0 1073741824 w) (J := ?_)
 refine Mbn (inB (x.replies.at i).reply.n 0 1073741824) (T := fun h4 => ?_) (F := fun h4 => ?_)
 rotate_left
 · simp only [inB, Bool.and_eq_true, Bool.and_eq_false_iff, decide_eq_true_eq, decide_eq_false_iff_not] at h4
   refine Mt [.bool false] fun bs w hS => ?_
   refine ⟨?_, hS.kp⟩
   have hm : mReplies x.abs = false := allTo_bad (j := i) (decide_eq_false (fun hk => by simp only [hat, hac] at hk; omega)) (show i < x.abs.replies.length by rw [hln]; omega)
   rw [hm]
   rfl
 simp only [inB, Bool.and_eq_true, Bool.and_eq_false_iff, decide_eq_true_eq, decide_eq_false_iff_not] at h4
 refine Md ((12 : Int) < ((x.replies.at i).reply.text.size : Int)) (T := fun h5 => ?_) (F := fun h5 => ?_)
 · refine Mt [.bool false] fun bs w hS => ?_
   refine ⟨?_, hS.kp⟩
   have hm : mReplies x.abs = false := allTo_bad (j := i) (decide_eq_false (fun hk => by simp only [hat, hac] at hk; omega)) (show i < x.abs.replies.length by rw [hln]; omega)
   rw [hm]
   rfl
 refine Mi (pR ((i : Int) + 1)) (J := ?_)
 exact on1 (⟨i + 1, (x.replies.at i).seq⟩ : Nat × Int) ⟨by omega, allTo_step hI (decide_eq_true (by simp only [hat, hac]; exact ⟨by omega, by omega, by omega, by omega, by omega, by omega, by omega, by omega⟩)), by omega, by omega, fun h => absurd h (by omega), fun _ => rfl⟩ (by show x.replies.n - (i + 1) < x.replies.n - i; omega)

theorem session_Check {B : Nat → Prop} (s : Sl CSession) (n : Int) (w : World) (hs : s.rd B w) : Calls Tryz.prog 63 #[.slice s.A s.n s.c, .int .i64 n] w fun e w' => e = .returned (.int .i64 (mSess (s.xs.map CSession.abs) n)) ∧ Kp [] w w' := by
 have oks := Sl.rd.ok hs
 have ncs := Sl.ok.nc oks
 have hns : s.n = s.xs.length := rfl
 have hat : ∀ q, (s.xs.map CSession.abs).getD q default = (s.at q).abs := fun q => sabs_at q
 have hq0 : ∀ q, (s.at q).abs.client = (s.at q).client := fun _ => rfl
 have hq1 : ∀ q, (s.at q).abs.id = (s.at q).id := fun _ => rfl
 have hq2 : ∀ q, (s.at q).abs.acked = (s.at q).acked := fun _ => rfl
 have hq3 : ∀ q, (s.at q).abs.last = (s.at q).last := fun _ => rfl
 have hml : (s.xs.map CSession.abs).length = s.n := by simp
 refine M0 Tryz.func63 (J := ?_)
 refine Md (n < 0) (T := fun h1 => ?_) (F := fun h1 => ?_)
 · refine Mt [.int .i64 2] fun bs w hS => ?_
   refine ⟨?_, hS.kp⟩
   simp only [retOf, den, List.map_cons, List.map_nil]
   have hm : mSess (s.xs.map CSession.abs) n = 2 := by
     unfold mSess; rw [hml]
     first | rw [if_pos (by omega)] | rw [if_neg (by omega), if_pos (by omega)]
   rw [hm]
 refine Md ((1073741824 : Int) < n) (T := fun h2 => ?_) (F := fun h2 => ?_)
 · refine Mt [.int .i64 2] fun bs w hS => ?_
   refine ⟨?_, hS.kp⟩
   simp only [retOf, den, List.map_cons, List.map_nil]
   have hm : mSess (s.xs.map CSession.abs) n = 2 := by
     unfold mSess; rw [hml]
     first | rw [if_pos (by omega)] | rw [if_neg (by omega), if_pos (by omega)]
   rw [hm]
 refine Md ((4 : Int) < (s.n : Int)) (T := fun h3 => ?_) (F := fun h3 => ?_)
 · refine Mt [.int .i64 1] fun bs w hS => ?_
   refine ⟨?_, hS.kp⟩
   simp only [retOf, den, List.map_cons, List.map_nil]
   have hm : mSess (s.xs.map CSession.abs) n = 1 := by
     unfold mSess; rw [hml]
     first | rw [if_pos (by omega)] | rw [if_neg (by omega), if_pos (by omega)]
   rw [hm]
 refine Ml (σ := Nat) (fun i => i ≤ s.n ∧ mSess (s.xs.map CSession.abs) n = firstF (sessF (s.xs.map CSession.abs) n) (s.n - i) i) (fun i => s.n - i) (fun _ => []) [18, 17, 16, 0, 1] (fun i => [(18, vI (i : Int))]) (fun _ => []) 0 ⟨Nat.zero_le _, by unfold mSess; rw [hml, if_neg (by omega), if_neg (by omega)]⟩ (B := ?_)
 rintro i ⟨hi, hI⟩ _ on1
 refine Md ((i : Int) < (s.n : Int)) (T := fun h4 => ?_) (F := fun h4 => ?_)
 rotate_left
 · refine Mt [.int .i64 0] fun bs w hS => ?_
   refine ⟨?_, hS.kp⟩
   simp only [retOf, den, List.map_cons, List.map_nil]
   rw [hI, firstF_end (by omega)]
 refine Mi (pA 21 22 (i : Int) i (rdk hs)) (J := ?_)
 refine Md ((s.at i).client < 1) (T := fun h5 => ?_) (F := fun h5 => ?_)
 · refine Mt [.int .i64 2] fun bs w hS => ?_
   refine ⟨?_, hS.kp⟩
   simp only [retOf, den, List.map_cons, List.map_nil]
   have hf : sessF (s.xs.map CSession.abs) n i = 2 := by
     unfold sessF
     simp only [hat, hq0, hq1, hq2, hq3]
     try simp only [h1, h2, h3, h4, h5, emp_size, ne_eq, not_true_eq_false, not_false_eq_true, true_or, or_true, false_or, or_false, and_true, true_and, and_false, false_and, and_self, or_self, if_true, if_false, Bool.true_eq_false, Bool.false_eq_true, reduceIte, Classical.not_not, Bool.and_eq_true, decide_eq_true_eq]
     repeat (first | rw [if_pos (by omega)] | rw [if_neg (by omega)])
     all_goals first | rfl | (exfalso; omega)
   rw [hI, firstF_here (by omega) hf (by omega)]
 refine Md ((9 : Int) < (s.at i).client) (T := fun h6 => ?_) (F := fun h6 => ?_)
 · refine Mt [.int .i64 2] fun bs w hS => ?_
   refine ⟨?_, hS.kp⟩
   simp only [retOf, den, List.map_cons, List.map_nil]
   have hf : sessF (s.xs.map CSession.abs) n i = 2 := by
     unfold sessF
     simp only [hat, hq0, hq1, hq2, hq3]
     try simp only [h1, h2, h3, h4, h5, h6, emp_size, ne_eq, not_true_eq_false, not_false_eq_true, true_or, or_true, false_or, or_false, and_true, true_and, and_false, false_and, and_self, or_self, if_true, if_false, Bool.true_eq_false, Bool.false_eq_true, reduceIte, Classical.not_not, Bool.and_eq_true, decide_eq_true_eq]
     repeat (first | rw [if_pos (by omega)] | rw [if_neg (by omega)])
     all_goals first | rfl | (exfalso; omega)
   rw [hI, firstF_here (by omega) hf (by omega)]
 refine Md ((s.at i).acked < 0) (T := fun h7 => ?_) (F := fun h7 => ?_)
 · refine Mt [.int .i64 2] fun bs w hS => ?_
   refine ⟨?_, hS.kp⟩
   simp only [retOf, den, List.map_cons, List.map_nil]
   have hf : sessF (s.xs.map CSession.abs) n i = 2 := by
     unfold sessF
     simp only [hat, hq0, hq1, hq2, hq3]
     try simp only [h1, h2, h3, h4, h5, h6, h7, emp_size, ne_eq, not_true_eq_false, not_false_eq_true, true_or, or_true, false_or, or_false, and_true, true_and, and_false, false_and, and_self, or_self, if_true, if_false, Bool.true_eq_false, Bool.false_eq_true, reduceIte, Classical.not_not, Bool.and_eq_true, decide_eq_true_eq]
     repeat (first | rw [if_pos (by omega)] | rw [if_neg (by omega)])
     all_goals first | rfl | (exfalso; omega)
   rw [hI, firstF_here (by omega) hf (by omega)]
 refine Md ((1048576 : Int) < (s.at i).acked) (T := fun h8 => ?_) (F := fun h8 => ?_)
 · refine Mt [.int .i64 2] fun bs w hS => ?_
   refine ⟨?_, hS.kp⟩
   simp only [retOf, den, List.map_cons, List.map_nil]
   have hf : sessF (s.xs.map CSession.abs) n i = 2 := by
     unfold sessF
     simp only [hat, hq0, hq1, hq2, hq3]
     try simp only [h1, h2, h3, h4, h5, h6, h7, h8, emp_size, ne_eq, not_true_eq_false, not_false_eq_true, true_or, or_true, false_or, or_false, and_true, true_and, and_false, false_and, and_self, or_self, if_true, if_false, Bool.true_eq_false, Bool.false_eq_true, reduceIte, Classical.not_not, Bool.and_eq_true, decide_eq_true_eq]
     repeat (first | rw [if_pos (by omega)] | rw [if_neg (by omega)])
     all_goals first | rfl | (exfalso; omega)
   rw [hI, firstF_here (by omega) hf (by omega)]
 refine Md ((s.at i).id < 1) (T := fun h9 => ?_) (F := fun h9 => ?_)
 · refine Mt [.int .i64 2] fun bs w hS => ?_
   refine ⟨?_, hS.kp⟩
   simp only [retOf, den, List.map_cons, List.map_nil]
   have hf : sessF (s.xs.map CSession.abs) n i = 2 := by
     unfold sessF
     simp only [hat, hq0, hq1, hq2, hq3]
     try simp only [h1, h2, h3, h4, h5, h6, h7, h8, h9, emp_size, ne_eq, not_true_eq_false, not_false_eq_true, true_or, or_true, false_or, or_false, and_true, true_and, and_false, false_and, and_self, or_self, if_true, if_false, Bool.true_eq_false, Bool.false_eq_true, reduceIte, Classical.not_not, Bool.and_eq_true, decide_eq_true_eq]
     repeat (first | rw [if_pos (by omega)] | rw [if_neg (by omega)])
     all_goals first | rfl | (exfalso; omega)
   rw [hI, firstF_here (by omega) hf (by omega)]
 refine Md ((s.at i).last < (s.at i).id) (T := fun h10 => ?_) (F := fun h10 => ?_)
 · refine Mt [.int .i64 2] fun bs w hS => ?_
   refine ⟨?_, hS.kp⟩
   simp only [retOf, den, List.map_cons, List.map_nil]
   have hf : sessF (s.xs.map CSession.abs) n i = 2 := by
     unfold sessF
     simp only [hat, hq0, hq1, hq2, hq3]
     try simp only [h1, h2, h3, h4, h5, h6, h7, h8, h9, h10, emp_size, ne_eq, not_true_eq_false, not_false_eq_true, true_or, or_true, false_or, or_false, and_true, true_and, and_false, false_and, and_self, or_self, if_true, if_false, Bool.true_eq_false, Bool.false_eq_true, reduceIte, Classical.not_not, Bool.and_eq_true, decide_eq_true_eq]
     repeat (first | rw [if_pos (by omega)] | rw [if_neg (by omega)])
     all_goals first | rfl | (exfalso; omega)
   rw [hI, firstF_here (by omega) hf (by omega)]
 refine Md (n < (s.at i).last) (T := fun h11 => ?_) (F := fun h11 => ?_)
 · refine Mt [.int .i64 2] fun bs w hS => ?_
   refine ⟨?_, hS.kp⟩
   simp only [retOf, den, List.map_cons, List.map_nil]
   have hf : sessF (s.xs.map CSession.abs) n i = 2 := by
     unfold sessF
     simp only [hat, hq0, hq1, hq2, hq3]
     try simp only [h1, h2, h3, h4, h5, h6, h7, h8, h9, h10, h11, emp_size, ne_eq, not_true_eq_false, not_false_eq_true, true_or, or_true, false_or, or_false, and_true, true_and, and_false, false_and, and_self, or_self, if_true, if_false, Bool.true_eq_false, Bool.false_eq_true, reduceIte, Classical.not_not, Bool.and_eq_true, decide_eq_true_eq]
     repeat (first | rw [if_pos (by omega)] | rw [if_neg (by omega)])
     all_goals first | rfl | (exfalso; omega)
   rw [hI, firstF_here (by omega) hf (by omega)]
 refine Mp Tryz.call91 (fun bs w hS => session_replies (s.at i) w (Sl.rd.sub (s := s) (i := i) (Sl.rd.kp hs hS.kp) (by omega)) (by first | exact ⟨by omega, by omega⟩ | (simp only [] at *; exact ⟨by omega, by omega⟩))) (J := ?_)
 refine Mbn (mReplies (s.at i).abs) (T := fun h12 => ?_) (F := fun h12 => ?_)
 rotate_left
 · refine Mt [.int .i64 4] fun bs w hS => ?_
   refine ⟨?_, hS.kp⟩
   simp only [retOf, den, List.map_cons, List.map_nil]
   have hf : sessF (s.xs.map CSession.abs) n i = 4 := by
     unfold sessF
     simp only [hat, hq0, hq1, hq2, hq3]
     try simp only [h1, h2, h3, h4, h5, h6, h7, h8, h9, h10, h11, h12, emp_size, ne_eq, not_true_eq_false, not_false_eq_true, true_or, or_true, false_or, or_false, and_true, true_and, and_false, false_and, and_self, or_self, if_true, if_false, Bool.true_eq_false, Bool.false_eq_true, reduceIte, Classical.not_not, Bool.and_eq_true, decide_eq_true_eq]
     repeat (first | rw [if_pos (by omega)] | rw [if_neg (by omega)])
     all_goals first | rfl | (exfalso; omega)
   rw [hI, firstF_here (by omega) hf (by omega)]
 refine Mda 13 [] [] [] Tryz_mixed (J := ?_)
 refine Md ((0 : Int) < (i : Int)) (T := fun h13 => ?_) (F := fun h13 => ?_)
 rotate_left
 · refine Mi (pR ((i : Int) + 1)) (J := ?_)
   have hf0 : sessF (s.xs.map CSession.abs) n i = 0 := by
     unfold sessF
     simp only [hat, hq0, hq1, hq2, hq3]
     try simp only [h1, h2, h3, h4, h5, h6, h7, h8, h9, h10, h11, h12, h13, emp_size, ne_eq, not_true_eq_false, not_false_eq_true, true_or, or_true, false_or, or_false, and_true, true_and, and_false, false_and, and_self, or_self, if_true, if_false, Bool.true_eq_false, Bool.false_eq_true, reduceIte, Classical.not_not, Bool.and_eq_true, decide_eq_true_eq]
     repeat (first | rw [if_pos (by omega)] | rw [if_neg (by omega)])
     all_goals first | rfl | (exfalso; omega)
   exact on1 (i + 1) ⟨by omega, by rw [hI]; exact firstF_step (by omega) hf0⟩ (by omega)
 refine Mih (pc (pR ((i : Int) - 1)) (pc (pI 68 ((i : Int) - 1) (i - 1) (rdk hs)) (pF 70 (i - 1) 0 1 (rdk hs)))) (J := ?_)
 refine Md ((s.at i).client ≤ (s.at (i - 1)).client) (T := fun h14 => ?_) (F := fun h14 => ?_)
 rotate_left
 · refine Mi (pR ((i : Int) + 1)) (J := ?_)
   have hf0 : sessF (s.xs.map CSession.abs) n i = 0 := by
     unfold sessF
     simp only [hat, hq0, hq1, hq2, hq3]
     try simp only [h1, h2, h3, h4, h5, h6, h7, h8, h9, h10, h11, h12, h13, h14, emp_size, ne_eq, not_true_eq_false, not_false_eq_true, true_or, or_true, false_or, or_false, and_true, true_and, and_false, false_and, and_self, or_self, if_true, if_false, Bool.true_eq_false, Bool.false_eq_true, reduceIte, Classical.not_not, Bool.and_eq_true, decide_eq_true_eq]
     repeat (first | rw [if_pos (by omega)] | rw [if_neg (by omega)])
     all_goals first | rfl | (exfalso; omega)
   exact on1 (i + 1) ⟨by omega, by rw [hI]; exact firstF_step (by omega) hf0⟩ (by omega)
 refine Mt [.int .i64 14] fun bs w hS => ?_
 refine ⟨?_, hS.kp⟩
 simp only [retOf, den, List.map_cons, List.map_nil]
 have hf : sessF (s.xs.map CSession.abs) n i = 14 := by
   unfold sessF
   simp only [hat, hq0, hq1, hq2, hq3]
   try simp only [h1, h2, h3, h4, h5, h6, h7, h8, h9, h10, h11, h12, h13, h14, emp_size, ne_eq, not_true_eq_false, not_false_eq_true, true_or, or_true, false_or, or_false, and_true, true_and, and_false, false_and, and_self, or_self, if_true, if_false, Bool.true_eq_false, Bool.false_eq_true, reduceIte, Classical.not_not, Bool.and_eq_true, decide_eq_true_eq]
   repeat (first | rw [if_pos (by omega)] | rw [if_neg (by omega)])
   all_goals first | rfl | (exfalso; omega)
 rw [hI, firstF_here (by omega) hf (by omega)]

theorem ref_SessionsFault {B : Nat → Prop} (s : Sl CSession) (n : Int) (w : World) (hs : s.rd B w) : Calls Tryz.prog 92 #[.slice s.A s.n s.c, .int .i64 n] w fun e w' => e = .returned (.int .i64 (mSess (s.xs.map CSession.abs) n)) ∧ Kp [] w w' := by
 have oks := Sl.rd.ok hs
 have ncs := Sl.ok.nc oks
 have hns : s.n = s.xs.length := rfl
 have hat : ∀ q, (s.xs.map CSession.abs).getD q default = (s.at q).abs := fun q => sabs_at q
 have hq0 : ∀ q, (s.at q).abs.client = (s.at q).client := fun _ => rfl
 have hq1 : ∀ q, (s.at q).abs.id = (s.at q).id := fun _ => rfl
 have hq2 : ∀ q, (s.at q).abs.acked = (s.at q).acked := fun _ => rfl
 have hq3 : ∀ q, (s.at q).abs.last = (s.at q).last := fun _ => rfl
 have hml : (s.xs.map CSession.abs).length = s.n := by simp
 refine M0 Tryz.func92 (J := ?_)
 refine Mp Tryz.call51 (fun bs w hS => ref_In n 0 1073741824 w) (J := ?_)
 refine Mbn (inB n 0 1073741824) (T := fun h1 => ?_) (F := fun h1 => ?_)
 rotate_left
 · simp only [inB, Bool.and_eq_true, Bool.and_eq_false_iff, decide_eq_true_eq, decide_eq_false_iff_not] at h1
   refine Mt [.int .i64 2] fun bs w hS => ?_
   refine ⟨?_, hS.kp⟩
   simp only [retOf, den, List.map_cons, List.map_nil]
   have hm : mSess (s.xs.map CSession.abs) n = 2 := by
     unfold mSess; rw [hml]
     first | rw [if_pos (by omega)] | rw [if_neg (by omega), if_pos (by omega)]
   rw [hm]
 simp only [inB, Bool.and_eq_true, Bool.and_eq_false_iff, decide_eq_true_eq, decide_eq_false_iff_not] at h1
 refine Md ((4 : Int) < (s.n : Int)) (T := fun h2 => ?_) (F := fun h2 => ?_)
 · refine Mt [.int .i64 1] fun bs w hS => ?_
   refine ⟨?_, hS.kp⟩
   simp only [retOf, den, List.map_cons, List.map_nil]
   have hm : mSess (s.xs.map CSession.abs) n = 1 := by
     unfold mSess; rw [hml]
     first | rw [if_pos (by omega)] | rw [if_neg (by omega), if_pos (by omega)]
   rw [hm]
 refine Ml (σ := Nat) (fun i => i ≤ s.n ∧ mSess (s.xs.map CSession.abs) n = firstF (sessF (s.xs.map CSession.abs) n) (s.n - i) i) (fun i => s.n - i) (fun _ => []) [5, 0, 1] (fun i => [(5, vI (i : Int))]) (fun _ => []) 0 ⟨Nat.zero_le _, by unfold mSess; rw [hml, if_neg (by omega), if_neg (by omega)]⟩ (B := ?_)
 rintro i ⟨hi, hI⟩ _ on1
 refine Md ((i : Int) < (s.n : Int)) (T := fun h3 => ?_) (F := fun h3 => ?_)
 rotate_left
 · refine Mt [.int .i64 0] fun bs w hS => ?_
   refine ⟨?_, hS.kp⟩
   simp only [retOf, den, List.map_cons, List.map_nil]
   rw [hI, firstF_end (by omega)]
 refine Mi (pA 21 22 (i : Int) i (rdk hs)) (J := ?_)
 refine Mp Tryz.call51 (fun bs w hS => ref_In (s.at i).client 1 9 w) (J := ?_)
 refine Mbn (inB (s.at i).client 1 9) (T := fun h4 => ?_) (F := fun h4 => ?_)
 rotate_left
 · simp only [inB, Bool.and_eq_true, Bool.and_eq_false_iff, decide_eq_true_eq, decide_eq_false_iff_not] at h4
   refine Mt [.int .i64 2] fun bs w hS => ?_
   refine ⟨?_, hS.kp⟩
   simp only [retOf, den, List.map_cons, List.map_nil]
   have hf : sessF (s.xs.map CSession.abs) n i = 2 := by
     unfold sessF
     simp only [hat, hq0, hq1, hq2, hq3]
     try simp only [h1, h2, h3, h4, emp_size, ne_eq, not_true_eq_false, not_false_eq_true, true_or, or_true, false_or, or_false, and_true, true_and, and_false, false_and, and_self, or_self, if_true, if_false, Bool.true_eq_false, Bool.false_eq_true, reduceIte, Classical.not_not, Bool.and_eq_true, decide_eq_true_eq]
     repeat (first | rw [if_pos (by omega)] | rw [if_neg (by omega)])
     all_goals first | rfl | (exfalso; omega)
   rw [hI, firstF_here (by omega) hf (by omega)]
 simp only [inB, Bool.and_eq_true, Bool.and_eq_false_iff, decide_eq_true_eq, decide_eq_false_iff_not] at h4
 refine Mp Tryz.call51 (fun bs w hS => ref_In (s.at i).acked 0 1048576 w) (J := ?_)
 refine Mbn (inB (s.at i).acked 0 1048576) (T := fun h5 => ?_) (F := fun h5 => ?_)
 rotate_left
 · simp only [inB, Bool.and_eq_true, Bool.and_eq_false_iff, decide_eq_true_eq, decide_eq_false_iff_not] at h5
   refine Mt [.int .i64 2] fun bs w hS => ?_
   refine ⟨?_, hS.kp⟩
   simp only [retOf, den, List.map_cons, List.map_nil]
   have hf : sessF (s.xs.map CSession.abs) n i = 2 := by
     unfold sessF
     simp only [hat, hq0, hq1, hq2, hq3]
     try simp only [h1, h2, h3, h4, h5, emp_size, ne_eq, not_true_eq_false, not_false_eq_true, true_or, or_true, false_or, or_false, and_true, true_and, and_false, false_and, and_self, or_self, if_true, if_false, Bool.true_eq_false, Bool.false_eq_true, reduceIte, Classical.not_not, Bool.and_eq_true, decide_eq_true_eq]
     repeat (first | rw [if_pos (by omega)] | rw [if_neg (by omega)])
     all_goals first | rfl | (exfalso; omega)
   rw [hI, firstF_here (by omega) hf (by omega)]
 simp only [inB, Bool.and_eq_true, Bool.and_eq_false_iff, decide_eq_true_eq, decide_eq_false_iff_not] at h5
 refine Mp Tryz.call51 (fun bs w hS => ref_In (s.at i).id 1 n w) (J := ?_)
 refine Mbn (inB (s.at i).id 1 n) (T := fun h6 => ?_) (F := fun h6 => ?_)
 rotate_left
 · simp only [inB, Bool.and_eq_true, Bool.and_eq_false_iff, decide_eq_true_eq, decide_eq_false_iff_not] at h6
   refine Mt [.int .i64 2] fun bs w hS => ?_
   refine ⟨?_, hS.kp⟩
   simp only [retOf, den, List.map_cons, List.map_nil]
   have hf : sessF (s.xs.map CSession.abs) n i = 2 := by
     unfold sessF
     simp only [hat, hq0, hq1, hq2, hq3]
     try simp only [h1, h2, h3, h4, h5, h6, emp_size, ne_eq, not_true_eq_false, not_false_eq_true, true_or, or_true, false_or, or_false, and_true, true_and, and_false, false_and, and_self, or_self, if_true, if_false, Bool.true_eq_false, Bool.false_eq_true, reduceIte, Classical.not_not, Bool.and_eq_true, decide_eq_true_eq]
     repeat (first | rw [if_pos (by omega)] | rw [if_neg (by omega)])
     all_goals first | rfl | (exfalso; omega)
   rw [hI, firstF_here (by omega) hf (by omega)]
 simp only [inB, Bool.and_eq_true, Bool.and_eq_false_iff, decide_eq_true_eq, decide_eq_false_iff_not] at h6
 refine Mp Tryz.call51 (fun bs w hS => ref_In (s.at i).last (s.at i).id n w) (J := ?_)
 refine Mbn (inB (s.at i).last (s.at i).id n) (T := fun h7 => ?_) (F := fun h7 => ?_)
 rotate_left
 · simp only [inB, Bool.and_eq_true, Bool.and_eq_false_iff, decide_eq_true_eq, decide_eq_false_iff_not] at h7
   refine Mt [.int .i64 2] fun bs w hS => ?_
   refine ⟨?_, hS.kp⟩
   simp only [retOf, den, List.map_cons, List.map_nil]
   have hf : sessF (s.xs.map CSession.abs) n i = 2 := by
     unfold sessF
     simp only [hat, hq0, hq1, hq2, hq3]
     try simp only [h1, h2, h3, h4, h5, h6, h7, emp_size, ne_eq, not_true_eq_false, not_false_eq_true, true_or, or_true, false_or, or_false, and_true, true_and, and_false, false_and, and_self, or_self, if_true, if_false, Bool.true_eq_false, Bool.false_eq_true, reduceIte, Classical.not_not, Bool.and_eq_true, decide_eq_true_eq]
     repeat (first | rw [if_pos (by omega)] | rw [if_neg (by omega)])
     all_goals first | rfl | (exfalso; omega)
   rw [hI, firstF_here (by omega) hf (by omega)]
 simp only [inB, Bool.and_eq_true, Bool.and_eq_false_iff, decide_eq_true_eq, decide_eq_false_iff_not] at h7
 refine Mp Tryz.call108 (fun bs w hS => ref_repliesMay (s.at i) w (Sl.rd.sub (s := s) (i := i) (Sl.rd.kp hs hS.kp) (by omega)) (by first | exact ⟨by omega, by omega⟩ | (simp only [] at *; exact ⟨by omega, by omega⟩))) (J := ?_)
 refine Mbn (mReplies (s.at i).abs) (T := fun h8 => ?_) (F := fun h8 => ?_)
 rotate_left
 · refine Mt [.int .i64 4] fun bs w hS => ?_
   refine ⟨?_, hS.kp⟩
   simp only [retOf, den, List.map_cons, List.map_nil]
   have hf : sessF (s.xs.map CSession.abs) n i = 4 := by
     unfold sessF
     simp only [hat, hq0, hq1, hq2, hq3]
     try simp only [h1, h2, h3, h4, h5, h6, h7, h8, emp_size, ne_eq, not_true_eq_false, not_false_eq_true, true_or, or_true, false_or, or_false, and_true, true_and, and_false, false_and, and_self, or_self, if_true, if_false, Bool.true_eq_false, Bool.false_eq_true, reduceIte, Classical.not_not, Bool.and_eq_true, decide_eq_true_eq]
     repeat (first | rw [if_pos (by omega)] | rw [if_neg (by omega)])
     all_goals first | rfl | (exfalso; omega)
   rw [hI, firstF_here (by omega) hf (by omega)]
 refine Mda 13 [] [] [] Tryz_mixed (J := ?_)
 refine Md ((0 : Int) < (i : Int)) (T := fun h9 => ?_) (F := fun h9 => ?_)
 rotate_left
 · refine Mi (pR ((i : Int) + 1)) (J := ?_)
   have hf0 : sessF (s.xs.map CSession.abs) n i = 0 := by
     unfold sessF
     simp only [hat, hq0, hq1, hq2, hq3]
     try simp only [h1, h2, h3, h4, h5, h6, h7, h8, h9, emp_size, ne_eq, not_true_eq_false, not_false_eq_true, true_or, or_true, false_or, or_false, and_true, true_and, and_false, false_and, and_self, or_self, if_true, if_false, Bool.true_eq_false, Bool.false_eq_true, reduceIte, Classical.not_not, Bool.and_eq_true, decide_eq_true_eq]
     repeat (first | rw [if_pos (by omega)] | rw [if_neg (by omega)])
     all_goals first | rfl | (exfalso; omega)
   exact on1 (i + 1) ⟨by omega, by rw [hI]; exact firstF_step (by omega) hf0⟩ (by omega)
 refine Mih (pc (pR ((i : Int) - 1)) (pc (pI 60 ((i : Int) - 1) (i - 1) (rdk hs)) (pF 62 (i - 1) 0 1 (rdk hs)))) (J := ?_)
 refine Md ((s.at i).client ≤ (s.at (i - 1)).client) (T := fun h10 => ?_) (F := fun h10 => ?_)
 rotate_left
 · refine Mi (pR ((i : Int) + 1)) (J := ?_)
   have hf0 : sessF (s.xs.map CSession.abs) n i = 0 := by
     unfold sessF
     simp only [hat, hq0, hq1, hq2, hq3]
     try simp only [h1, h2, h3, h4, h5, h6, h7, h8, h9, h10, emp_size, ne_eq, not_true_eq_false, not_false_eq_true, true_or, or_true, false_or, or_false, and_true, true_and, and_false, false_and, and_self, or_self, if_true, if_false, Bool.true_eq_false, Bool.false_eq_true, reduceIte, Classical.not_not, Bool.and_eq_true, decide_eq_true_eq]
     repeat (first | rw [if_pos (by omega)] | rw [if_neg (by omega)])
     all_goals first | rfl | (exfalso; omega)
   exact on1 (i + 1) ⟨by omega, by rw [hI]; exact firstF_step (by omega) hf0⟩ (by omega)
 refine Mt [.int .i64 14] fun bs w hS => ?_
 refine ⟨?_, hS.kp⟩
 simp only [retOf, den, List.map_cons, List.map_nil]
 have hf : sessF (s.xs.map CSession.abs) n i = 14 := by
   unfold sessF
   simp only [hat, hq0, hq1, hq2, hq3]
   try simp only [h1, h2, h3, h4, h5, h6, h7, h8, h9, h10, emp_size, ne_eq, not_true_eq_false, not_false_eq_true, true_or, or_true, false_or, or_false, and_true, true_and, and_false, false_and, and_self, or_self, if_true, if_false, Bool.true_eq_false, Bool.false_eq_true, reduceIte, Classical.not_not, Bool.and_eq_true, decide_eq_true_eq]
   repeat (first | rw [if_pos (by omega)] | rw [if_neg (by omega)])
   all_goals first | rfl | (exfalso; omega)
 rw [hI, firstF_here (by omega) hf (by omega)]

theorem pair_Check {B : Nat → Prop} (s : Sl DPair) (w : World) (hs : s.rd B w) : Calls Tryz.prog 65 #[.slice s.A s.n s.c] w fun e w' => e = .returned (.int .i64 (mPairs s.xs)) ∧ Kp [] w w' := by
 have oks := Sl.rd.ok hs
 have ncs := Sl.ok.nc oks
 have hns : s.n = s.xs.length := rfl
 refine M0 Tryz.func65 (J := ?_)
 refine Md ((5 : Int) < (s.n : Int)) (T := fun h1 => ?_) (F := fun h1 => ?_)
 · refine Mt [.int .i64 1] fun bs w hS => ?_
   refine ⟨?_, hS.kp⟩
   simp only [retOf, den, List.map_cons, List.map_nil]
   have hm : mPairs s.xs = 1 := by
     unfold mPairs; rw [if_pos (by omega)]
   rw [hm]
 refine Ml (σ := Nat) (fun i => i ≤ s.n ∧ mPairs s.xs = firstF (pairF s.xs) (s.n - i) i) (fun i => s.n - i) (fun _ => []) [10, 9, 8, 0] (fun i => [(10, vI (i : Int))]) (fun _ => []) 0 ⟨Nat.zero_le _, by unfold mPairs; rw [if_neg (by omega)]⟩ (B := ?_)
 rintro i ⟨hi, hI⟩ _ on1
 have hlt := hi
 refine Md ((i : Int) < (s.n : Int)) (T := fun h2 => ?_) (F := fun h2 => ?_)
 rotate_left
 · refine Mt [.int .i64 0] fun bs w hS => ?_
   refine ⟨?_, hS.kp⟩
   simp only [retOf, den, List.map_cons, List.map_nil]
   rw [hI, firstF_end (by omega)]
 refine Mi (pA 13 14 (i : Int) i (rdk hs)) (J := ?_)
 refine Mp (vs := fun bs => [.string (s.at i).name]) Tryz.call129 (fun bs w hS => lock_Name _ w (And.left (Sl.ok.at (s := s) (i := i) oks (by omega)))) (J := ?_)
 refine Mbn (mName (s.at i).name) (T := fun h3 => ?_) (F := fun h3 => ?_)
 rotate_left
 · refine Mt [.int .i64 4] fun bs w hS => ?_
   refine ⟨?_, hS.kp⟩
   simp only [retOf, den, List.map_cons, List.map_nil]
   have hf : pairF s.xs i = 4 := by
     have hat : ∀ q, s.xs.getD q default = s.at q := fun _ => rfl
     unfold pairF
     simp only [hat]
     try simp only [h1, h2, h3, emp_size, ne_eq, not_true_eq_false, not_false_eq_true, true_or, or_true, false_or, or_false, and_true, true_and, and_false, false_and, and_self, or_self, if_true, if_false, Bool.true_eq_false, Bool.false_eq_true, reduceIte, Classical.not_not, Bool.and_eq_true, decide_eq_true_eq]
     repeat (first | rw [if_pos (by omega)] | rw [if_neg (by omega)])
     all_goals first | rfl | (exfalso; omega)
   rw [hI, firstF_here (by omega) hf (by omega)]
 refine Md ((12 : Int) < ((s.at i).value.size : Int)) (T := fun h4 => ?_) (F := fun h4 => ?_)
 · refine Mt [.int .i64 1] fun bs w hS => ?_
   refine ⟨?_, hS.kp⟩
   simp only [retOf, den, List.map_cons, List.map_nil]
   have hf : pairF s.xs i = 1 := by
     have hat : ∀ q, s.xs.getD q default = s.at q := fun _ => rfl
     unfold pairF
     simp only [hat]
     try simp only [h1, h2, h3, h4, emp_size, ne_eq, not_true_eq_false, not_false_eq_true, true_or, or_true, false_or, or_false, and_true, true_and, and_false, false_and, and_self, or_self, if_true, if_false, Bool.true_eq_false, Bool.false_eq_true, reduceIte, Classical.not_not, Bool.and_eq_true, decide_eq_true_eq]
     repeat (first | rw [if_pos (by omega)] | rw [if_neg (by omega)])
     all_goals first | rfl | (exfalso; omega)
   rw [hI, firstF_here (by omega) hf (by omega)]
 refine Md ((s.at i).version < 1) (T := fun h5 => ?_) (F := fun h5 => ?_)
 · refine Mt [.int .i64 2] fun bs w hS => ?_
   refine ⟨?_, hS.kp⟩
   simp only [retOf, den, List.map_cons, List.map_nil]
   have hf : pairF s.xs i = 2 := by
     have hat : ∀ q, s.xs.getD q default = s.at q := fun _ => rfl
     unfold pairF
     simp only [hat]
     try simp only [h1, h2, h3, h4, h5, emp_size, ne_eq, not_true_eq_false, not_false_eq_true, true_or, or_true, false_or, or_false, and_true, true_and, and_false, false_and, and_self, or_self, if_true, if_false, Bool.true_eq_false, Bool.false_eq_true, reduceIte, Classical.not_not, Bool.and_eq_true, decide_eq_true_eq]
     repeat (first | rw [if_pos (by omega)] | rw [if_neg (by omega)])
     all_goals first | rfl | (exfalso; omega)
   rw [hI, firstF_here (by omega) hf (by omega)]
 refine Md ((1073741824 : Int) < (s.at i).version) (T := fun h6 => ?_) (F := fun h6 => ?_)
 · refine Mt [.int .i64 2] fun bs w hS => ?_
   refine ⟨?_, hS.kp⟩
   simp only [retOf, den, List.map_cons, List.map_nil]
   have hf : pairF s.xs i = 2 := by
     have hat : ∀ q, s.xs.getD q default = s.at q := fun _ => rfl
     unfold pairF
     simp only [hat]
     try simp only [h1, h2, h3, h4, h5, h6, emp_size, ne_eq, not_true_eq_false, not_false_eq_true, true_or, or_true, false_or, or_false, and_true, true_and, and_false, false_and, and_self, or_self, if_true, if_false, Bool.true_eq_false, Bool.false_eq_true, reduceIte, Classical.not_not, Bool.and_eq_true, decide_eq_true_eq]
     repeat (first | rw [if_pos (by omega)] | rw [if_neg (by omega)])
     all_goals first | rfl | (exfalso; omega)
   rw [hI, firstF_here (by omega) hf (by omega)]
 refine Mda 13 [] [] [] Tryz_mixed (J := ?_)
 refine Md ((0 : Int) < (i : Int)) (T := fun h7 => ?_) (F := fun h7 => ?_)
 rotate_left
 · refine Mi (pR ((i : Int) + 1)) (J := ?_)
   have hf0 : pairF s.xs i = 0 := by
     have hat : ∀ q, s.xs.getD q default = s.at q := fun _ => rfl
     unfold pairF
     simp only [hat]
     try simp only [h1, h2, h3, h4, h5, h6, h7, emp_size, ne_eq, not_true_eq_false, not_false_eq_true, true_or, or_true, false_or, or_false, and_true, true_and, and_false, false_and, and_self, or_self, if_true, if_false, Bool.true_eq_false, Bool.false_eq_true, reduceIte, Classical.not_not, Bool.and_eq_true, decide_eq_true_eq]
     repeat (first | rw [if_pos (by omega)] | rw [if_neg (by omega)])
     all_goals first | rfl | (exfalso; omega)
   exact on1 (i + 1) ⟨by omega, by rw [hI]; exact firstF_step (by omega) hf0⟩ (by omega)
 refine Mih (pc (pR ((i : Int) - 1)) (pc (pI 37 ((i : Int) - 1) (i - 1) (rdk hs)) (pF 39 (i - 1) 0 1 (rdk hs)))) (J := ?_)
 refine Mbn (Op.bytesLess ((s.at (i - 1)).name).toList ((s.at i).name).toList) (T := fun h8 => ?_) (F := fun h8 => ?_)
 · refine Mi (pR ((i : Int) + 1)) (J := ?_)
   have hf0 : pairF s.xs i = 0 := by
     have hat : ∀ q, s.xs.getD q default = s.at q := fun _ => rfl
     unfold pairF
     simp only [hat]
     try simp only [h1, h2, h3, h4, h5, h6, h7, h8, emp_size, ne_eq, not_true_eq_false, not_false_eq_true, true_or, or_true, false_or, or_false, and_true, true_and, and_false, false_and, and_self, or_self, if_true, if_false, Bool.true_eq_false, Bool.false_eq_true, reduceIte, Classical.not_not, Bool.and_eq_true, decide_eq_true_eq]
     repeat (first | rw [if_pos (by omega)] | rw [if_neg (by omega)])
     all_goals first | rfl | (exfalso; omega)
   exact on1 (i + 1) ⟨by omega, by rw [hI]; exact firstF_step (by omega) hf0⟩ (by omega)
 refine Mt [.int .i64 14] fun bs w hS => ?_
 refine ⟨?_, hS.kp⟩
 simp only [retOf, den, List.map_cons, List.map_nil]
 have hf : pairF s.xs i = 14 := by
   have hat : ∀ q, s.xs.getD q default = s.at q := fun _ => rfl
   unfold pairF
   simp only [hat]
   try simp only [h1, h2, h3, h4, h5, h6, h7, h8, emp_size, ne_eq, not_true_eq_false, not_false_eq_true, true_or, or_true, false_or, or_false, and_true, true_and, and_false, false_and, and_self, or_self, if_true, if_false, Bool.true_eq_false, Bool.false_eq_true, reduceIte, Classical.not_not, Bool.and_eq_true, decide_eq_true_eq]
   repeat (first | rw [if_pos (by omega)] | rw [if_neg (by omega)])
   all_goals first | rfl | (exfalso; omega)
 rw [hI, firstF_here (by omega) hf (by omega)]

theorem ref_PairsFault {B : Nat → Prop} (s : Sl DPair) (w : World) (hs : s.rd B w) : Calls Tryz.prog 94 #[.slice s.A s.n s.c] w fun e w' => e = .returned (.int .i64 (mPairs s.xs)) ∧ Kp [] w w' := by
 have oks := Sl.rd.ok hs
 have ncs := Sl.ok.nc oks
 have hns : s.n = s.xs.length := rfl
 refine M0 Tryz.func94 (J := ?_)
 refine Md ((5 : Int) < (s.n : Int)) (T := fun h1 => ?_) (F := fun h1 => ?_)
 · refine Mt [.int .i64 1] fun bs w hS => ?_
   refine ⟨?_, hS.kp⟩
   simp only [retOf, den, List.map_cons, List.map_nil]
   have hm : mPairs s.xs = 1 := by
     unfold mPairs; rw [if_pos (by omega)]
   rw [hm]
 refine Ml (σ := Nat) (fun i => i ≤ s.n ∧ mPairs s.xs = firstF (pairF s.xs) (s.n - i) i) (fun i => s.n - i) (fun _ => []) [3, 0] (fun i => [(3, vI (i : Int))]) (fun _ => []) 0 ⟨Nat.zero_le _, by unfold mPairs; rw [if_neg (by omega)]⟩ (B := ?_)
 rintro i ⟨hi, hI⟩ _ on1
 have hlt := hi
 refine Md ((i : Int) < (s.n : Int)) (T := fun h2 => ?_) (F := fun h2 => ?_)
 rotate_left
 · refine Mt [.int .i64 0] fun bs w hS => ?_
   refine ⟨?_, hS.kp⟩
   simp only [retOf, den, List.map_cons, List.map_nil]
   rw [hI, firstF_end (by omega)]
 refine Mi (pc (pI 15 (i : Int) i (rdk hs)) (pF 17 i 0 1 (rdk hs))) (J := ?_)
 refine Mp (vs := fun bs => [.string (s.at i).name]) Tryz.call107 (fun bs w hS => ref_NameMay _ w (And.left (Sl.ok.at (s := s) (i := i) oks (by omega)))) (J := ?_)
 refine Mbn (mName (s.at i).name) (T := fun h3 => ?_) (F := fun h3 => ?_)
 rotate_left
 · refine Mt [.int .i64 4] fun bs w hS => ?_
   refine ⟨?_, hS.kp⟩
   simp only [retOf, den, List.map_cons, List.map_nil]
   have hf : pairF s.xs i = 4 := by
     have hat : ∀ q, s.xs.getD q default = s.at q := fun _ => rfl
     unfold pairF
     simp only [hat]
     try simp only [h1, h2, h3, emp_size, ne_eq, not_true_eq_false, not_false_eq_true, true_or, or_true, false_or, or_false, and_true, true_and, and_false, false_and, and_self, or_self, if_true, if_false, Bool.true_eq_false, Bool.false_eq_true, reduceIte, Classical.not_not, Bool.and_eq_true, decide_eq_true_eq]
     repeat (first | rw [if_pos (by omega)] | rw [if_neg (by omega)])
     all_goals first | rfl | (exfalso; omega)
   rw [hI, firstF_here (by omega) hf (by omega)]
 refine Mi (pc (pI 22 (i : Int) i (rdk hs)) (pF 24 i 1 1 (rdk hs))) (J := ?_)
 refine Md ((12 : Int) < ((s.at i).value.size : Int)) (T := fun h4 => ?_) (F := fun h4 => ?_)
 · refine Mt [.int .i64 1] fun bs w hS => ?_
   refine ⟨?_, hS.kp⟩
   simp only [retOf, den, List.map_cons, List.map_nil]
   have hf : pairF s.xs i = 1 := by
     have hat : ∀ q, s.xs.getD q default = s.at q := fun _ => rfl
     unfold pairF
     simp only [hat]
     try simp only [h1, h2, h3, h4, emp_size, ne_eq, not_true_eq_false, not_false_eq_true, true_or, or_true, false_or, or_false, and_true, true_and, and_false, false_and, and_self, or_self, if_true, if_false, Bool.true_eq_false, Bool.false_eq_true, reduceIte, Classical.not_not, Bool.and_eq_true, decide_eq_true_eq]
     repeat (first | rw [if_pos (by omega)] | rw [if_neg (by omega)])
     all_goals first | rfl | (exfalso; omega)
   rw [hI, firstF_here (by omega) hf (by omega)]
 refine Mi (pc (pI 29 (i : Int) i (rdk hs)) (pF 31 i 2 1 (rdk hs))) (J := ?_)
 refine Mp Tryz.call51 (fun bs w hS => ref_In (s.at i).version 1 1073741824 w) (J := ?_)
 refine Mbn (inB (s.at i).version 1 1073741824) (T := fun h5 => ?_) (F := fun h5 => ?_)
 rotate_left
 · simp only [inB, Bool.and_eq_true, Bool.and_eq_false_iff, decide_eq_true_eq, decide_eq_false_iff_not] at h5
   refine Mt [.int .i64 2] fun bs w hS => ?_
   refine ⟨?_, hS.kp⟩
   simp only [retOf, den, List.map_cons, List.map_nil]
   have hf : pairF s.xs i = 2 := by
     have hat : ∀ q, s.xs.getD q default = s.at q := fun _ => rfl
     unfold pairF
     simp only [hat]
     try simp only [h1, h2, h3, h4, h5, emp_size, ne_eq, not_true_eq_false, not_false_eq_true, true_or, or_true, false_or, or_false, and_true, true_and, and_false, false_and, and_self, or_self, if_true, if_false, Bool.true_eq_false, Bool.false_eq_true, reduceIte, Classical.not_not, Bool.and_eq_true, decide_eq_true_eq]
     repeat (first | rw [if_pos (by omega)] | rw [if_neg (by omega)])
     all_goals first | rfl | (exfalso; omega)
   rw [hI, firstF_here (by omega) hf (by omega)]
 simp only [inB, Bool.and_eq_true, Bool.and_eq_false_iff, decide_eq_true_eq, decide_eq_false_iff_not] at h5
 refine Mda 16 [] [] [] Tryz_mixed (J := ?_)
 refine Md ((0 : Int) < (i : Int)) (T := fun h6 => ?_) (F := fun h6 => ?_)
 rotate_left
 · refine Mi (pR ((i : Int) + 1)) (J := ?_)
   have hf0 : pairF s.xs i = 0 := by
     have hat : ∀ q, s.xs.getD q default = s.at q := fun _ => rfl
     unfold pairF
     simp only [hat]
     try simp only [h1, h2, h3, h4, h5, h6, emp_size, ne_eq, not_true_eq_false, not_false_eq_true, true_or, or_true, false_or, or_false, and_true, true_and, and_false, false_and, and_self, or_self, if_true, if_false, Bool.true_eq_false, Bool.false_eq_true, reduceIte, Classical.not_not, Bool.and_eq_true, decide_eq_true_eq]
     repeat (first | rw [if_pos (by omega)] | rw [if_neg (by omega)])
     all_goals first | rfl | (exfalso; omega)
   exact on1 (i + 1) ⟨by omega, by rw [hI]; exact firstF_step (by omega) hf0⟩ (by omega)
 refine Mih (pc (pI 39 (i : Int) i (rdk hs)) (pc (pF 41 i 0 1 (rdk hs)) (pc (pR ((i : Int) - 1)) (pc (pI 45 ((i : Int) - 1) (i - 1) (rdk hs)) (pF 47 (i - 1) 0 1 (rdk hs)))))) (J := ?_)
 refine Mb (Op.bytesLess ((s.at i).name).toList ((s.at (i - 1)).name).toList || decide ((s.at i).name = (s.at (i - 1)).name)) (T := fun h7 => ?_) (F := fun h7 => ?_)
 rotate_left
 · rw [bytes_total] at h7
   simp only [Bool.not_eq_true', Bool.not_eq_false', Bool.not_eq_true, Bool.not_eq_false] at h7
   refine Mi (pR ((i : Int) + 1)) (J := ?_)
   have hf0 : pairF s.xs i = 0 := by
     have hat : ∀ q, s.xs.getD q default = s.at q := fun _ => rfl
     unfold pairF
     simp only [hat]
     try simp only [h1, h2, h3, h4, h5, h6, h7, emp_size, ne_eq, not_true_eq_false, not_false_eq_true, true_or, or_true, false_or, or_false, and_true, true_and, and_false, false_and, and_self, or_self, if_true, if_false, Bool.true_eq_false, Bool.false_eq_true, reduceIte, Classical.not_not, Bool.and_eq_true, decide_eq_true_eq]
     repeat (first | rw [if_pos (by omega)] | rw [if_neg (by omega)])
     all_goals first | rfl | (exfalso; omega)
   exact on1 (i + 1) ⟨by omega, by rw [hI]; exact firstF_step (by omega) hf0⟩ (by omega)
 rw [bytes_total] at h7
 simp only [Bool.not_eq_true', Bool.not_eq_false', Bool.not_eq_true, Bool.not_eq_false] at h7
 refine Mt [.int .i64 14] fun bs w hS => ?_
 refine ⟨?_, hS.kp⟩
 simp only [retOf, den, List.map_cons, List.map_nil]
 have hf : pairF s.xs i = 14 := by
   have hat : ∀ q, s.xs.getD q default = s.at q := fun _ => rfl
   unfold pairF
   simp only [hat]
   try simp only [h1, h2, h3, h4, h5, h6, h7, emp_size, ne_eq, not_true_eq_false, not_false_eq_true, true_or, or_true, false_or, or_false, and_true, true_and, and_false, false_and, and_self, or_self, if_true, if_false, Bool.true_eq_false, Bool.false_eq_true, reduceIte, Classical.not_not, Bool.and_eq_true, decide_eq_true_eq]
   repeat (first | rw [if_pos (by omega)] | rw [if_neg (by omega)])
   all_goals first | rfl | (exfalso; omega)
 rw [hI, firstF_here (by omega) hf (by omega)]

theorem machine_Check {B : Nat → Prop} (x : CState) (w : World) (hx : Rds.sub B w x) : Calls Tryz.prog 20 #[.agg #[.int .i64 x.index, .slice x.locks.A x.locks.n x.locks.c, .slice x.pairs.A x.pairs.n x.pairs.c, .slice x.sessions.A x.sessions.n x.sessions.c]] w fun e w' => e = .returned (.int .i64 (mState x.abs)) ∧ Kp [] w w' := by
 have okx := Rds.okof hx
 refine M0 Tryz.func20 (J := ?_)
 refine Mp Tryz.call63 (fun bs w hS => session_Check x.sessions x.index w (And.right (And.right (Rds.kp hx hS.kp)))) (J := ?_)
 refine Mdn (mSess (x.sessions.xs.map CSession.abs) x.index = 0) (T := fun h1 => ?_) (F := fun h1 => ?_)
 rotate_left
 · refine Mt [.int .i64 (mSess (x.sessions.xs.map CSession.abs) x.index)] fun bs w hS => ?_
   refine ⟨?_, hS.kp⟩
   have hm : mState x.abs = mSess (x.sessions.xs.map CSession.abs) x.index := by
     have q1 : x.abs.sessions = x.sessions.xs.map CSession.abs := rfl
     have q2 : x.abs.locks = x.locks.xs.map CLock.abs := rfl
     have q3 : x.abs.pairs = x.pairs.xs := rfl
     have q4 : x.abs.index = x.index := rfl
     unfold mState; rw [q1, q2, q3, q4]; simp only [h1, if_true, if_false, reduceIte]
   rw [hm]
   rfl
 refine Mp Tryz.call64 (fun bs w hS => lock_Check x.locks w (And.left (Rds.kp hx hS.kp))) (J := ?_)
 refine Mdn (mLocks (x.locks.xs.map CLock.abs) = 0) (T := fun h2 => ?_) (F := fun h2 => ?_)
 rotate_left
 · refine Mt [.int .i64 (mLocks (x.locks.xs.map CLock.abs))] fun bs w hS => ?_
   refine ⟨?_, hS.kp⟩
   have hm : mState x.abs = mLocks (x.locks.xs.map CLock.abs) := by
     have q1 : x.abs.sessions = x.sessions.xs.map CSession.abs := rfl
     have q2 : x.abs.locks = x.locks.xs.map CLock.abs := rfl
     have q3 : x.abs.pairs = x.pairs.xs := rfl
     have q4 : x.abs.index = x.index := rfl
     unfold mState; rw [q1, q2, q3, q4]; simp only [h1, h2, if_true, if_false, reduceIte]
   rw [hm]
   rfl
 refine Mp Tryz.call65 (fun bs w hS => pair_Check x.pairs w (And.left (And.right (Rds.kp hx hS.kp)))) (J := ?_)
 refine Mt [.int .i64 (mPairs x.pairs.xs)] fun bs w hS => ?_
 refine ⟨?_, hS.kp⟩
 have hm : mState x.abs = mPairs x.pairs.xs := by
   have q1 : x.abs.sessions = x.sessions.xs.map CSession.abs := rfl
   have q2 : x.abs.locks = x.locks.xs.map CLock.abs := rfl
   have q3 : x.abs.pairs = x.pairs.xs := rfl
   have q4 : x.abs.index = x.index := rfl
   unfold mState; rw [q1, q2, q3, q4]; simp only [h1, h2, if_true, if_false, reduceIte]
 rw [hm]
 rfl

theorem ref_StateFault {B : Nat → Prop} (x : CState) (w : World) (hx : Rds.sub B w x) : Calls Tryz.prog 30 #[.agg #[.int .i64 x.index, .slice x.locks.A x.locks.n x.locks.c, .slice x.pairs.A x.pairs.n x.pairs.c, .slice x.sessions.A x.sessions.n x.sessions.c]] w fun e w' => e = .returned (.int .i64 (mState x.abs)) ∧ Kp [] w w' := by
 have okx := Rds.okof hx
 refine M0 Tryz.func30 (J := ?_)
 refine Mp Tryz.call92 (fun bs w hS => ref_SessionsFault x.sessions x.index w (And.right (And.right (Rds.kp hx hS.kp)))) (J := ?_)
 refine Md (mSess (x.sessions.xs.map CSession.abs) x.index = 0) (T := fun h1 => ?_) (F := fun h1 => ?_)
 rotate_left
 · refine Md (mSess (x.sessions.xs.map CSession.abs) x.index = 0) (T := fun h3 => ?_) (F := fun h3 => ?_)
   · exact absurd h3 h1
   refine Mt [.int .i64 (mSess (x.sessions.xs.map CSession.abs) x.index)] fun bs w hS => ?_
   refine ⟨?_, hS.kp⟩
   have hm : mState x.abs = mSess (x.sessions.xs.map CSession.abs) x.index := by
     have q1 : x.abs.sessions = x.sessions.xs.map CSession.abs := rfl
     have q2 : x.abs.locks = x.locks.xs.map CLock.abs := rfl
     have q3 : x.abs.pairs = x.pairs.xs := rfl
     have q4 : x.abs.index = x.index := rfl
     unfold mState; rw [q1, q2, q3, q4]; simp only [h1, h3, if_true, if_false, reduceIte]
   rw [hm]
   rfl
 refine Mp Tryz.call93 (fun bs w hS => ref_LocksFault x.locks w (And.left (Rds.kp hx hS.kp))) (J := ?_)
 refine Md (mLocks (x.locks.xs.map CLock.abs) = 0) (T := fun h2 => ?_) (F := fun h2 => ?_)
 rotate_left
 · refine Mt [.int .i64 (mLocks (x.locks.xs.map CLock.abs))] fun bs w hS => ?_
   refine ⟨?_, hS.kp⟩
   have hm : mState x.abs = mLocks (x.locks.xs.map CLock.abs) := by
     have q1 : x.abs.sessions = x.sessions.xs.map CSession.abs := rfl
     have q2 : x.abs.locks = x.locks.xs.map CLock.abs := rfl
     have q3 : x.abs.pairs = x.pairs.xs := rfl
     have q4 : x.abs.index = x.index := rfl
     unfold mState; rw [q1, q2, q3, q4]; simp only [h1, h2, if_true, if_false, reduceIte]
   rw [hm]
   rfl
 refine Mp Tryz.call94 (fun bs w hS => ref_PairsFault x.pairs w (And.left (And.right (Rds.kp hx hS.kp)))) (J := ?_)
 refine Mt [.int .i64 (mPairs x.pairs.xs)] fun bs w hS => ?_
 refine ⟨?_, hS.kp⟩
 have hm : mState x.abs = mPairs x.pairs.xs := by
   have q1 : x.abs.sessions = x.sessions.xs.map CSession.abs := rfl
   have q2 : x.abs.locks = x.locks.xs.map CLock.abs := rfl
   have q3 : x.abs.pairs = x.pairs.xs := rfl
   have q4 : x.abs.index = x.index := rfl
   unfold mState; rw [q1, q2, q3, q4]; simp only [h1, h2, if_true, if_false, reduceIte]
 rw [hm]
 rfl

theorem log_Check {B : Nat → Prop} (x : CLog) (w : World) (hx : Rds.sub B w x) : Calls Tryz.prog 110 #[.agg #[.int .i64 x.base, .slice x.entries.A x.entries.n x.entries.c]] w fun e w' => e = .returned (.int .i64 (mLog x.abs)) ∧ Kp [] w w' := by
 have okx := Rds.okof hx
 have ncx := Sl.ok.nc okx
 have hnx : x.entries.n = x.entries.xs.length := rfl
 have q1 : x.abs.base = x.base := rfl
 have q2 : x.abs.entries = x.entries.xs := rfl
 have hat : ∀ q, x.entries.xs.getD q default = x.entries.at q := fun _ => rfl
 refine M0 Tryz.func110 (J := ?_)
 refine Md (x.base < 0) (T := fun h1 => ?_) (F := fun h1 => ?_)
 · refine Mt [.int .i64 2] fun bs w hS => ?_
   refine ⟨?_, hS.kp⟩
   simp only [retOf, den, List.map_cons, List.map_nil]
   have hm : mLog x.abs = 2 := by
     unfold mLog; rw [q1, q2]
     first | rw [if_pos (by omega)] | rw [if_neg (by omega), if_pos (by omega)]
   rw [hm]
 refine Md ((1073741424 : Int) < x.base) (T := fun h2 => ?_) (F := fun h2 => ?_)
 · refine Mt [.int .i64 2] fun bs w hS => ?_
   refine ⟨?_, hS.kp⟩
   simp only [retOf, den, List.map_cons, List.map_nil]
   have hm : mLog x.abs = 2 := by
     unfold mLog; rw [q1, q2]
     first | rw [if_pos (by omega)] | rw [if_neg (by omega), if_pos (by omega)]
   rw [hm]
 refine Md ((400 : Int) < (x.entries.n : Int)) (T := fun h3 => ?_) (F := fun h3 => ?_)
 · refine Mt [.int .i64 1] fun bs w hS => ?_
   refine ⟨?_, hS.kp⟩
   simp only [retOf, den, List.map_cons, List.map_nil]
   have hm : mLog x.abs = 1 := by
     unfold mLog; rw [q1, q2]
     first | rw [if_pos (by omega)] | rw [if_neg (by omega), if_pos (by omega)]
   rw [hm]
 refine Ml (σ := Nat) (fun i => i ≤ x.entries.n ∧ mLog x.abs = firstF (logF x.entries.xs) (x.entries.n - i) i) (fun i => x.entries.n - i) (fun _ => []) [22, 21, 20] (fun i => [(22, vI (i : Int))]) (fun _ => []) 0 ⟨Nat.zero_le _, by unfold mLog; rw [q1, q2, if_neg (by omega), if_neg (by omega)]⟩ (B := ?_)
 rintro i ⟨hi, hI⟩ _ on1
 refine Md ((i : Int) < (x.entries.n : Int)) (T := fun h4 => ?_) (F := fun h4 => ?_)
 rotate_left
 · refine Mt [.int .i64 0] fun bs w hS => ?_
   refine ⟨?_, hS.kp⟩
   simp only [retOf, den, List.map_cons, List.map_nil]
   rw [hI, firstF_end (by omega)]
 refine Mi (pA 24 25 (i : Int) i (s := x.entries) (fun w hk hr => (Rds.kp hx hk))) (J := ?_)
 refine Mp Tryz.call21 (fun bs w hS => command_Decode (x.entries.at i) w (Sl.ok.at (s := x.entries) (i := i) okx (by omega))) (J := ?_)
 refine Mdn ((mDecode (x.entries.at i)).2 = 0) (T := fun h5 => ?_) (F := fun h5 => ?_)
 · refine Mi (pR ((i : Int) + 1)) (J := ?_)
   have hf0 : logF x.entries.xs i = 0 := by unfold logF; rw [hat]; assumption
   exact on1 (i + 1) ⟨by omega, by rw [hI]; exact firstF_step (by omega) hf0⟩ (by omega)
 refine Mt [.int .i64 (mDecode (x.entries.at i)).2] fun bs w hS => ?_
 refine ⟨?_, hS.kp⟩
 simp only [retOf, den, List.map_cons, List.map_nil]
 have hf : logF x.entries.xs i = (mDecode (x.entries.at i)).2 := by unfold logF; rw [hat]
 rw [hI, firstF_here (by omega) hf (by assumption)]

theorem ref_LogFault {B : Nat → Prop} (x : CLog) (w : World) (hx : Rds.sub B w x) : Calls Tryz.prog 113 #[.agg #[.int .i64 x.base, .slice x.entries.A x.entries.n x.entries.c]] w fun e w' => e = .returned (.int .i64 (mLog x.abs)) ∧ Kp [] w w' := by
 have okx := Rds.okof hx
 have ncx := Sl.ok.nc okx
 have hnx : x.entries.n = x.entries.xs.length := rfl
 have q1 : x.abs.base = x.base := rfl
 have q2 : x.abs.entries = x.entries.xs := rfl
 have hat : ∀ q, x.entries.xs.getD q default = x.entries.at q := fun _ => rfl
 refine M0 Tryz.func113 (J := ?_)
 refine Mp Tryz.call51 (fun bs w hS => ref_In x.base 0 1073741424 w) (J := ?_)
 refine Mbn (inB x.base 0 1073741424) (T := fun h1 => ?_) (F := fun h1 => ?_)
 rotate_left
 · simp only [inB, Bool.and_eq_true, Bool.and_eq_false_iff, decide_eq_true_eq, decide_eq_false_iff_not] at h1
   refine Mt [.int .i64 2] fun bs w hS => ?_
   refine ⟨?_, hS.kp⟩
   simp only [retOf, den, List.map_cons, List.map_nil]
   have hm : mLog x.abs = 2 := by
     unfold mLog; rw [q1, q2]
     first | rw [if_pos (by omega)] | rw [if_neg (by omega), if_pos (by omega)]
   rw [hm]
 simp only [inB, Bool.and_eq_true, Bool.and_eq_false_iff, decide_eq_true_eq, decide_eq_false_iff_not] at h1
 refine Md ((400 : Int) < (x.entries.n : Int)) (T := fun h2 => ?_) (F := fun h2 => ?_)
 · refine Mt [.int .i64 1] fun bs w hS => ?_
   refine ⟨?_, hS.kp⟩
   simp only [retOf, den, List.map_cons, List.map_nil]
   have hm : mLog x.abs = 1 := by
     unfold mLog; rw [q1, q2]
     first | rw [if_pos (by omega)] | rw [if_neg (by omega), if_pos (by omega)]
   rw [hm]
 refine Ml (σ := Nat) (fun i => i ≤ x.entries.n ∧ mLog x.abs = firstF (logF x.entries.xs) (x.entries.n - i) i) (fun i => x.entries.n - i) (fun _ => []) [3, 1] (fun i => [(3, vI (i : Int))]) (fun _ => []) 0 ⟨Nat.zero_le _, by unfold mLog; rw [q1, q2, if_neg (by omega), if_neg (by omega)]⟩ (B := ?_)
 rintro i ⟨hi, hI⟩ _ on1
 refine Md ((i : Int) < (x.entries.n : Int)) (T := fun h3 => ?_) (F := fun h3 => ?_)
 rotate_left
 · refine Mt [.int .i64 0] fun bs w hS => ?_
   refine ⟨?_, hS.kp⟩
   simp only [retOf, den, List.map_cons, List.map_nil]
   rw [hI, firstF_end (by omega)]
 refine Mi (pA 25 26 (i : Int) i (s := x.entries) (fun w hk hr => (Rds.kp hx hk))) (J := ?_)
 refine Mp Tryz.call31 (fun bs w hS => ref_CommandOf (x.entries.at i) w (Sl.ok.at (s := x.entries) (i := i) okx (by omega))) (J := ?_)
 refine Mdn ((mDecode (x.entries.at i)).2 = 0) (T := fun h4 => ?_) (F := fun h4 => ?_)
 · refine Mi (pR ((i : Int) + 1)) (J := ?_)
   have hf0 : logF x.entries.xs i = 0 := by unfold logF; rw [hat]; assumption
   exact on1 (i + 1) ⟨by omega, by rw [hI]; exact firstF_step (by omega) hf0⟩ (by omega)
 refine Mt [.int .i64 (mDecode (x.entries.at i)).2] fun bs w hS => ?_
 refine ⟨?_, hS.kp⟩
 simp only [retOf, den, List.map_cons, List.map_nil]
 have hf : logF x.entries.xs i = (mDecode (x.entries.at i)).2 := by unfold logF; rw [hat]
 rw [hI, firstF_here (by omega) hf (by assumption)]

theorem log_Last {B : Nat → Prop} (x : CLog) (w : World) (hx : Rds.sub B w x) (hb : 0 ≤ x.base ∧ x.base ≤ 1073741424 ∧ x.entries.n ≤ 1048576) : Calls Tryz.prog 49 #[.agg #[.int .i64 x.base, .slice x.entries.A x.entries.n x.entries.c]] w fun e w' => e = .returned (.int .i64 (x.base + (x.entries.n : Int))) ∧ Kp [] w w' := by
 have okx := Rds.okof hx
 have ncx := Sl.ok.nc okx
 have hnx : x.entries.n = x.entries.xs.length := rfl
 have q1 : x.abs.base = x.base := rfl
 have q2 : x.abs.entries = x.entries.xs := rfl
 have hat : ∀ q, x.entries.xs.getD q default = x.entries.at q := fun _ => rfl
 refine M0 Tryz.func49 (J := ?_)
 refine Mi (pR (x.base + (x.entries.n : Int))) (J := ?_)
 exact Mt [.int .i64 (x.base + (x.entries.n : Int))] fun bs w hS => ⟨rfl, hS.kp⟩

theorem ref_LastOf {B : Nat → Prop} (x : CLog) (w : World) (hx : Rds.sub B w x) (hb : 0 ≤ x.base ∧ x.base ≤ 1073741424 ∧ x.entries.n ≤ 1048576) : Calls Tryz.prog 52 #[.agg #[.int .i64 x.base, .slice x.entries.A x.entries.n x.entries.c]] w fun e w' => e = .returned (.int .i64 (x.base + (x.entries.n : Int))) ∧ Kp [] w w' := by
 have okx := Rds.okof hx
 have ncx := Sl.ok.nc okx
 have hnx : x.entries.n = x.entries.xs.length := rfl
 have q1 : x.abs.base = x.base := rfl
 have q2 : x.abs.entries = x.entries.xs := rfl
 have hat : ∀ q, x.entries.xs.getD q default = x.entries.at q := fun _ => rfl
 refine M0 Tryz.func52 (J := ?_)
 refine Mi (pR (x.base + (x.entries.n : Int))) (J := ?_)
 exact Mt [.int .i64 (x.base + (x.entries.n : Int))] fun bs w hS => ⟨rfl, hS.kp⟩

theorem bytealg_CompareString (a b : ByteArray) (w : World) : Calls Tryz.prog 189 #[.string a, .string b] w fun e w' => e = .returned (.int .i64 (cmpS a b)) ∧ Kp [] w w' := by
 refine M0 Tryz.func189 (J := ?_)
 refine Mx (vs := fun bs => [.string a, .string b]) (v := .int .i64 (cmpS a b)) (fun bs w hS => by rw [run_callFunc_extern Tryz.func218 (by kernel_rfl) (by kernel_rfl) (by kernel_rfl) (e := Extern.BytealgCompare.compare) (by kernel_rfl)]; show ((Extern.BytealgCompare.compare #[.string a, .string b]).run _ w).andThen _ = _; rw [Lib.run_compareString]; rfl) (J := ?_)
 exact Mt [.int .i64 (cmpS a b)] fun bs w hS => ⟨rfl, hS.kp⟩

theorem strings_Compare (a b : ByteArray) (w : World) : Calls Tryz.prog 147 #[.string a, .string b] w fun e w' => e = .returned (.int .i64 (cmpS a b)) ∧ Kp [] w w' := by
 refine M0 Tryz.func147 (J := ?_)
 refine Mp Tryz.call189 (fun bs w hS => bytealg_CompareString a b w) (J := ?_)
 exact Mt [.int .i64 (cmpS a b)] fun bs w hS => ⟨rfl, hS.kp⟩

theorem lock_Who_1 (x : CLock) (t : ByteArray) (w : World) : Calls Tryz.prog 146 #[.agg #[.string x.name, .int .i64 x.holder, .int .i64 x.fence, .slice x.line.A x.line.n x.line.c], .string t] w fun e w' => e = .returned (.int .i64 (cmpS x.name t)) ∧ Kp [] w w' := by
 refine M0 Tryz.func146 (J := ?_)
 refine Mp Tryz.call147 (fun bs w hS => strings_Compare x.name t w) (J := ?_)
 exact Mt [.int .i64 (cmpS x.name t)] fun bs w hS => ⟨rfl, hS.kp⟩

theorem bs_lock_Who_1 {B : Nat → Prop} (s : Sl CLock) (t : ByteArray) (w : World) (hs : s.rd B w) (hn : s.n ≤ 1048576) : Calls Tryz.prog 145 #[.slice s.A s.n s.c, .string t, .func (.func 146) #[] #[]] w fun e w' => e = .returned (.tuple #[.int .i64 (mBS (fun x : CLock => cmpS x.name t) s.xs : Nat), .bool (mBSf (fun x : CLock => cmpS x.name t) s.xs)]) ∧ Kp [] w w' := by
 have oks := Sl.rd.ok hs
 have ncs := Sl.ok.nc oks
 have hns : s.n = s.xs.length := rfl
 refine Mj Tryz.func145 (WS.start w) (J := ?_)
 refine Ml (σ := Nat × Nat × Nat) (fun ⟨i, j, f⟩ => i ≤ j ∧ j ≤ s.n ∧ j - i ≤ f ∧ mBS (fun x : CLock => cmpS x.name t) s.xs = bsGo (fun j => decide (cmpS (s.at j).name t < 0)) f i j) (fun ⟨i, j, f⟩ => f) (fun _ => []) [10, 9, 8, 0, 1, 2] (fun ⟨i, j, f⟩ => [(10, vI (j : Int)), (9, vI (i : Int))]) (fun _ => []) (⟨0, s.n, s.n⟩) ⟨Nat.zero_le _, Nat.le_refl _, Nat.le_refl _, rfl⟩ (B := ?_)
 rintro ⟨i, j, f⟩ ⟨h1, h2, h3, hI⟩ _ on1
 have hdiv : ((i : Int) + (j : Int)) / 2 = (((i + j) / 2 : Nat) : Int) := by omega
 refine Md ((i : Int) < (j : Int)) (T := fun h1 => ?_) (F := fun h1 => ?_)
 rotate_left
 · refine Md ((i : Int) < (s.n : Int)) (T := fun h3 => ?_) (F := fun h3 => ?_)
   rotate_left
   · refine Mt [.int .i64 (i : Int), .bool false] fun bs w hS => ?_
     have hij : i = j := by omega
     subst hij
     have hr : mBS (fun x : CLock => cmpS x.name t) s.xs = i := by rw [hI]; exact bsGo_end _ _ _ _ (Nat.le_refl _)
     refine ⟨?_, hS.kp⟩
     have hr2 : mBSf (fun x : CLock => cmpS x.name t) s.xs = false := by
       unfold mBSf; rw [hr]
       rw [decide_eq_false (show ¬ i < s.xs.length by omega)]; rfl
     rw [hr, hr2]
     rfl
   refine Mi (pA 43 44 (i : Int) i (rdk hs)) (J := ?_)
   refine Mp Tryz.call146 (fun bs w hS => lock_Who_1 (s.at i) t w) (J := ?_)
   refine Mt [.int .i64 (i : Int), .bool (decide (cmpS (s.at i).name t = 0))] fun bs w hS => ?_
   have hij : i = j := by omega
   subst hij
   have hr : mBS (fun x : CLock => cmpS x.name t) s.xs = i := by rw [hI]; exact bsGo_end _ _ _ _ (Nat.le_refl _)
   refine ⟨?_, hS.kp⟩
   have hr2 : mBSf (fun x : CLock => cmpS x.name t) s.xs = (decide (cmpS (s.at i).name t = 0)) := by
     unfold mBSf; rw [hr]
     rw [decide_eq_true (show i < s.xs.length by omega)]; rfl
   rw [hr, hr2]
   rfl
 refine Mi (pc (pR ((i : Int) + (j : Int))) (pc (pG [(21, .val (.int .u64 ((i : Int) + (j : Int))))] (oc ((conv_i64_u64 Tryz.underlying3 Tryz.underlying203 (by omega) (by omega)) : ∀ w, (convert 3 203 (.int .i64 ((i : Int) + (j : Int))) : Sem Value).run Tryz.prog w = .ok (.int .u64 ((i : Int) + (j : Int))) w) on)) (pc (pG [(22, .val (.int .u64 (((i : Int) + (j : Int)) / 2)))] (oc (shr_u64 : ∀ w, (do eqGuard .shr 203 (.tmp 21) (.const (.int .u64 1)) (.int .u64 ((i : Int) + (j : Int))) (.int .u64 1); binOp .shr 203 (.int .u64 ((i : Int) + (j : Int))) (.int .u64 1) : Sem Value).run Tryz.prog w = .ok (.int .u64 (((i : Int) + (j : Int)) / 2)) w) on)) (pc (pG [(23, .val (.int .i64 (((i : Int) + (j : Int)) / 2)))] (oc ((conv_u64_i64 Tryz.underlying203 Tryz.underlying3 (by omega) (by omega)) : ∀ w, (convert 203 3 (.int .u64 (((i : Int) + (j : Int)) / 2)) : Sem Value).run Tryz.prog w = .ok (.int .i64 (((i : Int) + (j : Int)) / 2)) w) on)) (pA 27 28 (((i : Int) + (j : Int)) / 2) (((i : Int) + (j : Int)) / 2).toNat (rdk hs)))))) (J := ?_)
 refine Mp Tryz.call146 (fun bs w hS => lock_Who_1 (s.at (((i : Int) + (j : Int)) / 2).toNat) t w) (J := ?_)
 refine Md (cmpS (s.at (((i : Int) + (j : Int)) / 2).toNat).name t < 0) (T := fun h2 => ?_) (F := fun h2 => ?_)
 rotate_left
 · have hf1 : f = (f - 1) + 1 := by omega
   rw [hf1] at hI
   have hI2 := hI.trans (bsGo_down (by omega) (decide_eq_false (by assumption)))
   exact on1 (⟨i, (i + j) / 2, f - 1⟩ : Nat × Nat × Nat) ⟨by omega, by omega, by omega, hI2⟩ (by show f - 1 < f; omega)
 refine Mi (pR ((((i : Int) + (j : Int)) / 2) + 1)) (J := ?_)
 have hf1 : f = (f - 1) + 1 := by omega
 rw [hf1] at hI
 have hI2 := hI.trans (bsGo_up (by omega) (decide_eq_true (by assumption)))
 exact on1 (⟨(i + j) / 2 + 1, j, f - 1⟩ : Nat × Nat × Nat) ⟨by omega, by omega, by omega, hI2⟩ (by show f - 1 < f; omega)

theorem tackroomref_lockAt {B : Nat → Prop} (s : Sl CLock) (t : ByteArray) (w : World) (hs : s.rd B w) : Calls Tryz.prog 100 #[.slice s.A s.n s.c, .string t] w fun e w' => e = .returned (.int .i64 (mIdx (fun x : CLock => decide (x.name = t)) s.xs)) ∧ Kp [] w w' := by
 have oks := Sl.rd.ok hs
 have ncs := Sl.ok.nc oks
 have hns : s.n = s.xs.length := rfl
 refine M0 Tryz.func100 (J := ?_)
 refine Ml (σ := Nat) (fun i => i ≤ s.n ∧ ∀ j, j < i → decide ((s.at j).name = t) = false) (fun i => s.n - i) (fun _ => []) [5, 0, 1] (fun i => [(5, vI (i : Int))]) (fun _ => []) 0 ⟨Nat.zero_le _, fun j hj => absurd hj (Nat.not_lt_zero _)⟩ (B := ?_)
 rintro i ⟨hi, hI⟩ _ on1
 refine Md ((i : Int) < (s.n : Int)) (T := fun h1 => ?_) (F := fun h1 => ?_)
 rotate_left
 · refine Mt [.int .i64 (-1)] fun bs w hS => ?_
   refine ⟨?_, hS.kp⟩
   rw [mIdx_none (p := (fun x : CLock => decide (x.name = t))) fun j hj => hI j (by omega)]
   rfl
 refine Mi (pc (pI 14 (i : Int) i (rdk hs)) (pF 16 i 0 1 (rdk hs))) (J := ?_)
 refine Md ((s.at i).name = t) (T := fun h2 => ?_) (F := fun h2 => ?_)
 · refine Mt [.int .i64 (i : Int)] fun bs w hS => ?_
   refine ⟨?_, hS.kp⟩
   rw [mIdx_here (p := (fun x : CLock => decide (x.name = t))) (i := i) (by omega) (decide_eq_true (by assumption)) hI]
   rfl
 refine Mi (pR ((i : Int) + 1)) (J := ?_)
 exact on1 (i + 1) ⟨by omega, fun j hj => by rcases Nat.lt_succ_iff_lt_or_eq.1 hj with h | h; exact hI j h; subst h; exact decide_eq_false (by assumption)⟩ (by omega)

theorem lock_Who {B : Nat → Prop} (s : Sl CLock) (t : ByteArray) (w : World) (hs : s.rd B w) : Calls Tryz.prog 83 #[.slice s.A s.n s.c, .string t] w fun e w' => e = .returned (.tuple #[.int .i64 (mWho (s.xs.map CLock.abs) t).1, .int .i64 (mWho (s.xs.map CLock.abs) t).2.1, .int .i64 (mWho (s.xs.map CLock.abs) t).2.2]) ∧ Kp [] w w' := by
 have oks := Sl.rd.ok hs
 have ncs := Sl.ok.nc oks
 have hns : s.n = s.xs.length := rfl
 have hat : ∀ q, (s.xs.map CLock.abs).getD q default = (s.at q).abs := fun q => abs_at q
 have hq1 : ∀ q, (s.at q).abs.name = (s.at q).name := fun _ => rfl
 have hq2 : ∀ q, (s.at q).abs.holder = (s.at q).holder := fun _ => rfl
 have hq3 : ∀ q, (s.at q).abs.fence = (s.at q).fence := fun _ => rfl
 have hml : (s.xs.map CLock.abs).length = s.n := by simp
 refine M0 Tryz.func83 (J := ?_)
 refine Mp Tryz.call64 (fun bs w hS => lock_Check s w (Sl.rd.kp hs hS.kp)) (J := ?_)
 refine Mdn (mLocks (s.xs.map CLock.abs) = 0) (T := fun h1 => ?_) (F := fun h1 => ?_)
 rotate_left
 · refine Mt [.int .i64 0, .int .i64 0, .int .i64 (mLocks (s.xs.map CLock.abs))] fun bs w hS => ?_
   refine ⟨?_, hS.kp⟩
   have hm : mWho (s.xs.map CLock.abs) t = (0, 0, mLocks (s.xs.map CLock.abs)) := by
     unfold mWho; rw [if_neg h1]
   rw [hm]
   rfl
 have hln := (mLocks_bd h1).1
 refine Mp Tryz.call145 (fun bs w hS => bs_lock_Who_1 s t w (Sl.rd.kp hs hS.kp) (by omega)) (J := ?_)
 refine Mbn (mBSf (fun x : CLock => cmpS x.name t) s.xs) (T := fun h2 => ?_) (F := fun h2 => ?_)
 rotate_left
 · refine Mt [.int .i64 0, .int .i64 0, .int .i64 0] fun bs w hS => ?_
   refine ⟨?_, hS.kp⟩
   have hm : mWho (s.xs.map CLock.abs) t = (0, 0, 0) := by
     have hb := bsf_lock (L := s.xs) (by assumption) t
     have hb1 := hb.1
     rw [h2] at hb1
     have hb3 := of_decide_eq_false hb1.symm
     unfold mWho; rw [if_pos (by assumption)]
     apply if_neg
     rintro ⟨h1z, h2z⟩
     omega
   rw [hm]
   rfl
 have hlt := mBSf_lt h2
 refine Mi (pc (pI 26 ((mBS (fun x : CLock => cmpS x.name t) s.xs : Nat) : Int) (((mBS (fun x : CLock => cmpS x.name t) s.xs : Nat) : Int)).toNat (rdk hs)) (pF 28 (((mBS (fun x : CLock => cmpS x.name t) s.xs : Nat) : Int)).toNat 1 1 (rdk hs))) (J := ?_)
 refine Md ((s.at (((mBS (fun x : CLock => cmpS x.name t) s.xs : Nat) : Int)).toNat).holder = 0) (T := fun h3 => ?_) (F := fun h3 => ?_)
 · refine Mt [.int .i64 0, .int .i64 0, .int .i64 0] fun bs w hS => ?_
   refine ⟨?_, hS.kp⟩
   have hm : mWho (s.xs.map CLock.abs) t = (0, 0, 0) := by
     have hb := bsf_lock (L := s.xs) (by assumption) t
     have hb2 := hb.2 h2
     have hb1 := hb.1
     rw [h2] at hb1
     have hb3 := of_decide_eq_true hb1.symm
     unfold mWho; rw [if_pos (by assumption)]
     apply if_neg
     rintro ⟨h1z, h2z⟩
     rw [← hb2, Int.toNat_natCast, hat, hq2] at h2z
     exact h2z h3
   rw [hm]
   rfl
 refine Mda 13 [] [] [] Tryz_mixed (J := ?_)
 refine Mih (pc (pI 33 ((mBS (fun x : CLock => cmpS x.name t) s.xs : Nat) : Int) (((mBS (fun x : CLock => cmpS x.name t) s.xs : Nat) : Int)).toNat (rdk hs)) (pc (pF 35 (((mBS (fun x : CLock => cmpS x.name t) s.xs : Nat) : Int)).toNat 1 1 (rdk hs)) (pc (pI 38 ((mBS (fun x : CLock => cmpS x.name t) s.xs : Nat) : Int) (((mBS (fun x : CLock => cmpS x.name t) s.xs : Nat) : Int)).toNat (rdk hs)) (pF 40 (((mBS (fun x : CLock => cmpS x.name t) s.xs : Nat) : Int)).toNat 2 1 (rdk hs))))) (J := ?_)
 refine Mt [.int .i64 (s.at (((mBS (fun x : CLock => cmpS x.name t) s.xs : Nat) : Int)).toNat).holder, .int .i64 (s.at (((mBS (fun x : CLock => cmpS x.name t) s.xs : Nat) : Int)).toNat).fence, .int .i64 0] fun bs w hS => ?_
 refine ⟨?_, hS.kp⟩
 have hm : mWho (s.xs.map CLock.abs) t = ((s.at (((mBS (fun x : CLock => cmpS x.name t) s.xs : Nat) : Int)).toNat).holder, (s.at (((mBS (fun x : CLock => cmpS x.name t) s.xs : Nat) : Int)).toNat).fence, 0) := by
   have hb := bsf_lock (L := s.xs) (by assumption) t
   have hb2 := hb.2 h2
   have hb1 := hb.1
   rw [h2] at hb1
   have hb3 := of_decide_eq_true hb1.symm
   unfold mWho; rw [if_pos (by assumption)]
   rw [← hb2, Int.toNat_natCast, hat, hq2, hq3, if_pos ⟨by omega, by assumption⟩]
 rw [hm]
 rfl

theorem ref_HolderOf {B : Nat → Prop} (s : Sl CLock) (t : ByteArray) (w : World) (hs : s.rd B w) : Calls Tryz.prog 37 #[.slice s.A s.n s.c, .string t] w fun e w' => e = .returned (.tuple #[.int .i64 (mWho (s.xs.map CLock.abs) t).1, .int .i64 (mWho (s.xs.map CLock.abs) t).2.1, .int .i64 (mWho (s.xs.map CLock.abs) t).2.2]) ∧ Kp [] w w' := by
 have oks := Sl.rd.ok hs
 have ncs := Sl.ok.nc oks
 have hns : s.n = s.xs.length := rfl
 have hat : ∀ q, (s.xs.map CLock.abs).getD q default = (s.at q).abs := fun q => abs_at q
 have hq1 : ∀ q, (s.at q).abs.name = (s.at q).name := fun _ => rfl
 have hq2 : ∀ q, (s.at q).abs.holder = (s.at q).holder := fun _ => rfl
 have hq3 : ∀ q, (s.at q).abs.fence = (s.at q).fence := fun _ => rfl
 have hml : (s.xs.map CLock.abs).length = s.n := by simp
 have hbd0 := mIdx_bd (fun x : CLock => decide (x.name = t)) s.xs
 have hie : mIdx (fun x : CLock => decide (x.name = t)) s.xs = mIdx (fun y : DLock => decide (y.name = t)) (s.xs.map CLock.abs) := mIdx_map CLock.abs (fun y : DLock => decide (y.name = t)) s.xs
 refine M0 Tryz.func37 (J := ?_)
 refine Mp Tryz.call93 (fun bs w hS => ref_LocksFault s w (Sl.rd.kp hs hS.kp)) (J := ?_)
 refine Mp Tryz.call100 (fun bs w hS => tackroomref_lockAt s t w (Sl.rd.kp hs hS.kp)) (J := ?_)
 refine Mdn (mLocks (s.xs.map CLock.abs) = 0) (T := fun h1 => ?_) (F := fun h1 => ?_)
 rotate_left
 · refine Mt [.int .i64 0, .int .i64 0, .int .i64 (mLocks (s.xs.map CLock.abs))] fun bs w hS => ?_
   refine ⟨?_, hS.kp⟩
   have hm : mWho (s.xs.map CLock.abs) t = (0, 0, mLocks (s.xs.map CLock.abs)) := by
     unfold mWho; rw [if_neg h1]
   rw [hm]
   rfl
 have hln := (mLocks_bd h1).1
 refine Md (mIdx (fun x : CLock => decide (x.name = t)) s.xs < 0) (T := fun h2 => ?_) (F := fun h2 => ?_)
 · refine Mt [.int .i64 0, .int .i64 0, .int .i64 (mLocks (s.xs.map CLock.abs))] fun bs w hS => ?_
   refine ⟨?_, hS.kp⟩
   have hm : mWho (s.xs.map CLock.abs) t = (0, 0, mLocks (s.xs.map CLock.abs)) := by
     have hbd := mIdx_bd (fun y : DLock => decide (y.name = t)) (s.xs.map CLock.abs)
     rw [h1]
     unfold mWho; rw [if_pos (by assumption)]
     apply if_neg
     rintro ⟨h1z, h2z⟩
     omega
   rw [hm]
   rfl
 refine Mi (pc (pI 23 (mIdx (fun x : CLock => decide (x.name = t)) s.xs) (mIdx (fun x : CLock => decide (x.name = t)) s.xs).toNat (rdk hs)) (pF 25 (mIdx (fun x : CLock => decide (x.name = t)) s.xs).toNat 1 1 (rdk hs))) (J := ?_)
 refine Md ((s.at (mIdx (fun x : CLock => decide (x.name = t)) s.xs).toNat).holder = 0) (T := fun h3 => ?_) (F := fun h3 => ?_)
 · refine Mt [.int .i64 0, .int .i64 0, .int .i64 (mLocks (s.xs.map CLock.abs))] fun bs w hS => ?_
   refine ⟨?_, hS.kp⟩
   have hm : mWho (s.xs.map CLock.abs) t = (0, 0, mLocks (s.xs.map CLock.abs)) := by
     have hbd := mIdx_bd (fun y : DLock => decide (y.name = t)) (s.xs.map CLock.abs)
     rw [h1]
     unfold mWho; rw [if_pos (by assumption)]
     apply if_neg
     rintro ⟨h1z, h2z⟩
     rw [← hie, hat, hq2] at h2z
     exact h2z h3
   rw [hm]
   rfl
 refine Mda 13 [] [] [] Tryz_mixed (J := ?_)
 refine Mih (pc (pI 31 (mIdx (fun x : CLock => decide (x.name = t)) s.xs) (mIdx (fun x : CLock => decide (x.name = t)) s.xs).toNat (rdk hs)) (pc (pF 33 (mIdx (fun x : CLock => decide (x.name = t)) s.xs).toNat 1 1 (rdk hs)) (pc (pI 36 (mIdx (fun x : CLock => decide (x.name = t)) s.xs) (mIdx (fun x : CLock => decide (x.name = t)) s.xs).toNat (rdk hs)) (pF 38 (mIdx (fun x : CLock => decide (x.name = t)) s.xs).toNat 2 1 (rdk hs))))) (J := ?_)
 refine Mt [.int .i64 (s.at (mIdx (fun x : CLock => decide (x.name = t)) s.xs).toNat).holder, .int .i64 (s.at (mIdx (fun x : CLock => decide (x.name = t)) s.xs).toNat).fence, .int .i64 0] fun bs w hS => ?_
 refine ⟨?_, hS.kp⟩
 have hm : mWho (s.xs.map CLock.abs) t = ((s.at (mIdx (fun x : CLock => decide (x.name = t)) s.xs).toNat).holder, (s.at (mIdx (fun x : CLock => decide (x.name = t)) s.xs).toNat).fence, 0) := by
   have hbd := mIdx_bd (fun y : DLock => decide (y.name = t)) (s.xs.map CLock.abs)
   unfold mWho; rw [if_pos (by assumption)]
   rw [← hie, hat, hq2, hq3, if_pos ⟨by omega, by assumption⟩]
 rw [hm]
 rfl

theorem clone_Int {B : Nat → Prop} (s : Sl Int) (w : World) (hs : s.rd B w) (hb : s.n ≤ 1048576) : Calls Tryz.prog 135 #[.slice s.A s.n s.c] w fun e w' => ∃ y : Sl Int, e = .returned y.val ∧ y.xs = s.xs ∧ Kp [] w w' ∧ Fresh w w' (rowA 3 y.A y.c y.xs) := by
 have oks := Sl.rd.ok hs
 have ncs := Sl.ok.nc oks
 have hns : s.n = s.xs.length := rfl
 refine M0 Tryz.func135 (J := ?_)
 refine Mi (pG [(4, .val (.bool s.A.isNone))] (oc ((eq_nil Tryz.underlying113) : ∀ w, (do eqGuard .eql 113 (.tmp 3) (.const (.slice none 0 0)) (.slice s.A s.n s.c) (.slice none 0 0); binOp .eql 113 (.slice s.A s.n s.c) (.slice none 0 0) : Sem Value).run Tryz.prog w = .ok (.bool s.A.isNone) w) on)) (J := ?_)
 refine Mb (s.A.isNone) (T := fun h1 => ?_) (F := fun h1 => ?_)
 · refine Mt [.slice none 0 0] fun bs w hS => ?_
   have hnil : s.xs = [] := Sl.ok.empty oks (by cases h : s.A <;> simp_all)
   exact ⟨Sl.nil, rfl, hnil.symm, hS.kp, rowA_nil 3 w⟩
 refine Mlz (α := Int) (e := 3) (J := ?_)
 intro A1
 refine Ma (α := Int) (L2 := s.xs) 8 (fun bs w hS => Sl.rd.src (s := s) (Sl.rd.kp hs hS.kp)) (h63 := (by simp only [List.length_nil]; omega)) (hb := (by simp only [List.length_nil]; omega)) (J := ?_)
 intro A2 c2
 exact Mt [.slice A2 ([] ++ s.xs).length c2] fun bs w hS => ⟨⟨A2, c2, [] ++ s.xs⟩, rfl, by simp, hS.kp, hS.out1⟩

theorem clone_Kept {B : Nat → Prop} (s : Sl DKept) (w : World) (hs : s.rd B w) (hb : s.n ≤ 1048576) : Calls Tryz.prog 136 #[.slice s.A s.n s.c] w fun e w' => ∃ y : Sl DKept, e = .returned y.val ∧ y.xs = s.xs ∧ Kp [] w w' ∧ Fresh w w' (rowA 141 y.A y.c y.xs) := by
 have oks := Sl.rd.ok hs
 have ncs := Sl.ok.nc oks
 have hns : s.n = s.xs.length := rfl
 refine M0 Tryz.func136 (J := ?_)
 refine Mi (pG [(4, .val (.bool s.A.isNone))] (oc ((eq_nil Tryz.underlying116) : ∀ w, (do eqGuard .eql 116 (.tmp 3) (.const (.slice none 0 0)) (.slice s.A s.n s.c) (.slice none 0 0); binOp .eql 116 (.slice s.A s.n s.c) (.slice none 0 0) : Sem Value).run Tryz.prog w = .ok (.bool s.A.isNone) w) on)) (J := ?_)
 refine Mb (s.A.isNone) (T := fun h1 => ?_) (F := fun h1 => ?_)
 · refine Mt [.slice none 0 0] fun bs w hS => ?_
   have hnil : s.xs = [] := Sl.ok.empty oks (by cases h : s.A <;> simp_all)
   exact ⟨Sl.nil, rfl, hnil.symm, hS.kp, rowA_nil 141 w⟩
 refine Mlz (α := DKept) (e := 141) (J := ?_)
 intro A1
 refine Ma (α := DKept) (L2 := s.xs) 40 (fun bs w hS => Sl.rd.src (s := s) (Sl.rd.kp hs hS.kp)) (h63 := (by simp only [List.length_nil]; omega)) (hb := (by simp only [List.length_nil]; omega)) (J := ?_)
 intro A2 c2
 exact Mt [.slice A2 ([] ++ s.xs).length c2] fun bs w hS => ⟨⟨A2, c2, [] ++ s.xs⟩, rfl, by simp, hS.kp, hS.out1⟩

theorem lock_Copy {B : Nat → Prop} (s : Sl CLock) (w : World) (hs : s.rd B w) (hsm : Rds.small s) : Calls Tryz.prog 68 #[.slice s.A s.n s.c] w fun e w' => ∃ y : Sl CLock, e = .returned y.val ∧ y.xs.map CLock.abs = s.xs.map CLock.abs ∧ Kp [] w w' ∧ Fresh w w' (locksR 115 3 y) := by
 have oks := Sl.rd.ok hs
 have ncs := Sl.ok.nc oks
 refine M0 Tryz.func68 (J := ?_)
 refine m_rowA (α := CLock) 115 ?_
 refine m_nores (ownL (lineR 3) []) rfl (fun w x hx => by cases hx) ?_
 refine Ml (σ := Nat × Option Addr × Nat × List CLock) (fun ⟨i, A, c, L⟩ => i ≤ s.n ∧ L.length = i ∧ L.map CLock.abs = (s.xs.take i).map CLock.abs) (fun ⟨i, A, c, L⟩ => s.n - i) (fun ⟨i, A, c, L⟩ => [ownL (lineR 3) L, rowA 115 A c (L : List CLock)]) [8, 7, 6, 3] (fun ⟨i, A, c, L⟩ => [(8, vI (i : Int)), (3, .v (.slice A L.length c))]) (fun _ => []) (⟨0, none, 0, []⟩) ⟨Nat.zero_le _, rfl, by simp⟩ (B := ?_)
 rintro ⟨i, A, c, L⟩ ⟨hi, hL, hI⟩ _ on1
 have hsn := hsm.1
 refine Md ((i : Int) < (s.n : Int)) (T := fun h1 => ?_) (F := fun h1 => ?_)
 rotate_left
 · refine Mt [.slice A L.length c] fun bs w hS => ?_
   have hn : L.length = s.n := by omega
   exact ⟨⟨A, c, L⟩, rfl, by rw [hI, take_all (by omega)], hS.kp, hS.out⟩
 refine Mi (pA 10 11 (i : Int) i (rdk hs)) (J := ?_)
 refine Mf (σ := Sl Int) (v := fun y1 => .slice y1.A y1.n y1.c) (F := fun y1 => y1.xs = (s.at i).line.xs) (r := fun y1 => rowA 3 y1.A y1.c (y1.xs : List Int)) Tryz.call135 (fun bs w hS => clone_Int (s.at i).line w (And.right (Sl.rd.sub (s := s) (i := i) (Sl.rd.kp hs hS.kp) (by omega))) (hsm.2 i (by omega)).1) (J := ?_)
 rintro y1 hF1
 refine M1 (J := ?_)
 refine m_f2 ?_
 refine Mal (α := CLock) 56 ([(⟨(s.at i).name, (s.at i).holder, (s.at i).fence, y1⟩ : CLock)]) (h63 := (by first | omega | (simp only [List.length_nil, List.length_cons, List.length_append]; omega) | (have hq := (hsm.2 i (by omega)).1; simp only [Sl.n, List.length_nil] at hq ⊢; omega))) (hb := (by first | omega | (simp only [List.length_nil, List.length_cons, List.length_append]; omega) | (have hq := (hsm.2 i (by omega)).1; simp only [Sl.n, List.length_nil] at hq ⊢; omega))) (J := ?_)
 intro A3 c3
 refine Mi (pR ((i : Int) + 1)) (J := ?_)
 refine m_perm (R' := [rowA 3 y1.A y1.c (y1.xs : List Int), ownL (lineR 3) L, rowA 115 A3 c3 (L ++ [(⟨(s.at i).name, (s.at i).holder, (s.at i).fence, y1⟩ : CLock)] : List CLock)]) (by exact perm3 0 _ _ _) ?_
 refine m_join (ownL (lineR 3) (L ++ [(⟨(s.at i).name, (s.at i).holder, (s.at i).fence, y1⟩ : CLock)])) (ownL_app_fp (lineR 3) L (⟨(s.at i).name, (s.at i).holder, (s.at i).fence, y1⟩ : CLock)) (fun w => ownL_app_p (lineR 3) L (⟨(s.at i).name, (s.at i).holder, (s.at i).fence, y1⟩ : CLock) w) ?_
 exact on1 (⟨i + 1, A3, c3, L ++ [(⟨(s.at i).name, (s.at i).holder, (s.at i).fence, y1⟩ : CLock)]⟩ : Nat × Option Addr × Nat × List CLock) ⟨by omega, by rw [List.length_append]; simp [hL], map_take_snoc (by omega) hI (by first | simp [CLock.abs, hF1] | simp [CLock.abs])⟩ (by show s.n - (i + 1) < s.n - i; omega)
theorem lock_CopyS {B : Nat → Prop} (s : Sl CLock) (w : World) (hs : s.rd B w) (hsm : Rds.small s) : Calls Tryz.prog 68 #[.slice s.A s.n s.c] w fun e w' => ∃ y : Sl CLock, e = .returned y.val ∧ y.xs.map CLock.abs = s.xs.map CLock.abs ∧ FreshS w w' y :=
  (lock_Copy s w hs hsm).mono fun e w' ⟨y, h1, h2, h3, h4⟩ => ⟨y, h1, h2, h3, h4.sub fun hp => locksR_rd hp (locks_names hs h2)⟩

theorem session_Copy {B : Nat → Prop} (s : Sl CSession) (w : World) (hs : s.rd B w) (hsm : Rds.small s) : Calls Tryz.prog 70 #[.slice s.A s.n s.c] w fun e w' => ∃ y : Sl CSession, e = .returned y.val ∧ y.xs.map CSession.abs = s.xs.map CSession.abs ∧ Kp [] w w' ∧ Fresh w w' (sessR 118 141 y) := by
 have oks := Sl.rd.ok hs
 have ncs := Sl.ok.nc oks
 refine M0 Tryz.func70 (J := ?_)
 refine m_rowA (α := CSession) 118 ?_
 refine m_nores (ownL (keptR 141) []) rfl (fun w x hx => by cases hx) ?_
 refine Ml (σ := Nat × Option Addr × Nat × List CSession) (fun ⟨i, A, c, L⟩ => i ≤ s.n ∧ L.length = i ∧ L.map CSession.abs = (s.xs.take i).map CSession.abs) (fun ⟨i, A, c, L⟩ => s.n - i) (fun ⟨i, A, c, L⟩ => [ownL (keptR 141) L, rowA 118 A c (L : List CSession)]) [8, 7, 6, 3] (fun ⟨i, A, c, L⟩ => [(8, vI (i : Int)), (3, .v (.slice A L.length c))]) (fun _ => []) (⟨0, none, 0, []⟩) ⟨Nat.zero_le _, rfl, by simp⟩ (B := ?_)
 rintro ⟨i, A, c, L⟩ ⟨hi, hL, hI⟩ _ on1
 have hsn := hsm.1
 refine Md ((i : Int) < (s.n : Int)) (T := fun h1 => ?_) (F := fun h1 => ?_)
 rotate_left
 · refine Mt [.slice A L.length c] fun bs w hS => ?_
   have hn : L.length = s.n := by omega
   exact ⟨⟨A, c, L⟩, rfl, by rw [hI, take_all (by omega)], hS.kp, hS.out⟩
 refine Mi (pA 10 11 (i : Int) i (rdk hs)) (J := ?_)
 refine Mf (σ := Sl DKept) (v := fun y1 => .slice y1.A y1.n y1.c) (F := fun y1 => y1.xs = (s.at i).replies.xs) (r := fun y1 => rowA 141 y1.A y1.c (y1.xs : List DKept)) Tryz.call136 (fun bs w hS => clone_Kept (s.at i).replies w (Sl.rd.sub (s := s) (i := i) (Sl.rd.kp hs hS.kp) (by omega)) (hsm.2 i (by omega)).1) (J := ?_)
 rintro y1 hF1
 refine M1 (J := ?_)
 refine m_f2 ?_
 refine Mal (α := CSession) 56 ([(⟨(s.at i).client, (s.at i).id, (s.at i).acked, (s.at i).last, y1⟩ : CSession)]) (h63 := (by first | omega | (simp only [List.length_nil, List.length_cons, List.length_append]; omega) | (have hq := (hsm.2 i (by omega)).1; simp only [Sl.n, List.length_nil] at hq ⊢; omega))) (hb := (by first | omega | (simp only [List.length_nil, List.length_cons, List.length_append]; omega) | (have hq := (hsm.2 i (by omega)).1; simp only [Sl.n, List.length_nil] at hq ⊢; omega))) (J := ?_)
 intro A3 c3
 refine Mi (pR ((i : Int) + 1)) (J := ?_)
 refine m_perm (R' := [rowA 141 y1.A y1.c (y1.xs : List DKept), ownL (keptR 141) L, rowA 118 A3 c3 (L ++ [(⟨(s.at i).client, (s.at i).id, (s.at i).acked, (s.at i).last, y1⟩ : CSession)] : List CSession)]) (by exact perm3 0 _ _ _) ?_
 refine m_join (ownL (keptR 141) (L ++ [(⟨(s.at i).client, (s.at i).id, (s.at i).acked, (s.at i).last, y1⟩ : CSession)])) (ownL_app_fp (keptR 141) L (⟨(s.at i).client, (s.at i).id, (s.at i).acked, (s.at i).last, y1⟩ : CSession)) (fun w => ownL_app_p (keptR 141) L (⟨(s.at i).client, (s.at i).id, (s.at i).acked, (s.at i).last, y1⟩ : CSession) w) ?_
 exact on1 (⟨i + 1, A3, c3, L ++ [(⟨(s.at i).client, (s.at i).id, (s.at i).acked, (s.at i).last, y1⟩ : CSession)]⟩ : Nat × Option Addr × Nat × List CSession) ⟨by omega, by rw [List.length_append]; simp [hL], map_take_snoc (by omega) hI (by first | simp [CSession.abs, hF1] | simp [CSession.abs])⟩ (by show s.n - (i + 1) < s.n - i; omega)
theorem session_CopyS {B : Nat → Prop} (s : Sl CSession) (w : World) (hs : s.rd B w) (hsm : Rds.small s) : Calls Tryz.prog 70 #[.slice s.A s.n s.c] w fun e w' => ∃ y : Sl CSession, e = .returned y.val ∧ y.xs.map CSession.abs = s.xs.map CSession.abs ∧ FreshS w w' y :=
  (session_Copy s w hs hsm).mono fun e w' ⟨y, h1, h2, h3, h4⟩ => ⟨y, h1, h2, h3, h4.sub fun hp => sessR_rd hp (sess_texts hs h2)⟩

theorem ref_SessionsCopy {B : Nat → Prop} (s : Sl CSession) (w : World) (hs : s.rd B w) (hsm : Rds.small s) : Calls Tryz.prog 19 #[.slice s.A s.n s.c] w fun e w' => ∃ y : Sl CSession, e = .returned y.val ∧ y.xs.map CSession.abs = s.xs.map CSession.abs ∧ Kp [] w w' ∧ Fresh w w' (sessR 118 141 y) := by
 have oks := Sl.rd.ok hs
 have ncs := Sl.ok.nc oks
 refine M0 Tryz.func19 (J := ?_)
 refine m_rowA (α := CSession) 118 ?_
 refine m_nores (ownL (keptR 141) []) rfl (fun w x hx => by cases hx) ?_
 refine Ml (σ := Nat × Option Addr × Nat × List CSession) (fun ⟨i, A, c, L⟩ => i ≤ s.n ∧ L.length = i ∧ L.map CSession.abs = (s.xs.take i).map CSession.abs) (fun ⟨i, A, c, L⟩ => s.n - i) (fun ⟨i, A, c, L⟩ => [ownL (keptR 141) L, rowA 118 A c (L : List CSession)]) [4, 3, 0] (fun ⟨i, A, c, L⟩ => [(4, vI (i : Int)), (3, .v (.slice A L.length c))]) (fun _ => []) (⟨0, none, 0, []⟩) ⟨Nat.zero_le _, rfl, by simp⟩ (B := ?_)
 rintro ⟨i, A, c, L⟩ ⟨hi, hL, hI⟩ _ on1
 have hsn := hsm.1
 refine Md ((i : Int) < (s.n : Int)) (T := fun h1 => ?_) (F := fun h1 => ?_)
 rotate_left
 · refine Mt [.slice A L.length c] fun bs w hS => ?_
   have hn : L.length = s.n := by omega
   exact ⟨⟨A, c, L⟩, rfl, by rw [hI, take_all (by omega)], hS.kp, hS.out⟩
 refine Mi (pA 14 15 (i : Int) i (rdk hs)) (J := ?_)
 refine m_rowA (α := DKept) 141 ?_
 refine Ma (α := DKept) (L2 := (s.at i).replies.xs) 40 (fun bs w hS => Sl.rd.src (s := (s.at i).replies) (Sl.rd.sub (s := s) (i := i) (Sl.rd.kp hs hS.kp) (by omega))) (h63 := (by first | omega | (simp only [List.length_nil, List.length_cons, List.length_append]; omega) | (have hq := (hsm.2 i (by omega)).1; simp only [Sl.n, List.length_nil] at hq ⊢; omega))) (hb := (by first | omega | (simp only [List.length_nil, List.length_cons, List.length_append]; omega) | (have hq := (hsm.2 i (by omega)).1; simp only [Sl.n, List.length_nil] at hq ⊢; omega))) (J := ?_)
 intro A1 c1
 refine M1 (J := ?_)
 refine m_f2 ?_
 refine Mal (α := CSession) 56 ([(⟨(s.at i).client, (s.at i).id, (s.at i).acked, (s.at i).last, ⟨A1, c1, [] ++ (s.at i).replies.xs⟩⟩ : CSession)]) (h63 := (by first | omega | (simp only [List.length_nil, List.length_cons, List.length_append]; omega) | (have hq := (hsm.2 i (by omega)).1; simp only [Sl.n, List.length_nil] at hq ⊢; omega))) (hb := (by first | omega | (simp only [List.length_nil, List.length_cons, List.length_append]; omega) | (have hq := (hsm.2 i (by omega)).1; simp only [Sl.n, List.length_nil] at hq ⊢; omega))) (J := ?_)
 intro A2 c2
 refine Mi (pR ((i : Int) + 1)) (J := ?_)
 refine m_perm (R' := [rowA 141 A1 c1 ([] ++ (s.at i).replies.xs : List DKept), ownL (keptR 141) L, rowA 118 A2 c2 (L ++ [(⟨(s.at i).client, (s.at i).id, (s.at i).acked, (s.at i).last, ⟨A1, c1, [] ++ (s.at i).replies.xs⟩⟩ : CSession)] : List CSession)]) (by exact perm3 0 _ _ _) ?_
 refine m_join (ownL (keptR 141) (L ++ [(⟨(s.at i).client, (s.at i).id, (s.at i).acked, (s.at i).last, ⟨A1, c1, [] ++ (s.at i).replies.xs⟩⟩ : CSession)])) (ownL_app_fp (keptR 141) L (⟨(s.at i).client, (s.at i).id, (s.at i).acked, (s.at i).last, ⟨A1, c1, [] ++ (s.at i).replies.xs⟩⟩ : CSession)) (fun w => ownL_app_p (keptR 141) L (⟨(s.at i).client, (s.at i).id, (s.at i).acked, (s.at i).last, ⟨A1, c1, [] ++ (s.at i).replies.xs⟩⟩ : CSession) w) ?_
 exact on1 (⟨i + 1, A2, c2, L ++ [(⟨(s.at i).client, (s.at i).id, (s.at i).acked, (s.at i).last, ⟨A1, c1, [] ++ (s.at i).replies.xs⟩⟩ : CSession)]⟩ : Nat × Option Addr × Nat × List CSession) ⟨by omega, by rw [List.length_append]; simp [hL], map_take_snoc (by omega) hI (by first | simp [CSession.abs, hF1] | simp [CSession.abs])⟩ (by show s.n - (i + 1) < s.n - i; omega)
theorem ref_SessionsCopyS {B : Nat → Prop} (s : Sl CSession) (w : World) (hs : s.rd B w) (hsm : Rds.small s) : Calls Tryz.prog 19 #[.slice s.A s.n s.c] w fun e w' => ∃ y : Sl CSession, e = .returned y.val ∧ y.xs.map CSession.abs = s.xs.map CSession.abs ∧ FreshS w w' y :=
  (ref_SessionsCopy s w hs hsm).mono fun e w' ⟨y, h1, h2, h3, h4⟩ => ⟨y, h1, h2, h3, h4.sub fun hp => sessR_rd hp (sess_texts hs h2)⟩

theorem ref_LocksCopy {B : Nat → Prop} (s : Sl CLock) (w : World) (hs : s.rd B w) (hsm : Rds.small s) : Calls Tryz.prog 18 #[.slice s.A s.n s.c] w fun e w' => ∃ y : Sl CLock, e = .returned y.val ∧ y.xs.map CLock.abs = s.xs.map CLock.abs ∧ Kp [] w w' ∧ Fresh w w' (locksR 115 3 y) := by
 have oks := Sl.rd.ok hs
 have ncs := Sl.ok.nc oks
 refine M0 Tryz.func18 (J := ?_)
 refine m_rowA (α := CLock) 115 ?_
 refine m_nores (ownL (lineR 3) []) rfl (fun w x hx => by cases hx) ?_
 refine Ml (σ := Nat × Option Addr × Nat × List CLock) (fun ⟨i, A, c, L⟩ => i ≤ s.n ∧ L.length = i ∧ L.map CLock.abs = (s.xs.take i).map CLock.abs) (fun ⟨i, A, c, L⟩ => s.n - i) (fun ⟨i, A, c, L⟩ => [ownL (lineR 3) L, rowA 115 A c (L : List CLock)]) [4, 3, 0] (fun ⟨i, A, c, L⟩ => [(4, vI (i : Int)), (3, .v (.slice A L.length c))]) (fun _ => []) (⟨0, none, 0, []⟩) ⟨Nat.zero_le _, rfl, by simp⟩ (B := ?_)
 rintro ⟨i, A, c, L⟩ ⟨hi, hL, hI⟩ _ on1
 have hsn := hsm.1
 refine Md ((i : Int) < (s.n : Int)) (T := fun h1 => ?_) (F := fun h1 => ?_)
 rotate_left
 · refine Mt [.slice A L.length c] fun bs w hS => ?_
   have hn : L.length = s.n := by omega
   exact ⟨⟨A, c, L⟩, rfl, by rw [hI, take_all (by omega)], hS.kp, hS.out⟩
 refine Mda 24 [] [] [ownL (lineR 3) L, rowA 115 A c (L : List CLock)] Tryz_mixed (J := ?_)
 refine Mih (pc (pI 14 (i : Int) i (rdk hs)) (pc (pF 16 i 0 1 (rdk hs)) (pc (pI 19 (i : Int) i (rdk hs)) (pc (pF 21 i 1 1 (rdk hs)) (pc (pI 24 (i : Int) i (rdk hs)) (pc (pF 26 i 2 1 (rdk hs)) (pc (pI 29 (i : Int) i (rdk hs)) (pF 31 i 3 1 (rdk hs))))))))) (J := ?_)
 refine m_rowA (α := Int) 3 ?_
 refine Ma (α := Int) (L2 := (s.at i).line.xs) 8 (fun bs w hS => Sl.rd.src (s := (s.at i).line) (And.right (Sl.rd.sub (s := s) (i := i) (Sl.rd.kp hs hS.kp) (by omega)))) (h63 := (by first | omega | (simp only [List.length_nil, List.length_cons, List.length_append]; omega) | (have hq := (hsm.2 i (by omega)).1; simp only [Sl.n, List.length_nil] at hq ⊢; omega))) (hb := (by first | omega | (simp only [List.length_nil, List.length_cons, List.length_append]; omega) | (have hq := (hsm.2 i (by omega)).1; simp only [Sl.n, List.length_nil] at hq ⊢; omega))) (J := ?_)
 intro A1 c1
 refine M1 (hR := (.cons _ (List.Sublist.refl _))) (J := ?_)
 refine Mz (J := ?_)
 refine m_f2 ?_
 refine Mal (α := CLock) 56 ([(⟨(s.at i).name, (s.at i).holder, (s.at i).fence, ⟨A1, c1, [] ++ (s.at i).line.xs⟩⟩ : CLock)]) (h63 := (by first | omega | (simp only [List.length_nil, List.length_cons, List.length_append]; omega) | (have hq := (hsm.2 i (by omega)).1; simp only [Sl.n, List.length_nil] at hq ⊢; omega))) (hb := (by first | omega | (simp only [List.length_nil, List.length_cons, List.length_append]; omega) | (have hq := (hsm.2 i (by omega)).1; simp only [Sl.n, List.length_nil] at hq ⊢; omega))) (J := ?_)
 intro A2 c2
 refine Mi (pR ((i : Int) + 1)) (J := ?_)
 refine m_perm (R' := [rowA 3 A1 c1 ([] ++ (s.at i).line.xs : List Int), ownL (lineR 3) L, rowA 115 A2 c2 (L ++ [(⟨(s.at i).name, (s.at i).holder, (s.at i).fence, ⟨A1, c1, [] ++ (s.at i).line.xs⟩⟩ : CLock)] : List CLock)]) (by exact perm3 0 _ _ _) ?_
 refine m_join (ownL (lineR 3) (L ++ [(⟨(s.at i).name, (s.at i).holder, (s.at i).fence, ⟨A1, c1, [] ++ (s.at i).line.xs⟩⟩ : CLock)])) (ownL_app_fp (lineR 3) L (⟨(s.at i).name, (s.at i).holder, (s.at i).fence, ⟨A1, c1, [] ++ (s.at i).line.xs⟩⟩ : CLock)) (fun w => ownL_app_p (lineR 3) L (⟨(s.at i).name, (s.at i).holder, (s.at i).fence, ⟨A1, c1, [] ++ (s.at i).line.xs⟩⟩ : CLock) w) ?_
 exact on1 (⟨i + 1, A2, c2, L ++ [(⟨(s.at i).name, (s.at i).holder, (s.at i).fence, ⟨A1, c1, [] ++ (s.at i).line.xs⟩⟩ : CLock)]⟩ : Nat × Option Addr × Nat × List CLock) ⟨by omega, by rw [List.length_append]; simp [hL], map_take_snoc (by omega) hI (by first | simp [CLock.abs, hF1] | simp [CLock.abs])⟩ (by show s.n - (i + 1) < s.n - i; omega)
theorem ref_LocksCopyS {B : Nat → Prop} (s : Sl CLock) (w : World) (hs : s.rd B w) (hsm : Rds.small s) : Calls Tryz.prog 18 #[.slice s.A s.n s.c] w fun e w' => ∃ y : Sl CLock, e = .returned y.val ∧ y.xs.map CLock.abs = s.xs.map CLock.abs ∧ FreshS w w' y :=
  (ref_LocksCopy s w hs hsm).mono fun e w' ⟨y, h1, h2, h3, h4⟩ => ⟨y, h1, h2, h3, h4.sub fun hp => locksR_rd hp (locks_names hs h2)⟩

theorem same_ints {B B' : Nat → Prop} (a b : Sl Int) (w : World) (ha : a.rd B w) (hb : b.rd B' w) (he : a.xs = b.xs) : Calls Tryz.prog 109 #[.slice a.A a.n a.c, .slice b.A b.n b.c] w fun e w' => e = .returned (.bool true) ∧ Kp [] w w' := by
 have oka := Sl.rd.ok ha
 have okb := Sl.rd.ok hb
 have hn := xs_n he
 have nca := Sl.ok.nc oka
 refine M0 Tryz.func109 (J := ?_)
 refine Mdn ((a.n : Int) = (b.n : Int)) (T := fun h1 => ?_) (F := fun h1 => ?_)
 rotate_left
 · exfalso; first | omega | exact h1 (xs_at he i)
 refine Ml (σ := Nat) (fun i => True) (fun i => a.n - i) (fun _ => []) [5, 0, 1] (fun i => [(5, vI (i : Int))]) (fun _ => []) 0 trivial (B := ?_)
 rintro i _ _ on1
 have hat := xs_at he i
 refine Md ((i : Int) < (a.n : Int)) (T := fun h2 => ?_) (F := fun h2 => ?_)
 rotate_left
 · exact Mt [.bool true] fun bs w hS => ⟨rfl, hS.kp⟩
 refine Mda 9 [] [] [] Tryz_mixed (J := ?_)
 refine Mih (pc (pA 19 20 (i : Int) i (rdk ha)) (pA 23 24 (i : Int) i (rdk hb))) (J := ?_)
 refine Mdn ((a.at i) = (b.at i)) (T := fun h3 => ?_) (F := fun h3 => ?_)
 rotate_left
 · exfalso; first | omega | exact h3 (xs_at he i)
 refine Mi (pR ((i : Int) + 1)) (J := ?_)
 exact on1 (i + 1) trivial (by omega)

theorem same_locks {B B' : Nat → Prop} (a b : Sl CLock) (w : World) (ha : a.rd B w) (hb : b.rd B' w) (he : a.xs.map CLock.abs = b.xs.map CLock.abs) : Calls Tryz.prog 43 #[.slice a.A a.n a.c, .slice b.A b.n b.c] w fun e w' => e = .returned (.bool true) ∧ Kp [] w w' := by
 have oka := Sl.rd.ok ha
 have okb := Sl.rd.ok hb
 have hn := map_n he
 have nca := Sl.ok.nc oka
 refine M0 Tryz.func43 (J := ?_)
 refine Mdn ((a.n : Int) = (b.n : Int)) (T := fun h1 => ?_) (F := fun h1 => ?_)
 rotate_left
 · exfalso; first | omega | exact h1 q1
 refine Ml (σ := Nat) (fun i => True) (fun i => a.n - i) (fun _ => []) [5, 0, 1] (fun i => [(5, vI (i : Int))]) (fun _ => []) 0 trivial (B := ?_)
 rintro i _ _ on1
 have hat := map_at (f := CLock.abs) (g := CLock.abs) rfl he i
 have q1 : (a.at i).name = (b.at i).name := congrArg DLock.name hat
 have q2 : (a.at i).holder = (b.at i).holder := congrArg DLock.holder hat
 have q3 : (a.at i).fence = (b.at i).fence := congrArg DLock.fence hat
 have q4 : (a.at i).line.xs = (b.at i).line.xs := congrArg DLock.line hat
 refine Md ((i : Int) < (a.n : Int)) (T := fun h2 => ?_) (F := fun h2 => ?_)
 rotate_left
 · exact Mt [.bool true] fun bs w hS => ⟨rfl, hS.kp⟩
 refine Mda 51 [] [] [] Tryz_mixed (J := ?_)
 refine Mih (pc (pI 19 (i : Int) i (rdk ha)) (pc (pF 21 i 0 1 (rdk ha)) (pc (pI 24 (i : Int) i (rdk hb)) (pF 26 i 0 1 (rdk hb))))) (J := ?_)
 refine Mdn ((a.at i).name = (b.at i).name) (T := fun h3 => ?_) (F := fun h3 => ?_)
 rotate_left
 · exfalso; first | omega | exact h3 q1
 refine Mih (pc (pI 31 (i : Int) i (rdk ha)) (pc (pF 33 i 1 1 (rdk ha)) (pc (pI 36 (i : Int) i (rdk hb)) (pF 38 i 1 1 (rdk hb))))) (J := ?_)
 refine Mdn ((a.at i).holder = (b.at i).holder) (T := fun h4 => ?_) (F := fun h4 => ?_)
 rotate_left
 · exfalso; first | omega | exact h4 q1
 refine Mih (pc (pI 44 (i : Int) i (rdk ha)) (pc (pF 46 i 2 1 (rdk ha)) (pc (pI 49 (i : Int) i (rdk hb)) (pF 51 i 2 1 (rdk hb))))) (J := ?_)
 refine Mdn ((a.at i).fence = (b.at i).fence) (T := fun h5 => ?_) (F := fun h5 => ?_)
 rotate_left
 · exfalso; first | omega | exact h5 q1
 refine Mih (pc (pI 57 (i : Int) i (rdk ha)) (pc (pF 59 i 3 1 (rdk ha)) (pc (pI 62 (i : Int) i (rdk hb)) (pF 64 i 3 1 (rdk hb))))) (J := ?_)
 refine Mp (vs := fun bs => [.slice (a.at i).line.A (a.at i).line.n (a.at i).line.c, .slice (b.at i).line.A (b.at i).line.n (b.at i).line.c]) Tryz.call109 (fun bs w hS => same_ints _ _ w (And.right (Sl.rd.sub (s := a) (i := i) (Sl.rd.kp ha hS.kp) (by omega))) (And.right (Sl.rd.sub (s := b) (i := i) (Sl.rd.kp hb hS.kp) (by omega))) q4) (J := ?_)
 refine Mq 67 false rfl (J := ?_)
 refine Mi (pR ((i : Int) + 1)) (J := ?_)
 exact on1 (i + 1) trivial (by omega)

theorem same_sessions {B B' : Nat → Prop} (a b : Sl CSession) (w : World) (ha : a.rd B w) (hb : b.rd B' w) (he : a.xs.map CSession.abs = b.xs.map CSession.abs) : Calls Tryz.prog 45 #[.slice a.A a.n a.c, .slice b.A b.n b.c] w fun e w' => e = .returned (.bool true) ∧ Kp [] w w' := by
 have oka := Sl.rd.ok ha
 have okb := Sl.rd.ok hb
 have hn := map_n he
 have nca := Sl.ok.nc oka
 refine M0 Tryz.func45 (J := ?_)
 refine Mdn ((a.n : Int) = (b.n : Int)) (T := fun h1 => ?_) (F := fun h1 => ?_)
 rotate_left
 · exfalso; first | omega | (rw [hbt] at h1; simp at h1)
 refine Ml (σ := Nat) (fun i => True) (fun i => a.n - i) (fun _ => []) [5, 0, 1] (fun i => [(5, vI (i : Int))]) (fun _ => []) 0 trivial (B := ?_)
 rintro i _ _ on1
 have hat := map_at (f := CSession.abs) (g := CSession.abs) rfl he i
 have q0 : (a.at i).client = (b.at i).client := congrArg DSession.client hat
 have q1 : (a.at i).id = (b.at i).id := congrArg DSession.id hat
 have q2 : (a.at i).acked = (b.at i).acked := congrArg DSession.acked hat
 have q3 : (a.at i).last = (b.at i).last := congrArg DSession.last hat
 have q4 : (a.at i).replies.xs = (b.at i).replies.xs := congrArg DSession.replies hat
 have q5 := xs_n q4
 refine Md ((i : Int) < (a.n : Int)) (T := fun h2 => ?_) (F := fun h2 => ?_)
 rotate_left
 · exact Mt [.bool true] fun bs w hS => ⟨rfl, hS.kp⟩
 refine Mi (pc (pA 22 23 (i : Int) i (rdk ha)) (pA 26 27 (i : Int) i (rdk hb))) (J := ?_)
 refine Mdn ((a.at i).client = (b.at i).client) (T := fun h3 => ?_) (F := fun h3 => ?_)
 rotate_left
 · exfalso; first | omega | (rw [hbt] at h3; simp at h3)
 refine Mdn ((a.at i).id = (b.at i).id) (T := fun h4 => ?_) (F := fun h4 => ?_)
 rotate_left
 · exfalso; first | omega | (rw [hbt] at h4; simp at h4)
 refine Mdn ((a.at i).acked = (b.at i).acked) (T := fun h5 => ?_) (F := fun h5 => ?_)
 rotate_left
 · exfalso; first | omega | (rw [hbt] at h5; simp at h5)
 refine Mdn ((a.at i).last = (b.at i).last) (T := fun h6 => ?_) (F := fun h6 => ?_)
 rotate_left
 · exfalso; first | omega | (rw [hbt] at h6; simp at h6)
 refine Mdn ((((a.at i).replies.n : Nat) : Int) = (((b.at i).replies.n : Nat) : Int)) (T := fun h7 => ?_) (F := fun h7 => ?_)
 rotate_left
 · exfalso; first | omega | (rw [hbt] at h7; simp at h7)
 refine Ml (σ := Nat) (fun j => True) (fun j => (a.at i).replies.n - j) (fun _ => []) [8, 7, 6, 5, 0, 1] (fun j => [(8, vI (j : Int))]) (fun _ => []) 0 trivial (B := ?_)
 rintro j _ _ on2
 have hbt := xs_at q4 j
 have ncr := Sl.ok.nc (Sl.ok.at oka (show i < a.n by omega))
 refine Md ((j : Int) < (((a.at i).replies.n : Nat) : Int)) (T := fun h8 => ?_) (F := fun h8 => ?_)
 rotate_left
 · refine Mi (pR ((i : Int) + 1)) (J := ?_)
   exact on1 (i + 1) trivial (by omega)
 refine Mda 11 [] [] [] Tryz_mixed (J := ?_)
 refine Mih (pc (pA 73 74 (j : Int) j (s := (a.at i).replies) (fun w hk hr => (Sl.rd.sub (s := a) (i := i) (Sl.rd.kp ha hk) (by omega)))) (pc (pA 78 79 (j : Int) j (s := (b.at i).replies) (fun w hk hr => (Sl.rd.sub (s := b) (i := i) (Sl.rd.kp hb hk) (by omega)))) (pG [(80, .val (.bool (!((decide (((a.at i).replies.at j).seq = ((b.at i).replies.at j).seq)) && (((decide (((a.at i).replies.at j).reply.code = ((b.at i).replies.at j).reply.code)) && ((decide (((a.at i).replies.at j).reply.n = ((b.at i).replies.at j).reply.n)) && ((decide (((a.at i).replies.at j).reply.text = ((b.at i).replies.at j).reply.text)) && true))) && true)))))] (oc ((neq_agg (by kernel_rfl) (by kernel_rfl)) : ∀ w, (do eqGuard .neq 141 (.tmp 74) (.tmp 79) (.agg #[.int .i64 ((a.at i).replies.at j).seq, .int .i64 ((a.at i).replies.at j).reply.code, .int .i64 ((a.at i).replies.at j).reply.n, .string ((a.at i).replies.at j).reply.text]) (.agg #[.int .i64 ((b.at i).replies.at j).seq, .int .i64 ((b.at i).replies.at j).reply.code, .int .i64 ((b.at i).replies.at j).reply.n, .string ((b.at i).replies.at j).reply.text]); binOp .neq 141 (.agg #[.int .i64 ((a.at i).replies.at j).seq, .int .i64 ((a.at i).replies.at j).reply.code, .int .i64 ((a.at i).replies.at j).reply.n, .string ((a.at i).replies.at j).reply.text]) (.agg #[.int .i64 ((b.at i).replies.at j).seq, .int .i64 ((b.at i).replies.at j).reply.code, .int .i64 ((b.at i).replies.at j).reply.n, .string ((b.at i).replies.at j).reply.text]) : Sem Value).run Tryz.prog w = .ok (.bool (!((decide (((a.at i).replies.at j).seq = ((b.at i).replies.at j).seq)) && (((decide (((a.at i).replies.at j).reply.code = ((b.at i).replies.at j).reply.code)) && ((decide (((a.at i).replies.at j).reply.n = ((b.at i).replies.at j).reply.n)) && ((decide (((a.at i).replies.at j).reply.text = ((b.at i).replies.at j).reply.text)) && true))) && true)))) w) on)))) (J := ?_)
 refine Mbn ((decide (((a.at i).replies.at j).seq = ((b.at i).replies.at j).seq)) && (((decide (((a.at i).replies.at j).reply.code = ((b.at i).replies.at j).reply.code)) && ((decide (((a.at i).replies.at j).reply.n = ((b.at i).replies.at j).reply.n)) && ((decide (((a.at i).replies.at j).reply.text = ((b.at i).replies.at j).reply.text)) && true))) && true)) (T := fun h9 => ?_) (F := fun h9 => ?_)
 rotate_left
 · exfalso; first | omega | (rw [hbt] at h9; simp at h9)
 refine Mi (pR ((j : Int) + 1)) (J := ?_)
 exact on2 (j + 1) trivial (by omega)

theorem session_find_1 (x : CSession) (t : Int) (w : World) : Calls Tryz.prog 142 #[.agg #[.int .i64 x.client, .int .i64 x.id, .int .i64 x.acked, .int .i64 x.last, .slice x.replies.A x.replies.n x.replies.c], .int .i64 t] w fun e w' => e = .returned (.int .i64 (IntKind.i64.wrap (x.client - t))) ∧ Kp [] w w' := by
 refine M0 Tryz.func142 (J := ?_)
 refine Mi (pG [(8, .val (.int .i64 (IntKind.i64.wrap (x.client - t))))] (oc (sub_wrap : ∀ w, (do eqGuard .sub 3 (.tmp 6) (.tmp 7) (.int .i64 x.client) (.int .i64 t); binOp .sub 3 (.int .i64 x.client) (.int .i64 t) : Sem Value).run Tryz.prog w = .ok (.int .i64 (IntKind.i64.wrap (x.client - t))) w) on)) (J := ?_)
 exact Mt [.int .i64 (IntKind.i64.wrap (x.client - t))] fun bs w hS => ⟨rfl, hS.kp⟩

theorem bs_session_find_1 {B : Nat → Prop} (s : Sl CSession) (t : Int) (w : World) (hs : s.rd B w) (hn : s.n ≤ 1048576) : Calls Tryz.prog 141 #[.slice s.A s.n s.c, .int .i64 t, .func (.func 142) #[] #[]] w fun e w' => e = .returned (.tuple #[.int .i64 (mBS (fun x : CSession => IntKind.i64.wrap (x.client - t)) s.xs : Nat), .bool (mBSf (fun x : CSession => IntKind.i64.wrap (x.client - t)) s.xs)]) ∧ Kp [] w w' := by
 have oks := Sl.rd.ok hs
 have ncs := Sl.ok.nc oks
 have hns : s.n = s.xs.length := rfl
 refine Mj Tryz.func141 (WS.start w) (J := ?_)
 refine Ml (σ := Nat × Nat × Nat) (fun ⟨i, j, f⟩ => i ≤ j ∧ j ≤ s.n ∧ j - i ≤ f ∧ mBS (fun x : CSession => IntKind.i64.wrap (x.client - t)) s.xs = bsGo (fun j => decide (IntKind.i64.wrap ((s.at j).client - t) < 0)) f i j) (fun ⟨i, j, f⟩ => f) (fun _ => []) [10, 9, 8, 0, 1, 2] (fun ⟨i, j, f⟩ => [(10, vI (j : Int)), (9, vI (i : Int))]) (fun _ => []) (⟨0, s.n, s.n⟩) ⟨Nat.zero_le _, Nat.le_refl _, Nat.le_refl _, rfl⟩ (B := ?_)
 rintro ⟨i, j, f⟩ ⟨h1, h2, h3, hI⟩ _ on1
 have hdiv : ((i : Int) + (j : Int)) / 2 = (((i + j) / 2 : Nat) : Int) := by omega
 refine Md ((i : Int) < (j : Int)) (T := fun h1 => ?_) (F := fun h1 => ?_)
 rotate_left
 · refine Md ((i : Int) < (s.n : Int)) (T := fun h3 => ?_) (F := fun h3 => ?_)
   rotate_left
   · refine Mt [.int .i64 (i : Int), .bool false] fun bs w hS => ?_
     have hij : i = j := by omega
     subst hij
     have hr : mBS (fun x : CSession => IntKind.i64.wrap (x.client - t)) s.xs = i := by rw [hI]; exact bsGo_end _ _ _ _ (Nat.le_refl _)
     refine ⟨?_, hS.kp⟩
     have hr2 : mBSf (fun x : CSession => IntKind.i64.wrap (x.client - t)) s.xs = false := by
       unfold mBSf; rw [hr]
       rw [decide_eq_false (show ¬ i < s.xs.length by omega)]; rfl
     rw [hr, hr2]
     rfl
   refine Mi (pA 43 44 (i : Int) i (rdk hs)) (J := ?_)
   refine Mp Tryz.call142 (fun bs w hS => session_find_1 (s.at i) t w) (J := ?_)
   refine Mt [.int .i64 (i : Int), .bool (decide (IntKind.i64.wrap ((s.at i).client - t) = 0))] fun bs w hS => ?_
   have hij : i = j := by omega
   subst hij
   have hr : mBS (fun x : CSession => IntKind.i64.wrap (x.client - t)) s.xs = i := by rw [hI]; exact bsGo_end _ _ _ _ (Nat.le_refl _)
   refine ⟨?_, hS.kp⟩
   have hr2 : mBSf (fun x : CSession => IntKind.i64.wrap (x.client - t)) s.xs = (decide (IntKind.i64.wrap ((s.at i).client - t) = 0)) := by
     unfold mBSf; rw [hr]
     rw [decide_eq_true (show i < s.xs.length by omega)]; rfl
   rw [hr, hr2]
   rfl
 refine Mi (pc (pR ((i : Int) + (j : Int))) (pc (pG [(21, .val (.int .u64 ((i : Int) + (j : Int))))] (oc ((conv_i64_u64 Tryz.underlying3 Tryz.underlying203 (by omega) (by omega)) : ∀ w, (convert 3 203 (.int .i64 ((i : Int) + (j : Int))) : Sem Value).run Tryz.prog w = .ok (.int .u64 ((i : Int) + (j : Int))) w) on)) (pc (pG [(22, .val (.int .u64 (((i : Int) + (j : Int)) / 2)))] (oc (shr_u64 : ∀ w, (do eqGuard .shr 203 (.tmp 21) (.const (.int .u64 1)) (.int .u64 ((i : Int) + (j : Int))) (.int .u64 1); binOp .shr 203 (.int .u64 ((i : Int) + (j : Int))) (.int .u64 1) : Sem Value).run Tryz.prog w = .ok (.int .u64 (((i : Int) + (j : Int)) / 2)) w) on)) (pc (pG [(23, .val (.int .i64 (((i : Int) + (j : Int)) / 2)))] (oc ((conv_u64_i64 Tryz.underlying203 Tryz.underlying3 (by omega) (by omega)) : ∀ w, (convert 203 3 (.int .u64 (((i : Int) + (j : Int)) / 2)) : Sem Value).run Tryz.prog w = .ok (.int .i64 (((i : Int) + (j : Int)) / 2)) w) on)) (pA 27 28 (((i : Int) + (j : Int)) / 2) (((i : Int) + (j : Int)) / 2).toNat (rdk hs)))))) (J := ?_)
 refine Mp Tryz.call142 (fun bs w hS => session_find_1 (s.at (((i : Int) + (j : Int)) / 2).toNat) t w) (J := ?_)
 refine Md (IntKind.i64.wrap ((s.at (((i : Int) + (j : Int)) / 2).toNat).client - t) < 0) (T := fun h2 => ?_) (F := fun h2 => ?_)
 rotate_left
 · have hf1 : f = (f - 1) + 1 := by omega
   rw [hf1] at hI
   have hI2 := hI.trans (bsGo_down (by omega) (decide_eq_false (by assumption)))
   exact on1 (⟨i, (i + j) / 2, f - 1⟩ : Nat × Nat × Nat) ⟨by omega, by omega, by omega, hI2⟩ (by show f - 1 < f; omega)
 refine Mi (pR ((((i : Int) + (j : Int)) / 2) + 1)) (J := ?_)
 have hf1 : f = (f - 1) + 1 := by omega
 rw [hf1] at hI
 have hI2 := hI.trans (bsGo_up (by omega) (decide_eq_true (by assumption)))
 exact on1 (⟨(i + j) / 2 + 1, j, f - 1⟩ : Nat × Nat × Nat) ⟨by omega, by omega, by omega, hI2⟩ (by show f - 1 < f; omega)

theorem session_find {B : Nat → Prop} (s : Sl CSession) (t : Int) (w : World) (hs : s.rd B w) (hn : s.n ≤ 1048576) : Calls Tryz.prog 76 #[.slice s.A s.n s.c, .int .i64 t] w fun e w' => e = .returned (.tuple #[.int .i64 (mBS (fun x : CSession => IntKind.i64.wrap (x.client - t)) s.xs : Nat), .bool (mBSf (fun x : CSession => IntKind.i64.wrap (x.client - t)) s.xs)]) ∧ Kp [] w w' := by
 have oks := Sl.rd.ok hs
 have ncs := Sl.ok.nc oks
 have hns : s.n = s.xs.length := rfl
 refine M0 Tryz.func76 (J := ?_)
 refine Mp Tryz.call141 (fun bs w hS => bs_session_find_1 s t w (Sl.rd.kp hs hS.kp) (by omega)) (J := ?_)
 exact Mt [.int .i64 ((mBS (fun x : CSession => IntKind.i64.wrap (x.client - t)) s.xs : Nat) : Int), .bool (mBSf (fun x : CSession => IntKind.i64.wrap (x.client - t)) s.xs)] fun bs w hS => ⟨rfl, hS.kp⟩

theorem tackroomref_sessionAt {B : Nat → Prop} (s : Sl CSession) (t : Int) (w : World) (hs : s.rd B w) : Calls Tryz.prog 98 #[.slice s.A s.n s.c, .int .i64 t] w fun e w' => e = .returned (.int .i64 (mIdx (fun x : CSession => decide (x.client = t)) s.xs)) ∧ Kp [] w w' := by
 have oks := Sl.rd.ok hs
 have ncs := Sl.ok.nc oks
 have hns : s.n = s.xs.length := rfl
 refine M0 Tryz.func98 (J := ?_)
 refine Ml (σ := Nat) (fun i => i ≤ s.n ∧ ∀ j, j < i → decide ((s.at j).client = t) = false) (fun i => s.n - i) (fun _ => []) [5, 0, 1] (fun i => [(5, vI (i : Int))]) (fun _ => []) 0 ⟨Nat.zero_le _, fun j hj => absurd hj (Nat.not_lt_zero _)⟩ (B := ?_)
 rintro i ⟨hi, hI⟩ _ on1
 refine Md ((i : Int) < (s.n : Int)) (T := fun h1 => ?_) (F := fun h1 => ?_)
 rotate_left
 · refine Mt [.int .i64 (-1)] fun bs w hS => ?_
   refine ⟨?_, hS.kp⟩
   rw [mIdx_none (p := (fun x : CSession => decide (x.client = t))) fun j hj => hI j (by omega)]
   rfl
 refine Mi (pc (pI 14 (i : Int) i (rdk hs)) (pF 16 i 0 1 (rdk hs))) (J := ?_)
 refine Md ((s.at i).client = t) (T := fun h2 => ?_) (F := fun h2 => ?_)
 · refine Mt [.int .i64 (i : Int)] fun bs w hS => ?_
   refine ⟨?_, hS.kp⟩
   rw [mIdx_here (p := (fun x : CSession => decide (x.client = t))) (i := i) (by omega) (decide_eq_true (by assumption)) hI]
   rfl
 refine Mi (pR ((i : Int) + 1)) (J := ?_)
 exact on1 (i + 1) ⟨by omega, fun j hj => by rcases Nat.lt_succ_iff_lt_or_eq.1 hj with h | h; exact hI j h; subst h; exact decide_eq_false (by assumption)⟩ (by omega)

theorem delR_Session (A : Option Addr) (c : Nat) (L : List CSession) (i j : Nat) (ii jj : Int) (w : World) (hrow : (rowA 118 A c L).p w) (hlt : ∀ b, b ∈ (rowA 118 A c L).fp → b < w.heap.size) (ei : ii = (i : Int)) (ej : jj = (j : Int)) (hij : i ≤ j) (hj : j ≤ L.length) :
    Calls Tryz.prog 78 #[.slice A L.length c, .int .i64 ii, .int .i64 jj] w fun e w' => e = .returned (.slice A (L.take i ++ L.drop j).length c) ∧ Turned (rowA 118 A c L) w w' (rowA 118 A c (L.take i ++ L.drop j)) := by
 subst ei ej
 have hrok := rowA_rok hrow
 have nc := hrok.2
 refine Mj Tryz.func78 (WS.start1 w _ hrow (by cases A <;> simp [rowA, rowR]) hlt) (J := ?_)
 refine Ms3 (e := 118) (A := A) (n := L.length) (il := (i : Int)) (ih := (j : Int)) (im := (L.length : Int)) (c := c) i j L.length rfl rfl rfl (by omega) (by omega) (by omega) (J := ?_)
 refine Md ((i : Int) = (j : Int)) (T := fun h1 => ?_) (F := fun h1 => ?_)
 · refine Mt [.slice A L.length c] fun bs w hS => ?_
   have hij2 : i = j := by omega
   subst hij2
   rw [List.take_append_drop]
   exact ⟨rfl, hS.turned⟩
 refine Mda 6 [] [] [rowA 118 A c (L : List CSession)] Tryz_mixed (J := ?_)
 refine Mih (pc (pG [(22, .sl 0 i)] (oc (rfl : 0 = 0) (oc (rfl : (i : Int) = (i : Int)) (oc ((by omega) : i ≤ c) on)))) (pG [(25, .sl j L.length)] (oc (rfl : (j : Int) = (j : Int)) (oc (rfl : L.length = L.length) (oc ((by omega) : j ≤ L.length) on))))) (J := ?_)
 refine Mz (J := ?_)
 refine Mad 56 i j hij hj (J := ?_)
 refine Mi (pG [(31, .sl (i + (L.length - j)) L.length)] (oc (rfl : ((i + (L.length - j) : Nat) : Int) = (((i + (L.length - j)) : Nat) : Int)) (oc (rfl : (L.length : Int) = (L.length : Int)) (oc ((by omega) : (i + (L.length - j)) ≤ L.length) (oc ((by omega) : L.length ≤ c) on))))) (J := ?_)
 refine Mcl (i + (L.length - j)) (L.length - (i + (L.length - j))) (by simp only [List.length_append, List.length_take, List.length_drop]; omega) (by omega) (J := ?_)
 refine Mt [.slice A (i + (L.length - j)) c] fun bs w hS => ?_
 have hlen : (L.take i ++ L.drop j).length = i + (L.length - j) := by simp only [List.length_append, List.length_take, List.length_drop]; omega
 have hS2 := hS
 rw [← hlen, List.take_length] at hS2
 refine ⟨?_, hS2.turned⟩
 rw [hlen]
 rfl

end Go.Proofs.YtbjakddkfgjkaaaGreat.W
