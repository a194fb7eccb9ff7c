/-
  The functions that the law LogPuts reaches, walked: each returns what its model says.
  Conditions: those that each theorem states.
-/
import Derived.Test.YtakdjdfkdbofoabFe
import Derived.Test.YtakdjdfkdbofoabChecked
set_option linter.unusedVariables false
set_option linter.unusedSimpArgs false
set_option maxRecDepth 100000
set_option maxHeartbeats 2000000
namespace Go.Proofs.Ytakdjdfkdbofoab.W
open Go.Proofs.Ytakdjdfkdbofoab.Fw Go.RowKit
attribute [local irreducible] JM nx

theorem Try_mixed : Try.prog.follows .mixedOrders = true := by kernel_rfl
theorem laid : laidOutB Try.prog = true := by kernel_rfl

theorem ref_In (n lo hi : Int) (w : World) : Calls Try.prog 56 #[vi n, vi lo, vi hi] w fun e w' => e = .returned (vb (inB n lo hi)) ∧ Kp [] w w' := by
 refine M0 ?_ Try.func56
 refine Md (lo ≤ n) (fun h1 => ?_) fun h1 => ?_
 rotate_left
 · exact Mt [vb false] fun bs w hS => ⟨by simp [retOf, den, inB, h1], hS.kp⟩
 exact Mt [vb (decide (n ≤ hi))] fun bs w hS => ⟨by simp [retOf, den, inB, h1], hS.kp⟩

theorem lock_Name1 (c : UInt8) (w : World) : Calls Try.prog 97 #[.int .u8 (c.toNat : Int)] w fun e w' => e = .returned (vb (nameBad c)) ∧ Kp [] w w' := by
 refine M0 ?_ Try.func97
 refine Md ((c.toNat : Int) < 97) (fun h1 => ?_) fun h1 => ?_
 · exact Mt [vb true] fun bs w hS => ⟨by simp [retOf, den, nameBad, h1], hS.kp⟩
 exact Mt [vb (decide ((122 : Int) < (c.toNat : Int)))] fun bs w hS => ⟨by simp [retOf, den, nameBad, h1], hS.kp⟩

theorem idx_bytes {B : Nat → Prop} (s : Sl UInt8) (w : World) (hs : s.rd B w) : Calls Try.prog 137 #[s.val, .func (.func 97) #[] #[]] w fun e w' => e = .returned (vi (mIdx nameBad s.xs)) ∧ Kp [] w w' := by
 have oks := Sl.rd.ok hs
 have ncs := Sl.ok.nc oks
 have hns : s.n = s.xs.length := rfl
 refine Mj ?_ Try.func137 (WS.start w)
 refine Ml (σ := Nat) (fun i => i ≤ s.n ∧ ∀ j, j < i → nameBad (s.at j) = false) (fun i => s.n - i) (fun _ => []) [8, 7, 0, 1] (fun i => [(8, vI (i : Int))]) (fun _ => []) ?_ 0 ⟨Nat.zero_le _, fun j hj => absurd hj (Nat.not_lt_zero _)⟩
 rintro i ⟨hi, hI⟩ _ on1
 refine Md ((i : Int) < (s.n : Int)) (fun h1 => ?_) fun h1 => ?_
 rotate_left
 · exact Me0 (-1) (by rw [mIdx_none fun j hj => hI j (by omega)])
 refine Mi ?_ (pA 14 15 (i : Int) i (rdk hs))
 refine Mp ?_ Try.call97 (fun bs w hS => lock_Name1 (s.at i) w)
 refine Mb (nameBad (s.at i)) (fun h2 => ?_) fun h2 => ?_
 · exact Me0 (i : Int) (by rw [mIdx_here (by omega) (by assumption) hI])
 refine Mi ?_ (pR ((i : Int) + 1))
 exact on1 (i + 1) ⟨by omega, fun j hj => by rcases Nat.lt_succ_iff_lt_or_eq.1 hj with h | h; exact hI j h; subst h; assumption⟩ (by omega)

theorem has_bytes {B : Nat → Prop} (s : Sl UInt8) (w : World) (hs : s.rd B w) : Calls Try.prog 96 #[s.val, .func (.func 97) #[] #[]] w fun e w' => e = .returned (vb (s.xs.any nameBad)) ∧ Kp [] w w' := by
 have oks := Sl.rd.ok hs
 have ncs := Sl.ok.nc oks
 have hns : s.n = s.xs.length := rfl
 refine Mj ?_ Try.func96 (WS.start w)
 refine Mp ?_ Try.call137 (fun bs w hS => idx_bytes _ w (Sl.rd.kp hs hS.kp))
 exact Meb (decide ((0 : Int) ≤ mIdx nameBad s.xs)) (by simp only [retOf, den, List.map_cons, List.map_nil, mIdx_nonneg])

theorem lock_Name (s : ByteArray) (w : World) (hs : s.size ≤ 9223372036854775807) : Calls Try.prog 43 #[vs s] w fun e w' => e = .returned (vb (mName s)) ∧ Kp [] w w' := by
 refine M0 ?_ Try.func43
 refine Mdn (s = emp) (fun h1 => ?_) fun h1 => ?_
 · exact Meb false (by simp [retOf, den, mName, *])
 refine Md ((s.size : Int) ≤ 6) (fun h2 => ?_) fun h2 => ?_
 rotate_left
 · exact Meb false (by simp [retOf, den, mName, *])
 refine Msy ?_ (e := 5) (by unfold maxLen; omega)
 rintro fp1 y1 hF1 hok1
 refine Mp ?_ Try.call96 (fun bs w hS => has_bytes _ w (hS.res _ i0))
 exact Meb (!(y1.xs.any nameBad)) (by simp [retOf, den, mName, *])

theorem ref_NameMay (s : ByteArray) (w : World) (hs : s.size ≤ 9223372036854775807) : Calls Try.prog 48 #[vs s] w fun e w' => e = .returned (vb (mName s)) ∧ Kp [] w w' := by
 refine M0 ?_ Try.func48
 refine Ml (σ := Nat) (fun i => i ≤ s.size ∧ ∀ j, j < i → nameBad (s.data.getD j 0) = false) (fun i => s.size - i) (fun _ => []) [3, 0] (fun i => [(3, vI (i : Int))]) (fun _ => []) ?_ 0 ⟨Nat.zero_le _, fun j hj => absurd hj (Nat.not_lt_zero _)⟩
 rintro i ⟨hi, hI⟩ _ on1
 have hu := (s.data.getD i 0).toNat_lt
 refine Md ((i : Int) < (s.size : Int)) (fun h1 => ?_) fun h1 => ?_
 rotate_left
 · refine Mp ?_ Try.call56 (fun bs w hS => ref_In (s.size : Int) 1 6 w)
   exact Meb (inB (s.size : Int) 1 6) (by simp only [retOf, den, List.map_cons, List.map_nil, mName_good fun j hj => hI j (by omega)])
 refine Mi ?_ (pc (pG [(12, .sidx i)] (oc (rfl : (i : Int) = (i : Int)) (oc ((by omega) : i < s.size) on))) (pc (pP (0 ≤ ((s.data.getD i 0).toNat : Int))) (pP (((s.data.getD i 0).toNat : Int) ≤ 255))))
 refine Mp ?_ Try.call56 (fun bs w hS => ref_In ((s.data.getD i 0).toNat : Int) 97 122 w)
 refine Mbn (inB ((s.data.getD i 0).toNat : Int) 97 122) (fun h2 => ?_) fun h2 => ?_
 rotate_left
 · refine Mt [vb false] fun bs w hS => ?_
   clear on1
   refine ⟨?_, hS.kp⟩
   rw [mName_bad (i := i) (by omega) (by simp only [inB, nameBad, Bool.and_eq_false_iff, Bool.or_eq_true, decide_eq_true_eq, decide_eq_false_iff_not] at *; omega)]
   rfl
 refine Mi ?_ (pR ((i : Int) + 1))
 exact on1 (i + 1) ⟨by omega, fun j hj => by rcases Nat.lt_succ_iff_lt_or_eq.1 hj with h | h; exact hI j h; subst h; simp only [inB, nameBad, Bool.and_eq_true, Bool.or_eq_false_iff, decide_eq_true_eq, decide_eq_false_iff_not] at *; omega⟩ (by omega)

theorem codec_ReadNumber (s : ByteArray) (w : World) (hs : s.size ≤ 9223372036854775807) : Calls Try.prog 145 #[vs s] w fun e w' => e = .returned (.tuple #[vi (mRead s).1, vs (mRead s).2.1, vi (mRead s).2.2]) ∧ Kp [] w w' := by
 refine M0 ?_ Try.func145
 refine Ml (σ := Nat × Int) (fun ⟨i, n⟩ => RdIn s i n) (fun ⟨i, n⟩ => 6 - i) (fun _ => []) [6, 5, 0] (fun ⟨i, n⟩ => [(6, vI (i : Int)), (5, vI n)]) (fun _ => []) ?_ (⟨0, 0⟩) (RdIn.start s)
 rintro ⟨i, n⟩ hI _ on1
 have hle := hI.le
 have hsz := hI.sz
 have hlo := hI.lo
 have hhi := hI.hi
 have hu := (s.data.getD i 0).toNat_lt
 have hbt := and127_bd (s.data.getD i 0)
 refine Md ((i : Int) < 6) (fun h1 => ?_) (fun h1 => ?_)
 rotate_left
 · refine Mt [.int .i64 0, .string emp, .int .i64 4] fun bs w hS => ?_
   refine ⟨?_, hS.kp⟩
   rw [hI.out (by omega)]
   simp only [retOf, den, List.map_cons, List.map_nil]
 refine Md ((i : Int) = (s.size : Int)) (fun h2 => ?_) fun h2 => ?_
 · refine Mt [vi 0, ve, vi 5] fun bs w hS => ?_
   refine ⟨?_, hS.kp⟩
   rw [hI.short (by omega) (by omega)]
   simp only [retOf, den, List.map_cons, List.map_nil]
 refine Mi ?_ (pc (pG [(18, .sidx i)] (oc (rfl : (i : Int) = (i : Int)) (oc ((by omega) : i < s.size) on))) (pc (pP (0 ≤ (bits .and .u8 ((s.data.getD i 0).toNat : Int) 127))) (pc (pP ((bits .and .u8 ((s.data.getD i 0).toNat : Int) 127) ≤ 255)) (pc (pR ((7 : Int) * (i : Int))) (pc (pP ((0 : Int) ≤ (7 : Int) * (i : Int))) (pc (pP ((7 : Int) * (i : Int) ≤ (64 : Int))) (pG [(27, .sidx i)] (oc (rfl : (i : Int) = (i : Int)) (oc ((by omega) : i < s.size) on)))))))))
 refine Md ((128 : Int) ≤ ((s.data.getD i 0).toNat : Int)) (fun h3 => ?_) fun h3 => ?_
 · refine Mi ?_ (pR ((i : Int) + 1))
   exact on1 ⟨i + 1, bits .or .i64 n (IntKind.i64.wrap ((bits .and .u8 ((s.data.getD i 0).toNat : Int) 127) * 2 ^ ((7 : Int) * (i : Int) : Int).toNat))⟩ (by show RdIn s (i + 1) _; rw [or_shift s i n hI.lo hI.hi (by omega)]; exact hI.step (by omega) (by omega) (by omega)) (by show 6 - (i + 1) < 6 - i; omega)
 refine Mi ?_ (pG [(31, .sidx i)] (oc (rfl : (i : Int) = (i : Int)) (oc ((by omega) : i < s.size) on)))
 refine Md (((s.data.getD i 0).toNat : Int) = 0) (fun h4 => ?_) fun h4 => ?_
 rotate_left
 · refine Md ((1099511627776 : Int) < bits .or .i64 n (IntKind.i64.wrap ((bits .and .u8 ((s.data.getD i 0).toNat : Int) 127) * 2 ^ ((7 : Int) * (i : Int) : Int).toNat))) (fun h7 => ?_) fun h7 => ?_
   · refine Mt [.int .i64 0, .string emp, .int .i64 4] fun bs w hS => ?_
     refine ⟨?_, hS.kp⟩
     have hor := or_shift s i n hI.lo hI.hi (by omega)
     try rw [hor] at h7
     try rw [hor]
     rw [hI.last (by omega) (by omega) (by omega), if_pos (by omega)]
     simp only [retOf, den, List.map_cons, List.map_nil]
   refine Mda 8 [] [] [] Try_mixed ?_
   refine Mih ?_ (pc (pR ((i : Int) + 1)) (pG [(45, .sl (i + 1) s.size)] (oc ((by omega) : (i : Int) + 1 = (((i + 1) : Nat) : Int)) (oc (rfl : s.size = s.size) (oc ((by omega) : (i + 1) ≤ s.size) on)))))
   refine Mt [vi (bits .or .i64 n (IntKind.i64.wrap ((bits .and .u8 ((s.data.getD i 0).toNat : Int) 127) * 2 ^ ((7 : Int) * (i : Int) : Int).toNat))), vs (s.extract (i + 1) s.size), vi 0] fun bs w hS => ?_
   refine ⟨?_, hS.kp⟩
   have hor := or_shift s i n hI.lo hI.hi (by omega)
   try rw [hor] at h7
   try rw [hor]
   rw [hI.last (by omega) (by omega) (by omega), if_neg (by omega)]
   simp only [retOf, den, List.map_cons, List.map_nil]
 refine Md ((0 : Int) < (i : Int)) (fun h5 => ?_) fun h5 => ?_
 · refine Mt [.int .i64 0, .string emp, .int .i64 4] fun bs w hS => ?_
   refine ⟨?_, hS.kp⟩
   have hor := or_shift s i n hI.lo hI.hi (by omega)
   try rw [hor] at h5
   try rw [hor]
   rw [hI.last (by omega) (by omega) (by omega), if_pos (by omega)]
   simp only [retOf, den, List.map_cons, List.map_nil]
 refine Md ((1099511627776 : Int) < bits .or .i64 n (IntKind.i64.wrap ((bits .and .u8 ((s.data.getD i 0).toNat : Int) 127) * 2 ^ ((7 : Int) * (i : Int) : Int).toNat))) (fun h6 => ?_) fun h6 => ?_
 · refine Mt [.int .i64 0, .string emp, .int .i64 4] fun bs w hS => ?_
   refine ⟨?_, hS.kp⟩
   have hor := or_shift s i n hI.lo hI.hi (by omega)
   try rw [hor] at h6
   try rw [hor]
   rw [hI.last (by omega) (by omega) (by omega), if_pos (by omega)]
   simp only [retOf, den, List.map_cons, List.map_nil]
 refine Mda 8 [] [] [] Try_mixed ?_
 refine Mih ?_ (pc (pR ((i : Int) + 1)) (pG [(45, .sl (i + 1) s.size)] (oc ((by omega) : (i : Int) + 1 = (((i + 1) : Nat) : Int)) (oc (rfl : s.size = s.size) (oc ((by omega) : (i + 1) ≤ s.size) on)))))
 refine Mt [vi (bits .or .i64 n (IntKind.i64.wrap ((bits .and .u8 ((s.data.getD i 0).toNat : Int) 127) * 2 ^ ((7 : Int) * (i : Int) : Int).toNat))), vs (s.extract (i + 1) s.size), vi 0] fun bs w hS => ?_
 refine ⟨?_, hS.kp⟩
 have hor := or_shift s i n hI.lo hI.hi (by omega)
 try rw [hor] at h6
 try rw [hor]
 rw [hI.last (by omega) (by omega) (by omega), if_neg (by omega)]
 simp only [retOf, den, List.map_cons, List.map_nil]

theorem ref_NumberOf (s : ByteArray) (w : World) (hs : s.size ≤ 9223372036854775807) : Calls Try.prog 121 #[vs s] w fun e w' => e = .returned (.tuple #[vi (mRead s).1, vs (mRead s).2.1, vi (mRead s).2.2]) ∧ Kp [] w w' := by
 refine M0 ?_ Try.func121
 refine Ml (σ := Nat × Int) (fun ⟨i, n⟩ => RdIn s i n) (fun ⟨i, n⟩ => 6 - i) (fun _ => []) [7, 6, 5, 0] (fun ⟨i, n⟩ => [(7, vI (i : Int)), (6, vI ((128 : Int) ^ i)), (5, vI n)]) (fun _ => []) ?_ (⟨0, 0⟩) (RdIn.start s)
 rintro ⟨i, n⟩ hI _ on1
 have hle := hI.le
 have hsz := hI.sz
 have hlo := hI.lo
 have hhi := hI.hi
 have hu := (s.data.getD i 0).toNat_lt
 have hbt := unit_bd (s.data.getD i 0) i hle
 refine Md ((i : Int) < 6) (fun h1 => ?_) (fun h1 => ?_)
 rotate_left
 · refine Mt [.int .i64 0, .string emp, .int .i64 4] fun bs w hS => ?_
   refine ⟨?_, hS.kp⟩
   rw [hI.out (by omega)]
   simp only [retOf, den, List.map_cons, List.map_nil]
 refine Md ((s.size : Int) ≤ (i : Int)) (fun h2 => ?_) fun h2 => ?_
 · refine Mt [vi 0, ve, vi 5] fun bs w hS => ?_
   refine ⟨?_, hS.kp⟩
   rw [hI.short (by omega) (by omega)]
   simp only [retOf, den, List.map_cons, List.map_nil]
 refine Mi ?_ (pc (pG [(20, .sidx i)] (oc (rfl : (i : Int) = (i : Int)) (oc ((by omega) : i < s.size) on))) (pc (pP (0 ≤ ((s.data.getD i 0).toNat : Int))) (pc (pP (((s.data.getD i 0).toNat : Int) ≤ 255)) (pc (pP (0 ≤ ((s.data.getD i 0).toNat : Int))) (pc (pP ((0 : Int) < 128)) (pc (pR (((128 : Int) ^ i) * (((s.data.getD i 0).toNat : Int) % 128))) (pc (pR (n + (((128 : Int) ^ i) * (((s.data.getD i 0).toNat : Int) % 128)))) (pc (pR (((128 : Int) ^ i) * 128)) (pG [(29, .sidx i)] (oc (rfl : (i : Int) = (i : Int)) (oc ((by omega) : i < s.size) on)))))))))))
 refine Md (((s.data.getD i 0).toNat : Int) < 128) (fun h3 => ?_) fun h3 => ?_
 rotate_left
 · refine Mi ?_ (pR ((i : Int) + 1))
   exact on1 ⟨i + 1, n + (((128 : Int) ^ i) * (((s.data.getD i 0).toNat : Int) % 128))⟩ (hI.step (by omega) (by omega) (by omega)) (by show 6 - (i + 1) < 6 - i; omega) (hp := (by simp only [Int.pow_succ]; kernel_rfl))
 refine Md ((0 : Int) < (i : Int)) (fun h4 => ?_) fun h4 => ?_
 rotate_left
 · refine Md ((1099511627776 : Int) < n + (((128 : Int) ^ i) * (((s.data.getD i 0).toNat : Int) % 128))) (fun h7 => ?_) fun h7 => ?_
   · refine Mt [.int .i64 0, .string emp, .int .i64 4] fun bs w hS => ?_
     refine ⟨?_, hS.kp⟩
     rw [hI.last (by omega) (by omega) (by omega), if_pos (by omega)]
     simp only [retOf, den, List.map_cons, List.map_nil]
   refine Mda 8 [] [] [] Try_mixed ?_
   refine Mih ?_ (pc (pR ((i : Int) + 1)) (pG [(47, .sl (i + 1) s.size)] (oc ((by omega) : (i : Int) + 1 = (((i + 1) : Nat) : Int)) (oc (rfl : s.size = s.size) (oc ((by omega) : (i + 1) ≤ s.size) on)))))
   refine Mt [vi (n + (((128 : Int) ^ i) * (((s.data.getD i 0).toNat : Int) % 128))), vs (s.extract (i + 1) s.size), vi 0] fun bs w hS => ?_
   refine ⟨?_, hS.kp⟩
   rw [hI.last (by omega) (by omega) (by omega), if_neg (by omega)]
   simp only [retOf, den, List.map_cons, List.map_nil]
 refine Mi ?_ (pG [(36, .sidx i)] (oc (rfl : (i : Int) = (i : Int)) (oc ((by omega) : i < s.size) on)))
 refine Md (((s.data.getD i 0).toNat : Int) = 0) (fun h5 => ?_) fun h5 => ?_
 · refine Mt [.int .i64 0, .string emp, .int .i64 4] fun bs w hS => ?_
   refine ⟨?_, hS.kp⟩
   rw [hI.last (by omega) (by omega) (by omega), if_pos (by omega)]
   simp only [retOf, den, List.map_cons, List.map_nil]
 refine Md ((1099511627776 : Int) < n + (((128 : Int) ^ i) * (((s.data.getD i 0).toNat : Int) % 128))) (fun h6 => ?_) fun h6 => ?_
 · refine Mt [.int .i64 0, .string emp, .int .i64 4] fun bs w hS => ?_
   refine ⟨?_, hS.kp⟩
   rw [hI.last (by omega) (by omega) (by omega), if_pos (by omega)]
   simp only [retOf, den, List.map_cons, List.map_nil]
 refine Mda 8 [] [] [] Try_mixed ?_
 refine Mih ?_ (pc (pR ((i : Int) + 1)) (pG [(47, .sl (i + 1) s.size)] (oc ((by omega) : (i : Int) + 1 = (((i + 1) : Nat) : Int)) (oc (rfl : s.size = s.size) (oc ((by omega) : (i + 1) ≤ s.size) on)))))
 refine Mt [vi (n + (((128 : Int) ^ i) * (((s.data.getD i 0).toNat : Int) % 128))), vs (s.extract (i + 1) s.size), vi 0] fun bs w hS => ?_
 refine ⟨?_, hS.kp⟩
 rw [hI.last (by omega) (by omega) (by omega), if_neg (by omega)]
 simp only [retOf, den, List.map_cons, List.map_nil]

theorem codec_ReadText (s : ByteArray) (w : World) (hs : s.size ≤ 9223372036854775807) : Calls Try.prog 146 #[vs s] w fun e w' => e = .returned (.tuple #[vs (mTell s).1, vs (mTell s).2.1, vi (mTell s).2.2]) ∧ Kp [] w w' := by
 have hb := mRead_bd s
 refine M0 ?_ Try.func146
 refine Mp ?_ Try.call145 (fun bs w hS => codec_ReadNumber _ w (by first | assumption | omega | (simp only [emp_size]; omega)))
 refine Mdn ((mRead s).2.2 = 0) (fun h1 => ?_) fun h1 => ?_
 rotate_left
 · refine Mt [ve, ve, vi (mRead s).2.2] fun bs w hS => ?_
   refine ⟨?_, hS.kp⟩
   simp only [retOf, den, List.map_cons, List.map_nil]
   grind [mTell]
 refine Md ((5000 : Int) < (mRead s).1) (fun h2 => ?_) fun h2 => ?_
 · refine Mt [ve, ve, vi 1] fun bs w hS => ?_
   refine ⟨?_, hS.kp⟩
   simp only [retOf, den, List.map_cons, List.map_nil]
   grind [mTell]
 refine Md (((mRead s).2.1.size : Int) < (mRead s).1) (fun h3 => ?_) fun h3 => ?_
 · refine Mt [ve, ve, vi 5] fun bs w hS => ?_
   refine ⟨?_, hS.kp⟩
   simp only [retOf, den, List.map_cons, List.map_nil]
   grind [mTell]
 refine Mda 9 [] [] [] Try_mixed ?_
 refine Mih ?_ (pc (pG [(25, .sl 0 (mRead s).1.toNat)] (oc (rfl : 0 = 0) (oc ((by omega) : (mRead s).1 = (((mRead s).1.toNat : Nat) : Int)) (oc ((by omega) : (mRead s).1.toNat ≤ (mRead s).2.1.size) on)))) (pG [(28, .sl (mRead s).1.toNat (mRead s).2.1.size)] (oc ((by omega) : (mRead s).1 = (((mRead s).1.toNat : Nat) : Int)) (oc (rfl : (mRead s).2.1.size = (mRead s).2.1.size) (oc ((by omega) : (mRead s).1.toNat ≤ (mRead s).2.1.size) on)))))
 refine Mt [vs ((mRead s).2.1.extract 0 (mRead s).1.toNat), vs ((mRead s).2.1.extract (mRead s).1.toNat (mRead s).2.1.size), vi 0] fun bs w hS => ?_
 refine ⟨?_, hS.kp⟩
 simp only [retOf, den, List.map_cons, List.map_nil]
 grind [mTell]

theorem ref_TextOf (s : ByteArray) (w : World) (hs : s.size ≤ 9223372036854775807) : Calls Try.prog 122 #[vs s] w fun e w' => e = .returned (.tuple #[vs (mTell s).1, vs (mTell s).2.1, vi (mTell s).2.2]) ∧ Kp [] w w' := by
 have hb := mRead_bd s
 refine M0 ?_ Try.func122
 refine Mp ?_ Try.call121 (fun bs w hS => ref_NumberOf _ w (by first | assumption | omega | (simp only [emp_size]; omega)))
 refine Md ((mRead s).2.2 = 0) (fun h1 => ?_) fun h1 => ?_
 rotate_left
 · refine My false false ?_ (df h1)
   refine My false true ?_ (df h1)
   refine Mt [ve, ve, vi (mRead s).2.2] fun bs w hS => ?_
   refine ⟨?_, hS.kp⟩
   simp only [retOf, den, List.map_cons, List.map_nil]
   grind [mTell]
 refine Md ((5000 : Int) < (mRead s).1) (fun h2 => ?_) fun h2 => ?_
 · refine Mq 22 false ?_ rfl
   refine Mq 29 true ?_ rfl
   refine Mt [ve, ve, vi 1] fun bs w hS => ?_
   refine ⟨?_, hS.kp⟩
   simp only [retOf, den, List.map_cons, List.map_nil]
   grind [mTell]
 refine My true false ?_ (dt h1)
 refine Md (((mRead s).2.1.size : Int) < (mRead s).1) (fun h4 => ?_) fun h4 => ?_
 · refine Mq 29 true ?_ rfl
   refine Mt [ve, ve, vi 5] fun bs w hS => ?_
   refine ⟨?_, hS.kp⟩
   simp only [retOf, den, List.map_cons, List.map_nil]
   grind [mTell]
 refine My true true ?_ (dt h1)
 refine Mda 9 [] [] [] Try_mixed ?_
 refine Mih ?_ (pc (pG [(33, .sl 0 (mRead s).1.toNat)] (oc (rfl : 0 = 0) (oc ((by omega) : (mRead s).1 = (((mRead s).1.toNat : Nat) : Int)) (oc ((by omega) : (mRead s).1.toNat ≤ (mRead s).2.1.size) on)))) (pG [(36, .sl (mRead s).1.toNat (mRead s).2.1.size)] (oc ((by omega) : (mRead s).1 = (((mRead s).1.toNat : Nat) : Int)) (oc (rfl : (mRead s).2.1.size = (mRead s).2.1.size) (oc ((by omega) : (mRead s).1.toNat ≤ (mRead s).2.1.size) on)))))
 refine Mt [vs ((mRead s).2.1.extract 0 (mRead s).1.toNat), vs ((mRead s).2.1.extract (mRead s).1.toNat (mRead s).2.1.size), vi 0] fun bs w hS => ?_
 refine ⟨?_, hS.kp⟩
 simp only [retOf, den, List.map_cons, List.map_nil]
 grind [mTell]

theorem command_CheckOp {B : Nat → Prop} (x : DOp) (w : World) (hx : Rds.sub B w x) : Calls Try.prog 147 #[x.val] w fun e w' => e = .returned (vi (mOp x)) ∧ Kp [] w w' := by
 have okx := Rds.okof hx
 refine M0 ?_ Try.func147
 refine Md (x.kind < 1) (fun h1 => ?_) fun h1 => ?_
 · exact Me0 3 (by grind [mOp])
 refine Md ((6 : Int) < x.kind) (fun h2 => ?_) fun h2 => ?_
 · exact Me0 3 (by grind [mOp])
 refine Mp ?_ Try.call43 (fun bs w hS => lock_Name _ w okx.1)
 refine Mbn (mName x.a) (fun h3 => ?_) fun h3 => ?_
 rotate_left
 · exact Me0 4 (by grind [mOp])
 refine Mdn (x.kind = 5) (fun h4 => ?_) fun h4 => ?_
 · refine Md ((12 : Int) < (x.b.size : Int)) (fun h5 => ?_) fun h5 => ?_
   · exact Me0 1 (by grind [mOp])
   refine My true false ?_ (dt h4)
   refine Md (x.n < 1) (fun h7 => ?_) fun h7 => ?_
   · exact Me0 2 (by grind [mOp])
   refine Md ((1073741824 : Int) < x.n) (fun h8 => ?_) fun h8 => ?_
   · exact Me0 2 (by grind [mOp])
   refine My true true ?_ (dt h4)
   exact Me0 0 (by grind [mOp])
 refine Mdn (x.b = emp) (fun h10 => ?_) fun h10 => ?_
 rotate_left
 · exact Me0 4 (by grind [mOp])
 have hzh10 : x.b.size = 0 := by rw [h10]; rfl
 refine Md ((12 : Int) < (x.b.size : Int)) (fun h11 => ?_) fun h11 => ?_
 · exact Me0 1 (by grind [mOp])
 refine My false false ?_ (df h4)
 refine My false true ?_ (df h4)
 refine Mdn (x.n = 0) (fun h14 => ?_) fun h14 => ?_
 · exact Me0 0 (by grind [mOp])
 exact Me0 2 (by grind [mOp])

theorem ref_OpFault {B : Nat → Prop} (x : DOp) (w : World) (hx : Rds.sub B w x) : Calls Try.prog 148 #[x.val] w fun e w' => e = .returned (vi (mOp x)) ∧ Kp [] w w' := by
 have okx := Rds.okof hx
 refine M0 ?_ Try.func148
 refine Mp ?_ Try.call56 (fun bs w hS => ref_In x.kind 1 6 w)
 refine Mbn (inB x.kind 1 6) (fun h1 => ?_) fun h1 => ?_
 rotate_left
 · simp only [iT, iF] at h1
   exact Me0 3 (by grind [mOp])
 simp only [iT, iF] at h1
 refine Mp ?_ Try.call48 (fun bs w hS => ref_NameMay _ w okx.1)
 refine Mbn (mName x.a) (fun h2 => ?_) fun h2 => ?_
 rotate_left
 · exact Me0 4 (by grind [mOp])
 refine Mdn (x.b = emp) (fun h3 => ?_) fun h3 => ?_
 rotate_left
 · refine Mdn (x.kind = 5) (fun h8 => ?_) fun h8 => ?_
   rotate_left
   · exact Me0 4 (by grind [mOp])
   refine Md ((12 : Int) < (x.b.size : Int)) (fun h9 => ?_) fun h9 => ?_
   · exact Me0 1 (by grind [mOp])
   refine My true false ?_ (dt h8)
   refine Mp ?_ Try.call56 (fun bs w hS => ref_In x.n 1 1073741824 w)
   refine Mbn (inB x.n 1 1073741824) (fun h11 => ?_) fun h11 => ?_
   · simp only [iT, iF] at h11
     exact Me0 0 (by grind [mOp])
   simp only [iT, iF] at h11
   exact Me0 2 (by grind [mOp])
 have hzh3 : x.b.size = 0 := by rw [h3]; rfl
 refine Md ((12 : Int) < (x.b.size : Int)) (fun h4 => ?_) fun h4 => ?_
 · exact Me0 1 (by grind [mOp])
 refine Md (x.kind = 5) (fun h5 => ?_) fun h5 => ?_
 rotate_left
 · refine Mdn (x.n = 0) (fun h7 => ?_) fun h7 => ?_
   · exact Me0 0 (by grind [mOp])
   exact Me0 2 (by grind [mOp])
 refine Mp ?_ Try.call56 (fun bs w hS => ref_In x.n 1 1073741824 w)
 refine Mbn (inB x.n 1 1073741824) (fun h6 => ?_) fun h6 => ?_
 · simp only [iT, iF] at h6
   exact Me0 0 (by grind [mOp])
 simp only [iT, iF] at h6
 exact Me0 2 (by grind [mOp])

theorem command_Check {B : Nat → Prop} (x : DCommand) (w : World) (hx : Rds.sub B w x) : Calls Try.prog 120 #[x.val] w fun e w' => e = .returned (vi (mCmd x)) ∧ Kp [] w w' := by
 have okx := Rds.okof hx
 refine M0 ?_ Try.func120
 refine Md (x.kind < 1) (fun h1 => ?_) fun h1 => ?_
 · exact Me0 3 (by grind [mCmd])
 refine Md ((3 : Int) < x.kind) (fun h2 => ?_) fun h2 => ?_
 · exact Me0 3 (by grind [mCmd])
 refine Md (x.client < 1) (fun h3 => ?_) fun h3 => ?_
 · exact Me0 2 (by grind [mCmd])
 refine Md ((9 : Int) < x.client) (fun h4 => ?_) fun h4 => ?_
 · exact Me0 2 (by grind [mCmd])
 refine Mdn (x.kind = 2) (fun h5 => ?_) fun h5 => ?_
 rotate_left
 · refine Mdn (x.session = 0) (fun h12 => ?_) fun h12 => ?_
   rotate_left
   · exact Me0 4 (by grind [mCmd])
   refine Mdn (x.seq = 0) (fun h13 => ?_) fun h13 => ?_
   rotate_left
   · exact Me0 4 (by grind [mCmd])
   refine Mdn (x.acked = 0) (fun h14 => ?_) fun h14 => ?_
   rotate_left
   · exact Me0 4 (by grind [mCmd])
   refine Mi ?_ (pG [(39, .val (vb (!((decide (x.op.kind = 0)) && ((decide (x.op.a = emp)) && ((decide (x.op.b = emp)) && ((decide (x.op.n = 0)) && true)))))))] (oc ((neq_agg (by kernel_rfl) (by kernel_rfl)) : ∀ w, (do eqGuard .neq 112 (.tmp 37) (.tmp 38) x.op.val (.agg #[vi 0, ve, ve, vi 0]); binOp .neq 112 x.op.val (.agg #[vi 0, ve, ve, vi 0]) : Sem Value).run Try.prog w = .ok (vb (!((decide (x.op.kind = 0)) && ((decide (x.op.a = emp)) && ((decide (x.op.b = emp)) && ((decide (x.op.n = 0)) && true)))))) w) on))
   refine Mbn ((decide (x.op.kind = 0)) && ((decide (x.op.a = emp)) && ((decide (x.op.b = emp)) && ((decide (x.op.n = 0)) && true)))) (fun h15 => ?_) fun h15 => ?_
   · simp only [Bool.and_eq_true, decide_eq_true_eq, and_true] at h15
     exact Me0 0 (by grind [mCmd])
   rw [Bool.eq_false_iff] at h15
   simp only [ne_eq, Bool.and_eq_true, decide_eq_true_eq, and_true] at h15
   exact Me0 4 (by grind [mCmd])
 refine Md (x.session < 1) (fun h6 => ?_) fun h6 => ?_
 · exact Me0 2 (by grind [mCmd])
 refine Md ((1073741824 : Int) < x.session) (fun h7 => ?_) fun h7 => ?_
 · exact Me0 2 (by grind [mCmd])
 refine Md (x.seq < 1) (fun h8 => ?_) fun h8 => ?_
 · exact Me0 2 (by grind [mCmd])
 refine Md ((1048576 : Int) < x.seq) (fun h9 => ?_) fun h9 => ?_
 · exact Me0 2 (by grind [mCmd])
 refine Md (x.acked < 0) (fun h10 => ?_) fun h10 => ?_
 · exact Me0 2 (by grind [mCmd])
 refine Md (x.seq ≤ x.acked) (fun h11 => ?_) fun h11 => ?_
 · exact Me0 2 (by grind [mCmd])
 refine Mp ?_ Try.call147 (fun bs w hS => command_CheckOp (B := anyB) x.op w ⟨okx.1, okx.2⟩)
 exact Me0 (mOp x.op) (by grind [mCmd])

theorem ref_CommandFault {B : Nat → Prop} (x : DCommand) (w : World) (hx : Rds.sub B w x) : Calls Try.prog 123 #[x.val] w fun e w' => e = .returned (vi (mCmd x)) ∧ Kp [] w w' := by
 have okx := Rds.okof hx
 refine M0 ?_ Try.func123
 refine Mp ?_ Try.call56 (fun bs w hS => ref_In x.kind 1 3 w)
 refine Mbn (inB x.kind 1 3) (fun h1 => ?_) fun h1 => ?_
 rotate_left
 · simp only [iT, iF] at h1
   exact Me0 3 (by grind [mCmd])
 simp only [iT, iF] at h1
 refine Mp ?_ Try.call56 (fun bs w hS => ref_In x.client 1 9 w)
 refine Mbn (inB x.client 1 9) (fun h2 => ?_) fun h2 => ?_
 rotate_left
 · simp only [iT, iF] at h2
   exact Me0 2 (by grind [mCmd])
 simp only [iT, iF] at h2
 refine Md (x.kind = 2) (fun h3 => ?_) fun h3 => ?_
 · refine Mp ?_ Try.call56 (fun bs w hS => ref_In x.session 1 1073741824 w)
   refine Mbn (inB x.session 1 1073741824) (fun h4 => ?_) fun h4 => ?_
   rotate_left
   · simp only [iT, iF] at h4
     exact Me0 2 (by grind [mCmd])
   simp only [iT, iF] at h4
   refine Mp ?_ Try.call56 (fun bs w hS => ref_In x.seq 1 1048576 w)
   refine Mbn (inB x.seq 1 1048576) (fun h5 => ?_) fun h5 => ?_
   rotate_left
   · simp only [iT, iF] at h5
     exact Me0 2 (by grind [mCmd])
   simp only [iT, iF] at h5
   refine Mi ?_ (pR (x.seq - 1))
   refine Mp ?_ Try.call56 (fun bs w hS => ref_In x.acked 0 (x.seq - 1) w)
   refine Mbn (inB x.acked 0 (x.seq - 1)) (fun h6 => ?_) fun h6 => ?_
   rotate_left
   · simp only [iT, iF] at h6
     exact Me0 2 (by grind [mCmd])
   simp only [iT, iF] at h6
   refine Mp ?_ Try.call148 (fun bs w hS => ref_OpFault (B := anyB) x.op w ⟨okx.1, okx.2⟩)
   exact Me0 (mOp x.op) (by grind [mCmd])
 refine Mdn (x.session = 0) (fun h7 => ?_) fun h7 => ?_
 rotate_left
 · exact Me0 4 (by grind [mCmd])
 refine Mdn (x.seq = 0) (fun h8 => ?_) fun h8 => ?_
 rotate_left
 · exact Me0 4 (by grind [mCmd])
 refine Mdn (x.acked = 0) (fun h9 => ?_) fun h9 => ?_
 rotate_left
 · exact Me0 4 (by grind [mCmd])
 refine Mdn (x.op.kind = 0) (fun h10 => ?_) fun h10 => ?_
 rotate_left
 · exact Me0 4 (by grind [mCmd])
 refine Mdn (x.op.a = emp) (fun h11 => ?_) fun h11 => ?_
 rotate_left
 · exact Me0 4 (by grind [mCmd])
 have hzh11 : x.op.a.size = 0 := by rw [h11]; rfl
 refine Mdn (x.op.b = emp) (fun h12 => ?_) fun h12 => ?_
 rotate_left
 · exact Me0 4 (by grind [mCmd])
 have hzh12 : x.op.b.size = 0 := by rw [h12]; rfl
 refine Mdn (x.op.n = 0) (fun h13 => ?_) fun h13 => ?_
 · exact Me0 0 (by grind [mCmd])
 exact Me0 4 (by grind [mCmd])

theorem command_body (c : DCommand) (b : Nat) (t : ByteArray) (w : World) (hb : (blkR b 114 [vi c.kind, vi c.client, vi c.session, vi c.seq, vi c.acked, vi c.op.kind, vs c.op.a, vs c.op.b, vi c.op.n]).p w) (ht : t.size ≤ 9223372036854775807) (hc : Rds.ok c) : Calls Try.prog 119 #[.pointer (some ⟨b, 0, none⟩), vs t] w fun e w' => ∃ y : DCommand, e = .returned (.tuple #[vs (mBody c t).2.1, vi (mBody c t).2.2]) ∧ (((mBody c t).2.2 = 0 → y = (mBody c t).1) ∧ Rds.ok y) ∧ Kp [b] w w' ∧ (blkR b 114 [vi y.kind, vi y.client, vi y.session, vi y.seq, vi y.acked, vi y.op.kind, vs y.op.a, vs y.op.b, vi y.op.n]).p w' := by
 refine Mj ?_ Try.func119 (WS.start1 w _ hb (by simp [blkR]) (blkR_lt hb))
 refine Mdr 20 ?_ Try_mixed
 refine M1 ?_
 refine Mz ?_
 refine Mun 6 fun _ on1 => ?_
 refine Mq 32 true ?_ rfl
 refine Mi ?_ (pG [(33, .idx default 0)] (oc (rfl : (0 : Int) = ((0 : Nat) : Int)) (oc ((by omega) : 0 < 5) on)))
 refine Mp ?_ (vs := fun bs => [vs t]) Try.call145 (fun bs w hS => codec_ReadNumber _ w (by first | assumption | omega | (simp only [emp_size]; omega)))
 have hzr1 := mRead_bd t
 generalize hr1 : mRead t = r1 at hzr1 ⊢
 refine Msb 2 [vi c.kind, vi c.client, vi r1.1, vi c.seq, vi c.acked, vi c.op.kind, vs c.op.a, vs c.op.b, vi c.op.n] ?_
 refine Mdn (r1.2.2 = 0) (fun h1 => ?_) fun h1 => ?_
 rotate_left
 · refine Mt [ve, vi r1.2.2] fun bs w hS => ?_
   have hm : mBody c t = (c, emp, r1.2.2) := by grind [mBody]
   exact ⟨(⟨c.kind, c.client, r1.1, c.seq, c.acked, ⟨c.op.kind, c.op.a, c.op.b, c.op.n⟩⟩ : DCommand), by rw [hm]; rfl, ⟨fun h0 => absurd h0 (by rw [hm]; exact h1), ⟨hc.1, hc.2⟩⟩, hS.kp, hS.res _ i0⟩
 refine Mi ?_ (pR (1))
 refine on1 5 (J := ?_)
 refine Mq 32 true ?_ rfl
 refine Mi ?_ (pG [(33, .idx default 1)] (oc (rfl : (1 : Int) = ((1 : Nat) : Int)) (oc ((by omega) : 1 < 5) on)))
 refine Mp ?_ (vs := fun bs => [vs r1.2.1]) Try.call145 (fun bs w hS => codec_ReadNumber _ w (by first | assumption | omega | (simp only [emp_size]; omega)))
 have hzr2 := mRead_bd r1.2.1
 generalize hr2 : mRead r1.2.1 = r2 at hzr2 ⊢
 refine Msb 3 [vi c.kind, vi c.client, vi r1.1, vi r2.1, vi c.acked, vi c.op.kind, vs c.op.a, vs c.op.b, vi c.op.n] ?_
 refine Mdn (r2.2.2 = 0) (fun h2 => ?_) fun h2 => ?_
 rotate_left
 · refine Mt [ve, vi r2.2.2] fun bs w hS => ?_
   have hm : mBody c t = (c, emp, r2.2.2) := by grind [mBody]
   exact ⟨(⟨c.kind, c.client, r1.1, r2.1, c.acked, ⟨c.op.kind, c.op.a, c.op.b, c.op.n⟩⟩ : DCommand), by rw [hm]; rfl, ⟨fun h0 => absurd h0 (by rw [hm]; exact h2), ⟨hc.1, hc.2⟩⟩, hS.kp, hS.res _ i0⟩
 refine Mi ?_ (pR (2))
 refine on1 4 (J := ?_)
 refine Mq 32 true ?_ rfl
 refine Mi ?_ (pG [(33, .idx default 2)] (oc (rfl : (2 : Int) = ((2 : Nat) : Int)) (oc ((by omega) : 2 < 5) on)))
 refine Mp ?_ (vs := fun bs => [vs r2.2.1]) Try.call145 (fun bs w hS => codec_ReadNumber _ w (by first | assumption | omega | (simp only [emp_size]; omega)))
 have hzr3 := mRead_bd r2.2.1
 generalize hr3 : mRead r2.2.1 = r3 at hzr3 ⊢
 refine Msb 4 [vi c.kind, vi c.client, vi r1.1, vi r2.1, vi r3.1, vi c.op.kind, vs c.op.a, vs c.op.b, vi c.op.n] ?_
 refine Mdn (r3.2.2 = 0) (fun h3 => ?_) fun h3 => ?_
 rotate_left
 · refine Mt [ve, vi r3.2.2] fun bs w hS => ?_
   have hm : mBody c t = (c, emp, r3.2.2) := by grind [mBody]
   exact ⟨(⟨c.kind, c.client, r1.1, r2.1, r3.1, ⟨c.op.kind, c.op.a, c.op.b, c.op.n⟩⟩ : DCommand), by rw [hm]; rfl, ⟨fun h0 => absurd h0 (by rw [hm]; exact h3), ⟨hc.1, hc.2⟩⟩, hS.kp, hS.res _ i0⟩
 refine Mi ?_ (pR (3))
 refine on1 3 (J := ?_)
 refine Mq 32 true ?_ rfl
 refine Mi ?_ (pG [(33, .idx default 3)] (oc (rfl : (3 : Int) = ((3 : Nat) : Int)) (oc ((by omega) : 3 < 5) on)))
 refine Mp ?_ (vs := fun bs => [vs r3.2.1]) Try.call145 (fun bs w hS => codec_ReadNumber _ w (by first | assumption | omega | (simp only [emp_size]; omega)))
 have hzr4 := mRead_bd r3.2.1
 generalize hr4 : mRead r3.2.1 = r4 at hzr4 ⊢
 refine Msb 5 [vi c.kind, vi c.client, vi r1.1, vi r2.1, vi r3.1, vi r4.1, vs c.op.a, vs c.op.b, vi c.op.n] ?_
 refine Mdn (r4.2.2 = 0) (fun h4 => ?_) fun h4 => ?_
 rotate_left
 · refine Mt [ve, vi r4.2.2] fun bs w hS => ?_
   have hm : mBody c t = (c, emp, r4.2.2) := by grind [mBody]
   exact ⟨(⟨c.kind, c.client, r1.1, r2.1, r3.1, ⟨r4.1, c.op.a, c.op.b, c.op.n⟩⟩ : DCommand), by rw [hm]; rfl, ⟨fun h0 => absurd h0 (by rw [hm]; exact h4), ⟨hc.1, hc.2⟩⟩, hS.kp, hS.res _ i0⟩
 refine Mi ?_ (pR (4))
 refine on1 2 (J := ?_)
 refine Mq 32 true ?_ rfl
 refine Mi ?_ (pG [(33, .idx default 4)] (oc (rfl : (4 : Int) = ((4 : Nat) : Int)) (oc ((by omega) : 4 < 5) on)))
 refine Mp ?_ (vs := fun bs => [vs r4.2.1]) Try.call145 (fun bs w hS => codec_ReadNumber _ w (by first | assumption | omega | (simp only [emp_size]; omega)))
 have hzr5 := mRead_bd r4.2.1
 generalize hr5 : mRead r4.2.1 = r5 at hzr5 ⊢
 refine Msb 8 [vi c.kind, vi c.client, vi r1.1, vi r2.1, vi r3.1, vi r4.1, vs c.op.a, vs c.op.b, vi r5.1] ?_
 refine Mdn (r5.2.2 = 0) (fun h5 => ?_) fun h5 => ?_
 rotate_left
 · refine Mt [ve, vi r5.2.2] fun bs w hS => ?_
   have hm : mBody c t = (c, emp, r5.2.2) := by grind [mBody]
   exact ⟨(⟨c.kind, c.client, r1.1, r2.1, r3.1, ⟨r4.1, c.op.a, c.op.b, r5.1⟩⟩ : DCommand), by rw [hm]; rfl, ⟨fun h0 => absurd h0 (by rw [hm]; exact h5), ⟨hc.1, hc.2⟩⟩, hS.kp, hS.res _ i0⟩
 refine Mi ?_ (pR (5))
 refine on1 1 (J := ?_)
 refine Mq 32 false ?_ rfl
 refine Mdr 11 ?_ Try_mixed
 refine M1 ?_
 refine Mz ?_
 refine Mun 3 fun _ on2 => ?_
 refine Mq 58 true ?_ rfl
 refine Mi ?_ (pG [(59, .idx default 0)] (oc (rfl : (0 : Int) = ((0 : Nat) : Int)) (oc ((by omega) : 0 < 2) on)))
 refine Mp ?_ (vs := fun bs => [vs r5.2.1]) Try.call146 (fun bs w hS => codec_ReadText _ w (by first | assumption | omega | (simp only [emp_size]; omega)))
 have hzr6 := mTell_bd r5.2.1
 generalize hr6 : mTell r5.2.1 = r6 at hzr6 ⊢
 refine Msb 6 [vi c.kind, vi c.client, vi r1.1, vi r2.1, vi r3.1, vi r4.1, vs r6.1, vs c.op.b, vi r5.1] ?_
 refine Mdn (r6.2.2 = 0) (fun h6 => ?_) fun h6 => ?_
 rotate_left
 · refine Mt [ve, vi r6.2.2] fun bs w hS => ?_
   have hm : mBody c t = (c, emp, r6.2.2) := by grind [mBody]
   exact ⟨(⟨c.kind, c.client, r1.1, r2.1, r3.1, ⟨r4.1, r6.1, c.op.b, r5.1⟩⟩ : DCommand), by rw [hm]; rfl, ⟨fun h0 => absurd h0 (by rw [hm]; exact h6), ⟨(show r6.1.size ≤ 9223372036854775807 by omega), hc.2⟩⟩, hS.kp, hS.res _ i0⟩
 refine Mi ?_ (pR (1))
 refine on2 2 (J := ?_)
 refine Mq 58 true ?_ rfl
 refine Mi ?_ (pG [(59, .idx default 1)] (oc (rfl : (1 : Int) = ((1 : Nat) : Int)) (oc ((by omega) : 1 < 2) on)))
 refine Mp ?_ (vs := fun bs => [vs r6.2.1]) Try.call146 (fun bs w hS => codec_ReadText _ w (by first | assumption | omega | (simp only [emp_size]; omega)))
 have hzr7 := mTell_bd r6.2.1
 generalize hr7 : mTell r6.2.1 = r7 at hzr7 ⊢
 refine Msb 7 [vi c.kind, vi c.client, vi r1.1, vi r2.1, vi r3.1, vi r4.1, vs r6.1, vs r7.1, vi r5.1] ?_
 refine Mdn (r7.2.2 = 0) (fun h7 => ?_) fun h7 => ?_
 rotate_left
 · refine Mt [ve, vi r7.2.2] fun bs w hS => ?_
   have hm : mBody c t = (c, emp, r7.2.2) := by grind [mBody]
   exact ⟨(⟨c.kind, c.client, r1.1, r2.1, r3.1, ⟨r4.1, r6.1, r7.1, r5.1⟩⟩ : DCommand), by rw [hm]; rfl, ⟨fun h0 => absurd h0 (by rw [hm]; exact h7), ⟨(show r6.1.size ≤ 9223372036854775807 by omega), (show r7.1.size ≤ 9223372036854775807 by omega)⟩⟩, hS.kp, hS.res _ i0⟩
 refine Mi ?_ (pR (2))
 refine on2 1 (J := ?_)
 refine Mq 58 false ?_ rfl
 refine Mt [vs r7.2.1, vi 0] fun bs w hS => ?_
 have hm : mBody c t = ((⟨c.kind, c.client, r1.1, r2.1, r3.1, ⟨r4.1, r6.1, r7.1, r5.1⟩⟩ : DCommand), r7.2.1, 0) := by grind [mBody]
 exact ⟨(⟨c.kind, c.client, r1.1, r2.1, r3.1, ⟨r4.1, r6.1, r7.1, r5.1⟩⟩ : DCommand), by rw [hm]; rfl, ⟨fun _ => by rw [hm], ⟨(show r6.1.size ≤ 9223372036854775807 by omega), (show r7.1.size ≤ 9223372036854775807 by omega)⟩⟩, hS.kp, hS.res _ i0⟩

theorem command_Decode (s : ByteArray) (w : World) (hs : s.size ≤ 9223372036854775807) : Calls Try.prog 79 #[vs s] w fun e w' => e = .returned (.tuple #[(mDecode s).1.val, vi (mDecode s).2]) ∧ Kp [] w w' := by
 have hu0 := (s.data.getD 0 0).toNat_lt
 have hu1 := (s.data.getD 1 0).toNat_lt
 have hex : (s.extract 2 s.size).size ≤ s.size := by simp
 refine M0 ?_ Try.func79
 refine Md ((5000 : Int) < (s.size : Int)) (fun h1 => ?_) fun h1 => ?_
 · refine Mt [vC, vi 1] fun bs w hS => ?_
   refine ⟨?_, hS.kp⟩
   have hm : mDecode s = ((⟨0, 0, 0, 0, 0, ⟨0, emp, emp, 0⟩⟩ : DCommand), 1) := by
     have hk : (cmd0 s).kind = ((s.data.getD 0 0).toNat : Int) := rfl
     unfold mDecode
     repeat (first | rw [if_pos (by omega)] | rw [if_neg (by omega)])
     rfl
   rw [hm]
   rfl
 refine Md ((s.size : Int) < 2) (fun h2 => ?_) fun h2 => ?_
 · refine Mt [vC, vi 5] fun bs w hS => ?_
   refine ⟨?_, hS.kp⟩
   have hm : mDecode s = ((⟨0, 0, 0, 0, 0, ⟨0, emp, emp, 0⟩⟩ : DCommand), 5) := by
     have hk : (cmd0 s).kind = ((s.data.getD 0 0).toNat : Int) := rfl
     unfold mDecode
     repeat (first | rw [if_pos (by omega)] | rw [if_neg (by omega)])
     rfl
   rw [hm]
   rfl
 refine Mda 8 [] [] [] Try_mixed ?_
 refine Mih ?_ (pc (pG [(16, .sidx 0)] (oc (rfl : (0 : Int) = ((0 : Nat) : Int)) (oc ((by omega) : 0 < s.size) on))) (pc (pP (0 ≤ ((s.data.getD 0 0).toNat : Int))) (pc (pP (((s.data.getD 0 0).toNat : Int) ≤ 255)) (pc (pG [(19, .sidx 1)] (oc (rfl : (1 : Int) = ((1 : Nat) : Int)) (oc ((by omega) : 1 < s.size) on))) (pc (pP (0 ≤ ((s.data.getD 1 0).toNat : Int))) (pP (((s.data.getD 1 0).toNat : Int) ≤ 255)))))))
 refine Mi ?_ (pG [(23, .sl 2 s.size)] (oc (rfl : (2 : Int) = ((2 : Nat) : Int)) (oc (rfl : s.size = s.size) (oc ((by omega) : 2 ≤ s.size) on))))
 refine Md (((s.data.getD 0 0).toNat : Int) = 2) (fun h3 => ?_) fun h3 => ?_
 rotate_left
 · refine Mdn ((s.extract 2 s.size) = emp) (fun h7 => ?_) fun h7 => ?_
   rotate_left
   · refine Mt [vC, vi 4] fun bs w hS => ?_
     refine ⟨?_, hS.kp⟩
     have hm : mDecode s = ((⟨0, 0, 0, 0, 0, ⟨0, emp, emp, 0⟩⟩ : DCommand), 4) := by
       have hk : (cmd0 s).kind = ((s.data.getD 0 0).toNat : Int) := rfl
       unfold mDecode
       repeat (first | rw [if_pos (by omega)] | rw [if_neg (by omega)])
       all_goals (simp only [mFin, cmd0, zOp, h7, ne_eq, not_true_eq_false, not_false_eq_true, if_true, if_false, reduceIte]; try rfl)
     rw [hm]
     rfl
   have hzh7 : (s.extract 2 s.size).size = 0 := by rw [h7]; rfl
   refine Mp ?_ Try.call120 (fun bs w hS => command_Check (B := anyB) (⟨((s.data.getD 0 0).toNat : Int), ((s.data.getD 1 0).toNat : Int), 0, 0, 0, ⟨0, emp, emp, 0⟩⟩ : DCommand) w ⟨(show emp.size ≤ 9223372036854775807 from (by first | assumption | omega | (simp only [emp_size]; omega))), (show emp.size ≤ 9223372036854775807 from (by first | assumption | omega | (simp only [emp_size]; omega)))⟩)
   refine Mdn (mCmd (⟨((s.data.getD 0 0).toNat : Int), ((s.data.getD 1 0).toNat : Int), 0, 0, 0, ⟨0, emp, emp, 0⟩⟩ : DCommand) = 0) (fun h8 => ?_) fun h8 => ?_
   · refine Mt [.agg #[vi ((s.data.getD 0 0).toNat : Int), vi ((s.data.getD 1 0).toNat : Int), vi 0, vi 0, vi 0, vi 0, ve, ve, vi 0], vi 0] fun bs w hS => ?_
     refine ⟨?_, hS.kp⟩
     have hm : mDecode s = ((⟨((s.data.getD 0 0).toNat : Int), ((s.data.getD 1 0).toNat : Int), 0, 0, 0, ⟨0, emp, emp, 0⟩⟩ : DCommand), 0) := by
       have hk : (cmd0 s).kind = ((s.data.getD 0 0).toNat : Int) := rfl
       unfold mDecode
       repeat (first | rw [if_pos (by omega)] | rw [if_neg (by omega)])
       all_goals (simp only [mFin, cmd0, zOp, h7, h8, ne_eq, not_true_eq_false, not_false_eq_true, if_true, if_false, reduceIte]; try rfl)
     rw [hm]
     rfl
   refine Mt [vC, vi (mCmd (⟨((s.data.getD 0 0).toNat : Int), ((s.data.getD 1 0).toNat : Int), 0, 0, 0, ⟨0, emp, emp, 0⟩⟩ : DCommand))] fun bs w hS => ?_
   refine ⟨?_, hS.kp⟩
   have hm : mDecode s = ((⟨0, 0, 0, 0, 0, ⟨0, emp, emp, 0⟩⟩ : DCommand), mCmd (⟨((s.data.getD 0 0).toNat : Int), ((s.data.getD 1 0).toNat : Int), 0, 0, 0, ⟨0, emp, emp, 0⟩⟩ : DCommand)) := by
     have hk : (cmd0 s).kind = ((s.data.getD 0 0).toNat : Int) := rfl
     unfold mDecode
     repeat (first | rw [if_pos (by omega)] | rw [if_neg (by omega)])
     all_goals (simp only [mFin, cmd0, zOp, h7, h8, ne_eq, not_true_eq_false, not_false_eq_true, if_true, if_false, reduceIte]; try rfl)
   rw [hm]
   rfl
 refine Mo 1 ?_ Try.call119 (fun bs w hS hb => command_body (⟨((s.data.getD 0 0).toNat : Int), ((s.data.getD 1 0).toNat : Int), 0, 0, 0, ⟨0, emp, emp, 0⟩⟩ : DCommand) (bs.getD 1 0) (s.extract 2 s.size) w hb (by first | assumption | omega | (simp only [emp_size]; omega)) ⟨(by simp [emp_size]), (by simp [emp_size])⟩)
 rintro y1 ⟨hF1, hG1⟩
 generalize hbd : mBody (⟨((s.data.getD 0 0).toNat : Int), ((s.data.getD 1 0).toNat : Int), 0, 0, 0, ⟨0, emp, emp, 0⟩⟩ : DCommand) (s.extract 2 s.size) = bd at hF1 ⊢
 refine Mdn (bd.2.2 = 0) (fun h4 => ?_) fun h4 => ?_
 rotate_left
 · refine Mt [vC, vi bd.2.2] fun bs w hS => ?_
   refine ⟨?_, hS.kp⟩
   have hm : mDecode s = ((⟨0, 0, 0, 0, 0, ⟨0, emp, emp, 0⟩⟩ : DCommand), bd.2.2) := by
     have hk : (cmd0 s).kind = ((s.data.getD 0 0).toNat : Int) := rfl
     unfold mDecode
     repeat (first | rw [if_pos (by omega)] | rw [if_neg (by omega)])
     rw [show mBody (cmd0 s) (s.extract 2 s.size) = bd from hbd]
     all_goals (simp only [mFin, cmd0, zOp, h4, ne_eq, not_true_eq_false, not_false_eq_true, if_true, if_false, reduceIte]; try rfl)
   rw [hm]
   rfl
 refine Mdn (bd.2.1 = emp) (fun h5 => ?_) fun h5 => ?_
 rotate_left
 · refine Mt [vC, vi 4] fun bs w hS => ?_
   refine ⟨?_, hS.kp⟩
   have hm : mDecode s = ((⟨0, 0, 0, 0, 0, ⟨0, emp, emp, 0⟩⟩ : DCommand), 4) := by
     have hk : (cmd0 s).kind = ((s.data.getD 0 0).toNat : Int) := rfl
     unfold mDecode
     repeat (first | rw [if_pos (by omega)] | rw [if_neg (by omega)])
     rw [show mBody (cmd0 s) (s.extract 2 s.size) = bd from hbd]
     have hbz : bd.2.2 = 0 := by assumption
     all_goals (simp only [mFin, cmd0, zOp, ← hF1 hbz, h4, h5, ne_eq, not_true_eq_false, not_false_eq_true, if_true, if_false, reduceIte]; try rfl)
   rw [hm]
   rfl
 have hzh5 : bd.2.1.size = 0 := by rw [h5]; rfl
 refine Mp ?_ Try.call120 (fun bs w hS => command_Check (B := anyB) y1 w hG1)
 refine Mdn (mCmd y1 = 0) (fun h6 => ?_) fun h6 => ?_
 rotate_left
 · refine Mt [vC, vi (mCmd y1)] fun bs w hS => ?_
   refine ⟨?_, hS.kp⟩
   have hm : mDecode s = ((⟨0, 0, 0, 0, 0, ⟨0, emp, emp, 0⟩⟩ : DCommand), mCmd y1) := by
     have hk : (cmd0 s).kind = ((s.data.getD 0 0).toNat : Int) := rfl
     unfold mDecode
     repeat (first | rw [if_pos (by omega)] | rw [if_neg (by omega)])
     rw [show mBody (cmd0 s) (s.extract 2 s.size) = bd from hbd]
     have hbz : bd.2.2 = 0 := by assumption
     all_goals (simp only [mFin, cmd0, zOp, ← hF1 hbz, h4, h5, h6, ne_eq, not_true_eq_false, not_false_eq_true, if_true, if_false, reduceIte]; try rfl)
   rw [hm]
   rfl
 refine Mt [y1.val, vi 0] fun bs w hS => ?_
 refine ⟨?_, hS.kp⟩
 have hm : mDecode s = ((⟨y1.kind, y1.client, y1.session, y1.seq, y1.acked, ⟨y1.op.kind, y1.op.a, y1.op.b, y1.op.n⟩⟩ : DCommand), 0) := by
   have hk : (cmd0 s).kind = ((s.data.getD 0 0).toNat : Int) := rfl
   unfold mDecode
   repeat (first | rw [if_pos (by omega)] | rw [if_neg (by omega)])
   rw [show mBody (cmd0 s) (s.extract 2 s.size) = bd from hbd]
   have hbz : bd.2.2 = 0 := by assumption
   all_goals (simp only [mFin, cmd0, zOp, ← hF1 hbz, h4, h5, h6, ne_eq, not_true_eq_false, not_false_eq_true, if_true, if_false, reduceIte]; try rfl)
 rw [hm]
 rfl

theorem ref_CommandOf (s : ByteArray) (w : World) (hs : s.size ≤ 9223372036854775807) : Calls Try.prog 82 #[vs s] w fun e w' => e = .returned (.tuple #[(mDecode s).1.val, vi (mDecode s).2]) ∧ Kp [] w w' := by
 have hu0 := (s.data.getD 0 0).toNat_lt
 have hu1 := (s.data.getD 1 0).toNat_lt
 have hex : (s.extract 2 s.size).size ≤ s.size := by simp
 refine M0 ?_ Try.func82
 refine Md ((5000 : Int) < (s.size : Int)) (fun h1 => ?_) fun h1 => ?_
 · refine Mt [vC, vi 1] fun bs w hS => ?_
   refine ⟨?_, hS.kp⟩
   have hm : mDecode s = ((⟨0, 0, 0, 0, 0, ⟨0, emp, emp, 0⟩⟩ : DCommand), 1) := by
     have hk : (cmd0 s).kind = ((s.data.getD 0 0).toNat : Int) := rfl
     unfold mDecode
     repeat (first | rw [if_pos (by omega)] | rw [if_neg (by omega)])
     rfl
   rw [hm]
   rfl
 refine Md ((s.size : Int) < 2) (fun h2 => ?_) fun h2 => ?_
 · refine Mt [vC, vi 5] fun bs w hS => ?_
   refine ⟨?_, hS.kp⟩
   have hm : mDecode s = ((⟨0, 0, 0, 0, 0, ⟨0, emp, emp, 0⟩⟩ : DCommand), 5) := by
     have hk : (cmd0 s).kind = ((s.data.getD 0 0).toNat : Int) := rfl
     unfold mDecode
     repeat (first | rw [if_pos (by omega)] | rw [if_neg (by omega)])
     rfl
   rw [hm]
   rfl
 refine Mda 8 [] [] [] Try_mixed ?_
 refine Mih ?_ (pc (pG [(27, .sidx 0)] (oc (rfl : (0 : Int) = ((0 : Nat) : Int)) (oc ((by omega) : 0 < s.size) on))) (pc (pP (0 ≤ ((s.data.getD 0 0).toNat : Int))) (pc (pP (((s.data.getD 0 0).toNat : Int) ≤ 255)) (pc (pG [(30, .sidx 1)] (oc (rfl : (1 : Int) = ((1 : Nat) : Int)) (oc ((by omega) : 1 < s.size) on))) (pc (pP (0 ≤ ((s.data.getD 1 0).toNat : Int))) (pP (((s.data.getD 1 0).toNat : Int) ≤ 255)))))))
 refine Mi ?_ (pG [(34, .sl 2 s.size)] (oc (rfl : (2 : Int) = ((2 : Nat) : Int)) (oc (rfl : s.size = s.size) (oc ((by omega) : 2 ≤ s.size) on))))
 refine Md (((s.data.getD 0 0).toNat : Int) = 2) (fun h3 => ?_) fun h3 => ?_
 rotate_left
 · refine Mdn ((s.extract 2 s.size) = emp) (fun h13 => ?_) fun h13 => ?_
   rotate_left
   · refine Mt [vC, vi 4] fun bs w hS => ?_
     refine ⟨?_, hS.kp⟩
     have hm : mDecode s = ((⟨0, 0, 0, 0, 0, ⟨0, emp, emp, 0⟩⟩ : DCommand), 4) := by
       have hk : (cmd0 s).kind = ((s.data.getD 0 0).toNat : Int) := rfl
       unfold mDecode
       repeat (first | rw [if_pos (by omega)] | rw [if_neg (by omega)])
       all_goals (simp only [mFin, mBody, cmd0, zOp, h13, ne_eq, not_true_eq_false, not_false_eq_true, if_true, if_false, reduceIte]; try rfl)
     rw [hm]
     rfl
   have hzh13 : (s.extract 2 s.size).size = 0 := by rw [h13]; rfl
   refine Mp ?_ Try.call123 (fun bs w hS => ref_CommandFault (B := anyB) (⟨((s.data.getD 0 0).toNat : Int), ((s.data.getD 1 0).toNat : Int), 0, 0, 0, ⟨0, emp, emp, 0⟩⟩ : DCommand) w ⟨(show emp.size ≤ 9223372036854775807 from (by first | assumption | omega | (simp only [emp_size]; omega))), (show emp.size ≤ 9223372036854775807 from (by first | assumption | omega | (simp only [emp_size]; omega)))⟩)
   refine Mdn (mCmd (⟨((s.data.getD 0 0).toNat : Int), ((s.data.getD 1 0).toNat : Int), 0, 0, 0, ⟨0, emp, emp, 0⟩⟩ : DCommand) = 0) (fun h14 => ?_) fun h14 => ?_
   · refine Mt [.agg #[vi ((s.data.getD 0 0).toNat : Int), vi ((s.data.getD 1 0).toNat : Int), vi 0, vi 0, vi 0, vi 0, ve, ve, vi 0], vi 0] fun bs w hS => ?_
     refine ⟨?_, hS.kp⟩
     have hm : mDecode s = ((⟨((s.data.getD 0 0).toNat : Int), ((s.data.getD 1 0).toNat : Int), 0, 0, 0, ⟨0, emp, emp, 0⟩⟩ : DCommand), 0) := by
       have hk : (cmd0 s).kind = ((s.data.getD 0 0).toNat : Int) := rfl
       unfold mDecode
       repeat (first | rw [if_pos (by omega)] | rw [if_neg (by omega)])
       all_goals (simp only [mFin, mBody, cmd0, zOp, h13, h14, ne_eq, not_true_eq_false, not_false_eq_true, if_true, if_false, reduceIte]; try rfl)
     rw [hm]
     rfl
   refine Mt [vC, vi (mCmd (⟨((s.data.getD 0 0).toNat : Int), ((s.data.getD 1 0).toNat : Int), 0, 0, 0, ⟨0, emp, emp, 0⟩⟩ : DCommand))] fun bs w hS => ?_
   refine ⟨?_, hS.kp⟩
   have hm : mDecode s = ((⟨0, 0, 0, 0, 0, ⟨0, emp, emp, 0⟩⟩ : DCommand), mCmd (⟨((s.data.getD 0 0).toNat : Int), ((s.data.getD 1 0).toNat : Int), 0, 0, 0, ⟨0, emp, emp, 0⟩⟩ : DCommand)) := by
     have hk : (cmd0 s).kind = ((s.data.getD 0 0).toNat : Int) := rfl
     unfold mDecode
     repeat (first | rw [if_pos (by omega)] | rw [if_neg (by omega)])
     all_goals (simp only [mFin, mBody, cmd0, zOp, h13, h14, ne_eq, not_true_eq_false, not_false_eq_true, if_true, if_false, reduceIte]; try rfl)
   rw [hm]
   rfl
 refine Mun 6 fun _ on1 => ?_
 refine Mq 39 true ?_ rfl
 refine Mp ?_ (vs := fun bs => [vs (s.extract 2 s.size)]) Try.call121 (fun bs w hS => ref_NumberOf _ w (by first | assumption | omega | (simp only [emp_size]; omega)))
 have hzr1 := mRead_bd (s.extract 2 s.size)
 generalize hr1 : mRead (s.extract 2 s.size) = r1 at hzr1 ⊢
 refine Mdn (r1.2.2 = 0) (fun h4 => ?_) fun h4 => ?_
 rotate_left
 · refine Mt [vC, vi r1.2.2] fun bs w hS => ?_
   refine ⟨?_, hS.kp⟩
   have hm : mDecode s = ((⟨0, 0, 0, 0, 0, ⟨0, emp, emp, 0⟩⟩ : DCommand), r1.2.2) := by
     have hk : (cmd0 s).kind = ((s.data.getD 0 0).toNat : Int) := rfl
     unfold mDecode
     repeat (first | rw [if_pos (by omega)] | rw [if_neg (by omega)])
     all_goals (simp only [mFin, mBody, cmd0, zOp, hr1, h4, ne_eq, not_true_eq_false, not_false_eq_true, if_true, if_false, reduceIte]; try rfl)
   rw [hm]
   rfl
 refine Mi ?_ (pc (pG [(54, .idx default 0)] (oc (rfl : (0 : Int) = ((0 : Nat) : Int)) (oc ((by omega) : 0 < 5) on))) (pR (1)))
 refine on1 5 (J := ?_)
 refine Mq 39 true ?_ rfl
 refine Mp ?_ (vs := fun bs => [vs r1.2.1]) Try.call121 (fun bs w hS => ref_NumberOf _ w (by first | assumption | omega | (simp only [emp_size]; omega)))
 have hzr2 := mRead_bd r1.2.1
 generalize hr2 : mRead r1.2.1 = r2 at hzr2 ⊢
 refine Mdn (r2.2.2 = 0) (fun h5 => ?_) fun h5 => ?_
 rotate_left
 · refine Mt [vC, vi r2.2.2] fun bs w hS => ?_
   refine ⟨?_, hS.kp⟩
   have hm : mDecode s = ((⟨0, 0, 0, 0, 0, ⟨0, emp, emp, 0⟩⟩ : DCommand), r2.2.2) := by
     have hk : (cmd0 s).kind = ((s.data.getD 0 0).toNat : Int) := rfl
     unfold mDecode
     repeat (first | rw [if_pos (by omega)] | rw [if_neg (by omega)])
     all_goals (simp only [mFin, mBody, cmd0, zOp, hr1, hr2, h4, h5, ne_eq, not_true_eq_false, not_false_eq_true, if_true, if_false, reduceIte]; try rfl)
   rw [hm]
   rfl
 refine Mi ?_ (pc (pG [(54, .idx default 1)] (oc (rfl : (1 : Int) = ((1 : Nat) : Int)) (oc ((by omega) : 1 < 5) on))) (pR (2)))
 refine on1 4 (J := ?_)
 refine Mq 39 true ?_ rfl
 refine Mp ?_ (vs := fun bs => [vs r2.2.1]) Try.call121 (fun bs w hS => ref_NumberOf _ w (by first | assumption | omega | (simp only [emp_size]; omega)))
 have hzr3 := mRead_bd r2.2.1
 generalize hr3 : mRead r2.2.1 = r3 at hzr3 ⊢
 refine Mdn (r3.2.2 = 0) (fun h6 => ?_) fun h6 => ?_
 rotate_left
 · refine Mt [vC, vi r3.2.2] fun bs w hS => ?_
   refine ⟨?_, hS.kp⟩
   have hm : mDecode s = ((⟨0, 0, 0, 0, 0, ⟨0, emp, emp, 0⟩⟩ : DCommand), r3.2.2) := by
     have hk : (cmd0 s).kind = ((s.data.getD 0 0).toNat : Int) := rfl
     unfold mDecode
     repeat (first | rw [if_pos (by omega)] | rw [if_neg (by omega)])
     all_goals (simp only [mFin, mBody, cmd0, zOp, hr1, hr2, hr3, h4, h5, h6, ne_eq, not_true_eq_false, not_false_eq_true, if_true, if_false, reduceIte]; try rfl)
   rw [hm]
   rfl
 refine Mi ?_ (pc (pG [(54, .idx default 2)] (oc (rfl : (2 : Int) = ((2 : Nat) : Int)) (oc ((by omega) : 2 < 5) on))) (pR (3)))
 refine on1 3 (J := ?_)
 refine Mq 39 true ?_ rfl
 refine Mp ?_ (vs := fun bs => [vs r3.2.1]) Try.call121 (fun bs w hS => ref_NumberOf _ w (by first | assumption | omega | (simp only [emp_size]; omega)))
 have hzr4 := mRead_bd r3.2.1
 generalize hr4 : mRead r3.2.1 = r4 at hzr4 ⊢
 refine Mdn (r4.2.2 = 0) (fun h7 => ?_) fun h7 => ?_
 rotate_left
 · refine Mt [vC, vi r4.2.2] fun bs w hS => ?_
   refine ⟨?_, hS.kp⟩
   have hm : mDecode s = ((⟨0, 0, 0, 0, 0, ⟨0, emp, emp, 0⟩⟩ : DCommand), r4.2.2) := by
     have hk : (cmd0 s).kind = ((s.data.getD 0 0).toNat : Int) := rfl
     unfold mDecode
     repeat (first | rw [if_pos (by omega)] | rw [if_neg (by omega)])
     all_goals (simp only [mFin, mBody, cmd0, zOp, hr1, hr2, hr3, hr4, h4, h5, h6, h7, ne_eq, not_true_eq_false, not_false_eq_true, if_true, if_false, reduceIte]; try rfl)
   rw [hm]
   rfl
 refine Mi ?_ (pc (pG [(54, .idx default 3)] (oc (rfl : (3 : Int) = ((3 : Nat) : Int)) (oc ((by omega) : 3 < 5) on))) (pR (4)))
 refine on1 2 (J := ?_)
 refine Mq 39 true ?_ rfl
 refine Mp ?_ (vs := fun bs => [vs r4.2.1]) Try.call121 (fun bs w hS => ref_NumberOf _ w (by first | assumption | omega | (simp only [emp_size]; omega)))
 have hzr5 := mRead_bd r4.2.1
 generalize hr5 : mRead r4.2.1 = r5 at hzr5 ⊢
 refine Mdn (r5.2.2 = 0) (fun h8 => ?_) fun h8 => ?_
 rotate_left
 · refine Mt [vC, vi r5.2.2] fun bs w hS => ?_
   refine ⟨?_, hS.kp⟩
   have hm : mDecode s = ((⟨0, 0, 0, 0, 0, ⟨0, emp, emp, 0⟩⟩ : DCommand), r5.2.2) := by
     have hk : (cmd0 s).kind = ((s.data.getD 0 0).toNat : Int) := rfl
     unfold mDecode
     repeat (first | rw [if_pos (by omega)] | rw [if_neg (by omega)])
     all_goals (simp only [mFin, mBody, cmd0, zOp, hr1, hr2, hr3, hr4, hr5, h4, h5, h6, h7, h8, ne_eq, not_true_eq_false, not_false_eq_true, if_true, if_false, reduceIte]; try rfl)
   rw [hm]
   rfl
 refine Mi ?_ (pc (pG [(54, .idx default 4)] (oc (rfl : (4 : Int) = ((4 : Nat) : Int)) (oc ((by omega) : 4 < 5) on))) (pR (5)))
 refine on1 1 (J := ?_)
 refine Mq 39 false ?_ rfl
 refine Mi ?_ (pc (pG [(56, .idx default 0)] (oc (rfl : (0 : Int) = ((0 : Nat) : Int)) (oc ((by omega) : 0 < 5) on))) (pc (pG [(59, .idx default 1)] (oc (rfl : (1 : Int) = ((1 : Nat) : Int)) (oc ((by omega) : 1 < 5) on))) (pc (pG [(62, .idx default 2)] (oc (rfl : (2 : Int) = ((2 : Nat) : Int)) (oc ((by omega) : 2 < 5) on))) (pc (pG [(65, .idx default 3)] (oc (rfl : (3 : Int) = ((3 : Nat) : Int)) (oc ((by omega) : 3 < 5) on))) (pG [(69, .idx default 4)] (oc (rfl : (4 : Int) = ((4 : Nat) : Int)) (oc ((by omega) : 4 < 5) on)))))))
 refine Mp ?_ (vs := fun bs => [vs r5.2.1]) Try.call122 (fun bs w hS => ref_TextOf _ w (by first | assumption | omega | (simp only [emp_size]; omega)))
 have hzr6 := mTell_bd r5.2.1
 generalize hr6 : mTell r5.2.1 = r6 at hzr6 ⊢
 refine Mdn (r6.2.2 = 0) (fun h9 => ?_) fun h9 => ?_
 rotate_left
 · refine Mt [vC, vi r6.2.2] fun bs w hS => ?_
   refine ⟨?_, hS.kp⟩
   have hm : mDecode s = ((⟨0, 0, 0, 0, 0, ⟨0, emp, emp, 0⟩⟩ : DCommand), r6.2.2) := by
     have hk : (cmd0 s).kind = ((s.data.getD 0 0).toNat : Int) := rfl
     unfold mDecode
     repeat (first | rw [if_pos (by omega)] | rw [if_neg (by omega)])
     all_goals (simp only [mFin, mBody, cmd0, zOp, hr1, hr2, hr3, hr4, hr5, hr6, h4, h5, h6, h7, h8, h9, ne_eq, not_true_eq_false, not_false_eq_true, if_true, if_false, reduceIte]; try rfl)
   rw [hm]
   rfl
 refine Mp ?_ (vs := fun bs => [vs r6.2.1]) Try.call122 (fun bs w hS => ref_TextOf _ w (by first | assumption | omega | (simp only [emp_size]; omega)))
 have hzr7 := mTell_bd r6.2.1
 generalize hr7 : mTell r6.2.1 = r7 at hzr7 ⊢
 refine Mdn (r7.2.2 = 0) (fun h10 => ?_) fun h10 => ?_
 rotate_left
 · refine Mt [vC, vi r7.2.2] fun bs w hS => ?_
   refine ⟨?_, hS.kp⟩
   have hm : mDecode s = ((⟨0, 0, 0, 0, 0, ⟨0, emp, emp, 0⟩⟩ : DCommand), r7.2.2) := by
     have hk : (cmd0 s).kind = ((s.data.getD 0 0).toNat : Int) := rfl
     unfold mDecode
     repeat (first | rw [if_pos (by omega)] | rw [if_neg (by omega)])
     all_goals (simp only [mFin, mBody, cmd0, zOp, hr1, hr2, hr3, hr4, hr5, hr6, hr7, h4, h5, h6, h7, h8, h9, h10, ne_eq, not_true_eq_false, not_false_eq_true, if_true, if_false, reduceIte]; try rfl)
   rw [hm]
   rfl
 refine Mdn (r7.2.1 = emp) (fun h11 => ?_) fun h11 => ?_
 rotate_left
 · refine Mt [vC, vi 4] fun bs w hS => ?_
   refine ⟨?_, hS.kp⟩
   have hm : mDecode s = ((⟨0, 0, 0, 0, 0, ⟨0, emp, emp, 0⟩⟩ : DCommand), 4) := by
     have hk : (cmd0 s).kind = ((s.data.getD 0 0).toNat : Int) := rfl
     unfold mDecode
     repeat (first | rw [if_pos (by omega)] | rw [if_neg (by omega)])
     all_goals (simp only [mFin, mBody, cmd0, zOp, hr1, hr2, hr3, hr4, hr5, hr6, hr7, h4, h5, h6, h7, h8, h9, h10, h11, ne_eq, not_true_eq_false, not_false_eq_true, if_true, if_false, reduceIte]; try rfl)
   rw [hm]
   rfl
 have hzh11 : r7.2.1.size = 0 := by rw [h11]; rfl
 refine Mp ?_ Try.call123 (fun bs w hS => ref_CommandFault (B := anyB) (⟨((s.data.getD 0 0).toNat : Int), ((s.data.getD 1 0).toNat : Int), r1.1, r2.1, r3.1, ⟨r4.1, r6.1, r7.1, r5.1⟩⟩ : DCommand) w ⟨(show r6.1.size ≤ 9223372036854775807 from (by first | assumption | omega | (simp only [emp_size]; omega))), (show r7.1.size ≤ 9223372036854775807 from (by first | assumption | omega | (simp only [emp_size]; omega)))⟩)
 refine Mdn (mCmd (⟨((s.data.getD 0 0).toNat : Int), ((s.data.getD 1 0).toNat : Int), r1.1, r2.1, r3.1, ⟨r4.1, r6.1, r7.1, r5.1⟩⟩ : DCommand) = 0) (fun h12 => ?_) fun h12 => ?_
 · refine Mt [.agg #[vi ((s.data.getD 0 0).toNat : Int), vi ((s.data.getD 1 0).toNat : Int), vi r1.1, vi r2.1, vi r3.1, vi r4.1, vs r6.1, vs r7.1, vi r5.1], vi 0] fun bs w hS => ?_
   refine ⟨?_, hS.kp⟩
   have hm : mDecode s = ((⟨((s.data.getD 0 0).toNat : Int), ((s.data.getD 1 0).toNat : Int), r1.1, r2.1, r3.1, ⟨r4.1, r6.1, r7.1, r5.1⟩⟩ : DCommand), 0) := by
     have hk : (cmd0 s).kind = ((s.data.getD 0 0).toNat : Int) := rfl
     unfold mDecode
     repeat (first | rw [if_pos (by omega)] | rw [if_neg (by omega)])
     all_goals (simp only [mFin, mBody, cmd0, zOp, hr1, hr2, hr3, hr4, hr5, hr6, hr7, h4, h5, h6, h7, h8, h9, h10, h11, h12, ne_eq, not_true_eq_false, not_false_eq_true, if_true, if_false, reduceIte]; try rfl)
   rw [hm]
   rfl
 refine Mt [vC, vi (mCmd (⟨((s.data.getD 0 0).toNat : Int), ((s.data.getD 1 0).toNat : Int), r1.1, r2.1, r3.1, ⟨r4.1, r6.1, r7.1, r5.1⟩⟩ : DCommand))] fun bs w hS => ?_
 refine ⟨?_, hS.kp⟩
 have hm : mDecode s = ((⟨0, 0, 0, 0, 0, ⟨0, emp, emp, 0⟩⟩ : DCommand), mCmd (⟨((s.data.getD 0 0).toNat : Int), ((s.data.getD 1 0).toNat : Int), r1.1, r2.1, r3.1, ⟨r4.1, r6.1, r7.1, r5.1⟩⟩ : DCommand)) := by
   have hk : (cmd0 s).kind = ((s.data.getD 0 0).toNat : Int) := rfl
   unfold mDecode
   repeat (first | rw [if_pos (by omega)] | rw [if_neg (by omega)])
   all_goals (simp only [mFin, mBody, cmd0, zOp, hr1, hr2, hr3, hr4, hr5, hr6, hr7, h4, h5, h6, h7, h8, h9, h10, h11, h12, ne_eq, not_true_eq_false, not_false_eq_true, if_true, if_false, reduceIte]; try rfl)
 rw [hm]
 rfl

theorem log_Check {B : Nat → Prop} (x : CLog) (w : World) (hx : Rds.sub B w x) : Calls Try.prog 76 #[x.val] w fun e w' => e = .returned (vi (mLog x.abs)) ∧ Kp [] w w' := by
 have okx := Rds.okof hx
 have ncx := Sl.ok.nc okx
 have hnx : x.entries.n = x.entries.xs.length := rfl
 have q1 : x.abs.base = x.base := rfl
 have q2 : x.abs.entries = x.entries.xs := rfl
 have hat : ∀ q, x.entries.xs.getD q default = x.entries.at q := fun _ => rfl
 refine M0 ?_ Try.func76
 refine Md (x.base < 0) (fun h1 => ?_) fun h1 => ?_
 · have hm : mLog x.abs = 2 := by
     unfold mLog; rw [q1, q2]
     first | rw [if_pos (by omega)] | rw [if_neg (by omega), if_pos (by omega)]
   exact Me0 2 hm
 refine Md ((1073741424 : Int) < x.base) (fun h2 => ?_) fun h2 => ?_
 · have hm : mLog x.abs = 2 := by
     unfold mLog; rw [q1, q2]
     first | rw [if_pos (by omega)] | rw [if_neg (by omega), if_pos (by omega)]
   exact Me0 2 hm
 refine Md ((400 : Int) < (x.entries.n : Int)) (fun h3 => ?_) fun h3 => ?_
 · have hm : mLog x.abs = 1 := by
     unfold mLog; rw [q1, q2]
     first | rw [if_pos (by omega)] | rw [if_neg (by omega), if_pos (by omega)]
   exact Me0 1 hm
 refine Ml (σ := Nat) (fun i => i ≤ x.entries.n ∧ mLog x.abs = firstF (logF x.entries.xs) (x.entries.n - i) i) (fun i => x.entries.n - i) (fun _ => []) [22, 21, 20] (fun i => [(22, vI (i : Int))]) (fun _ => []) ?_ 0 ⟨Nat.zero_le _, by unfold mLog; rw [q1, q2, if_neg (by omega), if_neg (by omega)]⟩
 rintro i ⟨hi, hI⟩ _ on1
 refine Md ((i : Int) < (x.entries.n : Int)) (fun h4 => ?_) fun h4 => ?_
 rotate_left
 · exact Me0 0 (by rw [hI, firstF_end (by omega)])
 refine Mi ?_ (pA 24 25 (i : Int) i (s := x.entries) (fun w hk hr => (Rds.kp hx hk)))
 refine Mp ?_ Try.call79 (fun bs w hS => command_Decode (x.entries.at i) w (Sl.ok.at (s := x.entries) (i := i) okx (by omega)))
 refine Mdn ((mDecode (x.entries.at i)).2 = 0) (fun h5 => ?_) fun h5 => ?_
 · refine Mi ?_ (pR ((i : Int) + 1))
   have hf0 : logF x.entries.xs i = 0 := by grind [logF]
   exact on1 (i + 1) ⟨by omega, by rw [hI]; exact firstF_step (by omega) hf0⟩ (by omega)
 refine Me0 ((mDecode (x.entries.at i)).2) ?_
 have hf : logF x.entries.xs i = (mDecode (x.entries.at i)).2 := by unfold logF; rw [hat]
 rw [hI, firstF_here (by omega) hf (by assumption)]

theorem ref_LogFault {B : Nat → Prop} (x : CLog) (w : World) (hx : Rds.sub B w x) : Calls Try.prog 80 #[x.val] w fun e w' => e = .returned (vi (mLog x.abs)) ∧ Kp [] w w' := by
 have okx := Rds.okof hx
 have ncx := Sl.ok.nc okx
 have hnx : x.entries.n = x.entries.xs.length := rfl
 have q1 : x.abs.base = x.base := rfl
 have q2 : x.abs.entries = x.entries.xs := rfl
 have hat : ∀ q, x.entries.xs.getD q default = x.entries.at q := fun _ => rfl
 refine M0 ?_ Try.func80
 refine Mp ?_ Try.call56 (fun bs w hS => ref_In x.base 0 1073741424 w)
 refine Mbn (inB x.base 0 1073741424) (fun h1 => ?_) fun h1 => ?_
 rotate_left
 · simp only [iT, iF] at h1
   have hm : mLog x.abs = 2 := by
     unfold mLog; rw [q1, q2]
     first | rw [if_pos (by omega)] | rw [if_neg (by omega), if_pos (by omega)]
   exact Me0 2 hm
 simp only [iT, iF] at h1
 refine Md ((400 : Int) < (x.entries.n : Int)) (fun h2 => ?_) fun h2 => ?_
 · have hm : mLog x.abs = 1 := by
     unfold mLog; rw [q1, q2]
     first | rw [if_pos (by omega)] | rw [if_neg (by omega), if_pos (by omega)]
   exact Me0 1 hm
 refine Ml (σ := Nat) (fun i => i ≤ x.entries.n ∧ mLog x.abs = firstF (logF x.entries.xs) (x.entries.n - i) i) (fun i => x.entries.n - i) (fun _ => []) [3, 1] (fun i => [(3, vI (i : Int))]) (fun _ => []) ?_ 0 ⟨Nat.zero_le _, by unfold mLog; rw [q1, q2, if_neg (by omega), if_neg (by omega)]⟩
 rintro i ⟨hi, hI⟩ _ on1
 refine Md ((i : Int) < (x.entries.n : Int)) (fun h3 => ?_) fun h3 => ?_
 rotate_left
 · exact Me0 0 (by rw [hI, firstF_end (by omega)])
 refine Mi ?_ (pA 25 26 (i : Int) i (s := x.entries) (fun w hk hr => (Rds.kp hx hk)))
 refine Mp ?_ Try.call82 (fun bs w hS => ref_CommandOf (x.entries.at i) w (Sl.ok.at (s := x.entries) (i := i) okx (by omega)))
 refine Mdn ((mDecode (x.entries.at i)).2 = 0) (fun h4 => ?_) fun h4 => ?_
 · refine Mi ?_ (pR ((i : Int) + 1))
   have hf0 : logF x.entries.xs i = 0 := by grind [logF]
   exact on1 (i + 1) ⟨by omega, by rw [hI]; exact firstF_step (by omega) hf0⟩ (by omega)
 refine Me0 ((mDecode (x.entries.at i)).2) ?_
 have hf : logF x.entries.xs i = (mDecode (x.entries.at i)).2 := by unfold logF; rw [hat]
 rw [hI, firstF_here (by omega) hf (by assumption)]

theorem log_Last {B : Nat → Prop} (x : CLog) (w : World) (hx : Rds.sub B w x) (hb : 0 ≤ x.base ∧ x.base ≤ 1073741424 ∧ x.entries.n ≤ 1048576) : Calls Try.prog 77 #[x.val] w fun e w' => e = .returned (vi (x.base + (x.entries.n : Int))) ∧ Kp [] w w' := by
 have okx := Rds.okof hx
 have ncx := Sl.ok.nc okx
 have hnx : x.entries.n = x.entries.xs.length := rfl
 have q1 : x.abs.base = x.base := rfl
 have q2 : x.abs.entries = x.entries.xs := rfl
 have hat : ∀ q, x.entries.xs.getD q default = x.entries.at q := fun _ => rfl
 refine M0 ?_ Try.func77
 refine Mi ?_ (pR (x.base + (x.entries.n : Int)))
 exact Mt [vi (x.base + (x.entries.n : Int))] fun bs w hS => ⟨rfl, hS.kp⟩

theorem ref_LastOf {B : Nat → Prop} (x : CLog) (w : World) (hx : Rds.sub B w x) (hb : 0 ≤ x.base ∧ x.base ≤ 1073741424 ∧ x.entries.n ≤ 1048576) : Calls Try.prog 81 #[x.val] w fun e w' => e = .returned (vi (x.base + (x.entries.n : Int))) ∧ Kp [] w w' := by
 have okx := Rds.okof hx
 have ncx := Sl.ok.nc okx
 have hnx : x.entries.n = x.entries.xs.length := rfl
 have q1 : x.abs.base = x.base := rfl
 have q2 : x.abs.entries = x.entries.xs := rfl
 have hat : ∀ q, x.entries.xs.getD q default = x.entries.at q := fun _ => rfl
 refine M0 ?_ Try.func81
 refine Mi ?_ (pR (x.base + (x.entries.n : Int)))
 exact Mt [vi (x.base + (x.entries.n : Int))] fun bs w hS => ⟨rfl, hS.kp⟩

theorem same_texts {B B' : Nat → Prop} (a b : Sl ByteArray) (w : World) (ha : a.rd B w) (hb : b.rd B' w) (he : a.xs = b.xs) : Calls Try.prog 83 #[a.val, b.val] w fun e w' => e = .returned (vb true) ∧ Kp [] w w' := by
 have oka := Sl.rd.ok ha
 have okb := Sl.rd.ok hb
 have hn := xs_n he
 have nca := Sl.ok.nc oka
 refine M0 ?_ Try.func83
 refine Mdn ((a.n : Int) = (b.n : Int)) (fun h1 => ?_) fun h1 => ?_
 rotate_left
 · exfalso; first | omega | exact h1 (xs_at he i)
 refine Ml (σ := Nat) (fun i => True) (fun i => a.n - i) (fun _ => []) [5, 0, 1] (fun i => [(5, vI (i : Int))]) (fun _ => []) ?_ 0 trivial
 rintro i _ _ on1
 have hat := xs_at he i
 refine Md ((i : Int) < (a.n : Int)) (fun h2 => ?_) fun h2 => ?_
 rotate_left
 · exact Mt [vb true] fun bs w hS => ⟨rfl, hS.kp⟩
 refine Mda 9 [] [] [] Try_mixed ?_
 refine Mih ?_ (pc (pA 19 20 (i : Int) i (rdk ha)) (pA 23 24 (i : Int) i (rdk hb)))
 refine Mdn ((a.at i) = (b.at i)) (fun h3 => ?_) fun h3 => ?_
 rotate_left
 · exfalso; first | omega | exact h3 (xs_at he i)
 refine Mi ?_ (pR ((i : Int) + 1))
 exact on1 (i + 1) trivial (by omega)

theorem cloneS_ByteArray (A : Option Addr) (n c : Nat) (L : List ByteArray) (w : World) (hl : L.length = n) (hsrc : SrcAt w A n (L.flatMap Lay.cells)) (hb : n * 16 ≤ 140737488355328) : Calls Try.prog 118 #[.slice A n c] w fun e w' => ∃ y : Sl ByteArray, e = .returned y.val ∧ y.xs = L ∧ Kp [] w w' ∧ Fresh w w' (rowA 9 y.A y.c y.xs) := by
 refine M0 ?_ Try.func118
 refine Mi ?_ (pG [(4, .val (.bool A.isNone))] (oc ((eq_nil Try.underlying47) : ∀ w, (do eqGuard .eql 47 (.tmp 3) (.const vn) (.slice A n c) vn; binOp .eql 47 (.slice A n c) vn : Sem Value).run Try.prog w = .ok (.bool A.isNone) w) on))
 refine Mb A.isNone (fun h1 => ?_) fun h1 => ?_
 · refine Mt [vn] fun bs w hS => ?_
   have hnil : L = [] := by cases hA : A with | none => rw [hA] at hsrc; have h0 : n = 0 := hsrc; exact List.eq_nil_of_length_eq_zero (by omega) | some a => rw [hA] at h1; cases h1
   exact ⟨Sl.nil, rfl, hnil.symm, hS.kp, rowA_nil 9 w⟩
 refine Mlz ?_ (α := ByteArray) (e := 9)
 intro A1
 refine Ma ?_ (α := ByteArray) (L2 := L) 16 (fun bs w hS => (SrcAt.kp hsrc hS.kp)) (hn2 := hl)
 intro A2 c2
 exact Mt [.slice A2 ([] ++ L).length c2] fun bs w hS => ⟨⟨A2, c2, [] ++ L⟩, rfl, by simp, hS.kp, hS.out1⟩
theorem clone_ByteArray {B : Nat → Prop} (s : Sl ByteArray) (w : World) (hs : s.rd B w) (hb : s.n * 16 ≤ 140737488355328) : Calls Try.prog 118 #[s.val] w fun e w' => ∃ y : Sl ByteArray, e = .returned y.val ∧ y.xs = s.xs ∧ Kp [] w w' ∧ Fresh w w' (rowA 9 y.A y.c y.xs) := cloneS_ByteArray s.A s.n s.c s.xs w rfl hs.src hb

theorem same_log {B B' : Nat → Prop} (a b : CLog) (w : World) (ha : Rds.sub B w a) (hb : Rds.sub B' w b) (he : a.abs = b.abs) : Calls Try.prog 31 #[a.val, b.val] w fun e w' => e = .returned (vb true) ∧ Kp [] w w' := by
 have oka := Rds.okof ha
 have okb := Rds.okof hb
 refine M0 ?_ Try.func31
 refine Md (a.base = b.base) (fun h1 => ?_) fun h1 => ?_
 rotate_left
 · exact absurd (congrArg (fun q => q.base) he) h1
 refine Mp ?_ Try.call83 (fun bs w hS => same_texts _ _ w (Rds.kp ha hS.kp) (Rds.kp hb hS.kp) (congrArg DLog.entries he))
 exact Mt [vb true] fun bs w hS => ⟨rfl, hS.kp⟩

theorem log_CopyR {B : Nat → Prop} (x : CLog) (w : World) (hx : Rds.sub B w x) (hb : x.entries.n * 16 ≤ 140737488355328) : Calls Try.prog 78 #[x.val] w fun e w' => ∃ y : Sl ByteArray, e = .returned (.agg #[vi x.base, y.val]) ∧ y.xs = x.entries.xs ∧ Kp [] w w' ∧ Fresh w w' (rowA 9 y.A y.c y.xs) := by
 have okx := Rds.okof hx
 have ncx := Sl.ok.nc okx
 have hnx : x.entries.n = x.entries.xs.length := rfl
 have hla : mLast x.abs = x.base + (x.entries.n : Int) := rfl
 have q1 : x.abs.base = x.base := rfl
 have q2 : x.abs.entries = x.entries.xs := rfl
 have hat : ∀ q, x.entries.xs.getD q default = x.entries.at q := fun _ => rfl
 refine M0 ?_ Try.func78
 refine Mda 6 [] [] [] Try_mixed ?_
 refine Mf ?_ Try.call118 (fun bs w hS => clone_ByteArray x.entries w (Rds.kp hx hS.kp) hb)
 rintro y1 hF1
 exact Mt [.agg #[vi x.base, y1.val]] fun bs w hS => ⟨y1, rfl, hF1, hS.kp, hS.out1⟩
theorem log_Copy {B : Nat → Prop} (x : CLog) (w : World) (hx : Rds.sub B w x) (hsm : Rds.small x) : Calls Try.prog 78 #[x.val] w fun e w' => ∃ y : CLog, e = .returned (y.val) ∧ y.abs = x.abs ∧ FreshS w w' y :=
  (log_CopyR x w hx hsm.1).mono fun e w' ⟨y, h1, h2, h3, h4⟩ => ⟨⟨x.base, y⟩, h1, by simp [CLog.abs, h2], h3, h4.sub fun hp => Rr hp (fun b hb => hb) fun z hz => Sl.rd.mem (s := x.entries) hx z (h2 ▸ hz)⟩

theorem ref_LogCopyR {B : Nat → Prop} (x : CLog) (w : World) (hx : Rds.sub B w x) (hb : x.entries.n * 16 ≤ 140737488355328) : Calls Try.prog 28 #[x.val] w fun e w' => ∃ y : Sl ByteArray, e = .returned (.agg #[vi x.base, y.val]) ∧ y.xs = x.entries.xs ∧ Kp [] w w' ∧ Fresh w w' (rowA 9 y.A y.c y.xs) := by
 have okx := Rds.okof hx
 have ncx := Sl.ok.nc okx
 have hnx : x.entries.n = x.entries.xs.length := rfl
 have hla : mLast x.abs = x.base + (x.entries.n : Int) := rfl
 have q1 : x.abs.base = x.base := rfl
 have q2 : x.abs.entries = x.entries.xs := rfl
 have hat : ∀ q, x.entries.xs.getD q default = x.entries.at q := fun _ => rfl
 refine M0 ?_ Try.func28
 refine Mda 6 [] [] [] Try_mixed ?_
 refine m_rowA (α := ByteArray) 9 ?_
 refine Ma ?_ (α := ByteArray) (L2 := x.entries.xs) 16 (fun bs w hS => Sl.rd.src (s := x.entries) (Rds.kp hx hS.kp))
 intro A1 c1
 exact Mt [.agg #[vi x.base, .slice A1 ([] ++ x.entries.xs).length c1]] fun bs w hS => ⟨⟨A1, c1, [] ++ x.entries.xs⟩, rfl, by simp, hS.kp, hS.out1⟩
theorem ref_LogCopy {B : Nat → Prop} (x : CLog) (w : World) (hx : Rds.sub B w x) (hsm : Rds.small x) : Calls Try.prog 28 #[x.val] w fun e w' => ∃ y : CLog, e = .returned (y.val) ∧ y.abs = x.abs ∧ FreshS w w' y :=
  (ref_LogCopyR x w hx hsm.1).mono fun e w' ⟨y, h1, h2, h3, h4⟩ => ⟨⟨x.base, y⟩, h1, by simp [CLog.abs, h2], h3, h4.sub fun hp => Rr hp (fun b hb => hb) fun z hz => Sl.rd.mem (s := x.entries) hx z (h2 ▸ hz)⟩

theorem log_Put {B B' : Nat → Prop} (x : CLog) (n : Int) (m : Sl ByteArray) (w : World) (hx : Rds.sub B w x) (hm : m.rd B' w) : Calls Try.prog 29 #[x.val, vi n, m.val] w fun e w' => ∃ y : CLog, e = .returned (.tuple #[y.val, vi (mPut x.abs n m.xs).2]) ∧ y.abs = (mPut x.abs n m.xs).1 ∧ FreshS w w' y := by
 have okx := Rds.okof hx
 have ncx := Sl.ok.nc okx
 have hnx : x.entries.n = x.entries.xs.length := rfl
 have hla : mLast x.abs = x.base + (x.entries.n : Int) := rfl
 have q1 : x.abs.base = x.base := rfl
 have q2 : x.abs.entries = x.entries.xs := rfl
 have hat : ∀ q, x.entries.xs.getD q default = x.entries.at q := fun _ => rfl
 have okm := Sl.rd.ok hm
 have ncm := Sl.ok.nc okm
 have hmx : m.n = m.xs.length := rfl
 refine M0 ?_ Try.func29
 refine Mp ?_ Try.call76 (fun bs w hS => log_Check x w (Rds.kp hx hS.kp))
 refine Mdn (mLog x.abs = 0) (fun h1 => ?_) fun h1 => ?_
 rotate_left
 · have hm : mPut x.abs n m.xs = (zLog, mLog x.abs) := by grind [mPut]
   exact Me2 hm ⟨0, Sl.nil⟩ rfl fun bs w hS => hS.outS (y := (⟨0, Sl.nil⟩ : CLog)) (Sl.rd_nil _ _)
 obtain ⟨hb1, hb2, hb3, hb4⟩ := mLog_bd h1
 rw [q1] at hb1 hb2
 rw [q2] at hb3
 have hmsz : ∀ z, z ∈ x.entries.xs → z.size ≤ 9223372036854775807 := fun z hz => Sl.rd.mem (s := x.entries) hx z hz
 refine Md (n < 0) (fun h2 => ?_) fun h2 => ?_
 · have hm : mPut x.abs n m.xs = (zLog, 2) := by
     unfold mPut; rw [if_neg (by simpa using (by assumption : mLog _ = 0)), hla, q1, q2]
     first | rw [if_pos (by omega)] | rw [if_neg (by omega), if_pos (by omega)] | rw [if_neg (by omega), if_neg (by omega), if_pos (by omega)] | (rw [if_neg (by omega), if_neg (by omega), if_neg (by omega), if_neg (by simp), if_pos (by show 400 < E.length; omega)])
     all_goals first | rfl | (exfalso; omega)
   exact Me2 hm ⟨0, Sl.nil⟩ rfl fun bs w hS => hS.outS (y := (⟨0, Sl.nil⟩ : CLog)) (Sl.rd_nil _ _)
 refine Md ((1073741824 : Int) < n) (fun h3 => ?_) fun h3 => ?_
 · have hm : mPut x.abs n m.xs = (zLog, 2) := by
     unfold mPut; rw [if_neg (by simpa using (by assumption : mLog _ = 0)), hla, q1, q2]
     first | rw [if_pos (by omega)] | rw [if_neg (by omega), if_pos (by omega)] | rw [if_neg (by omega), if_neg (by omega), if_pos (by omega)] | (rw [if_neg (by omega), if_neg (by omega), if_neg (by omega), if_neg (by simp), if_pos (by show 400 < E.length; omega)])
     all_goals first | rfl | (exfalso; omega)
   exact Me2 hm ⟨0, Sl.nil⟩ rfl fun bs w hS => hS.outS (y := (⟨0, Sl.nil⟩ : CLog)) (Sl.rd_nil _ _)
 refine Md ((400 : Int) < (m.n : Int)) (fun h4 => ?_) fun h4 => ?_
 · have hm : mPut x.abs n m.xs = (zLog, 1) := by
     unfold mPut; rw [if_neg (by simpa using (by assumption : mLog _ = 0)), hla, q1, q2]
     first | rw [if_pos (by omega)] | rw [if_neg (by omega), if_pos (by omega)] | rw [if_neg (by omega), if_neg (by omega), if_pos (by omega)] | (rw [if_neg (by omega), if_neg (by omega), if_neg (by omega), if_neg (by simp), if_pos (by show 400 < E.length; omega)])
     all_goals first | rfl | (exfalso; omega)
   exact Me2 hm ⟨0, Sl.nil⟩ rfl fun bs w hS => hS.outS (y := (⟨0, Sl.nil⟩ : CLog)) (Sl.rd_nil _ _)
 refine Mp ?_ Try.call77 (fun bs w hS => log_Last x w (Rds.kp hx hS.kp) (by first | exact ⟨by omega, by omega, by omega⟩ | omega))
 refine Md (x.base + (x.entries.n : Int) < n) (fun h5 => ?_) fun h5 => ?_
 · have hm : mPut x.abs n m.xs = (zLog, 13) := by
     unfold mPut; rw [if_neg (by simpa using (by assumption : mLog _ = 0)), hla, q1, q2]
     first | rw [if_pos (by omega)] | rw [if_neg (by omega), if_pos (by omega)] | rw [if_neg (by omega), if_neg (by omega), if_pos (by omega)] | (rw [if_neg (by omega), if_neg (by omega), if_neg (by omega), if_neg (by simp), if_pos (by show 400 < E.length; omega)])
     all_goals first | rfl | (exfalso; omega)
   exact Me2 hm ⟨0, Sl.nil⟩ rfl fun bs w hS => hS.outS (y := (⟨0, Sl.nil⟩ : CLog)) (Sl.rd_nil _ _)
 refine Md (n < x.base) (fun h6 => ?_) fun h6 => ?_
 rotate_left
 · refine Mf ?_ Try.call78 (fun bs w hS => log_CopyR x w (Rds.kp hx hS.kp) (by omega))
   rintro y9 hF9
   obtain ⟨A9, c9, rfl⟩ := Sl.of_xs hF9
   refine m_weak (rowA 9 A9 c9 (x.entries.xs : List ByteArray)) (List.Sublist.refl _) (fun w h => h) ?_
   refine m_know (F := RowOk A9 c9 (x.entries.xs : List ByteArray)) (fun bs w hS => rowA_rok (hS.res _ i0)) fun hrow9 => ?_
   have nchrow9 := hrow9.2
   obtain ⟨r, hr, hrn⟩ : ∃ r : Sl ByteArray, r = m ∧ True := ⟨m, rfl, trivial⟩
   have hrx : r.xs = m.xs.drop (x.base - n).toNat := by rw [hr, show (x.base - n).toNat = 0 by omega]; rfl
   have hrr : Sl.rd anyB w r := by rw [hr]; exact hm.wide (fun _ _ => trivial)
   have hrk : r.n = m.n := by rw [hr]
   have okr := Sl.rd.ok hrr
   have ncr := Sl.ok.nc okr
   have hrnx : r.n = r.xs.length := rfl
   refine Mk 58 ?_ (show (vI (m.n : Int)) = vI (r.n : Int) by rw [hrk])
   refine Mk 57 ?_ (show (.v (.slice m.A m.n m.c)) = .v (.slice r.A r.n r.c) by rw [hrk, hr]; first | done | rfl)
   refine Ml (σ := Nat × Option Addr × Nat × List ByteArray) (fun ⟨i, A, c, E⟩ => i ≤ r.n ∧ putGo x.entries.xs (n - x.base).toNat (m.xs.drop (x.base - n).toNat) = putGo E ((n - x.base).toNat + i) (r.xs.drop i) ∧ (n - x.base).toNat + i ≤ E.length ∧ E.length ≤ 400 + i ∧ ∀ z, z ∈ E → z.size ≤ 9223372036854775807) (fun ⟨i, A, c, E⟩ => r.n - i) (fun ⟨i, A, c, E⟩ => [rowA 9 A c (E : List ByteArray)]) [57, 58, 59, 10, 6, 3, 1] (fun ⟨i, A, c, E⟩ => [(59, vI (i : Int))]) (fun ⟨i, A, c, E⟩ => [(2, [vI x.base, .v (.slice A E.length c)])]) ?_ (⟨0, A9, c9, x.entries.xs⟩) ⟨Nat.zero_le _, by rw [hrx]; rfl, by omega, by omega, hmsz⟩
   rintro ⟨i, A, c, E⟩ ⟨hi, hP, hE, hE4, hEs⟩ _ on3
   refine m_know (F := RowOk A c (E : List ByteArray)) (fun bs w hS => rowA_rok (hS.res _ i0)) fun hrow => ?_
   have nch := hrow.2
   refine Md ((i : Int) < (r.n : Int)) (fun h17 => ?_) fun h17 => ?_
   rotate_left
   · refine Md ((400 : Int) < (E.length : Int)) (fun h23 => ?_) fun h23 => ?_
     rotate_left
     · have hpg : putGo x.entries.xs (n - x.base).toNat (m.xs.drop (x.base - n).toNat) = (E, 0) := by rw [hP]; exact putGo_end (by omega)
       have hm : mPut x.abs n m.xs = (⟨x.base, E⟩, 0) := by grind [mPut]
       exact Me2 hm ⟨x.base, ⟨A, c, E⟩⟩ rfl fun bs w hS => hS.outS (y := (⟨x.base, ⟨A, c, E⟩⟩ : CLog)) (allR_row i0 (hS.res _ i0) hEs)
     have hpg : putGo x.entries.xs (n - x.base).toNat (m.xs.drop (x.base - n).toNat) = (E, 0) := by rw [hP]; exact putGo_end (by omega)
     have hm : mPut x.abs n m.xs = (zLog, 8) := by
       unfold mPut; rw [if_neg (by simpa using (by assumption : mLog _ = 0)), hla, q1, q2]
       first | rw [if_pos (by omega)] | rw [if_neg (by omega), if_pos (by omega)] | rw [if_neg (by omega), if_neg (by omega), if_pos (by omega)] | (rw [if_neg (by omega), if_neg (by omega), if_neg (by omega), hpg, if_neg (by simp), if_pos (by show 400 < E.length; omega)])
       all_goals first | rfl | (exfalso; omega)
     exact Me2 hm ⟨0, Sl.nil⟩ rfl fun bs w hS => hS.outS (y := (⟨0, Sl.nil⟩ : CLog)) (Sl.rd_nil _ _)
   refine Mi ?_ (pA 62 63 (i : Int) i (rdk hrr))
   refine Mp ?_ Try.call79 (fun bs w hS => command_Decode (r.at i) w (Sl.ok.at (s := r) (i := i) okr (by omega)))
   refine Mdn ((mDecode (r.at i)).2 = 0) (fun h18 => ?_) fun h18 => ?_
   rotate_left
   · have hpg : putGo x.entries.xs (n - x.base).toNat (m.xs.drop (x.base - n).toNat) = ([], (mDecode (r.at i)).2) := by rw [hP]; exact putGo_bad (by omega) h18
     have hm : mPut x.abs n m.xs = (zLog, (mDecode (r.at i)).2) := by grind [mPut]
     exact Me2 hm ⟨0, Sl.nil⟩ rfl fun bs w hS => hS.outS (y := (⟨0, Sl.nil⟩ : CLog)) (Sl.rd_nil _ _)
   refine Mi ?_ (pc (pR (n + (i : Int))) (pR ((n + (i : Int)) - x.base)))
   refine Md ((n + (i : Int)) - x.base < (E.length : Int)) (fun h19 => ?_) fun h19 => ?_
   rotate_left
   · by_cases h22 : (E.length : Int) < (n + (i : Int)) - x.base
     · refine Mmin ?_ (if_pos h22)
       refine Mi ?_ (pG [(100, .sl 0 E.length)] (oc (rfl : 0 = 0) (oc (rfl : (E.length : Int) = (E.length : Int)) (oc ((by omega) : E.length ≤ c) on))))
       refine M1 ?_
       refine m_weak (rowA 9 A c ((E).take E.length : List ByteArray)) (List.Sublist.refl _) (fun w h => rowA_take h E.length (by omega)) ?_
       refine Mal (α := ByteArray) 16 ([(r.at i)]) ?_ (n := E.length) (hn := by rw [List.length_take]; omega)
       intro A13 c13
       refine Mi ?_ (pR ((i : Int) + 1))
       exact on3 ⟨i + 1, A13, c13, ((E).take E.length) ++ [(r.at i)]⟩ ⟨by omega, by rw [hP, Pn (by omega) h18, putOne_new (k := (n - x.base).toNat + i) (by rintro ⟨hz1, hz2⟩; omega), show (n - x.base).toNat + i + 1 = (n - x.base).toNat + (i + 1) by omega]; (rw [show (n - x.base).toNat + i = E.length by omega] <;> rfl), by simp only [List.length_append, List.length_take, List.length_cons, List.length_nil]; omega, by simp only [List.length_append, List.length_take, List.length_cons, List.length_nil]; omega, fun z hz => by simp only [List.nil_append, List.mem_append, List.mem_singleton] at hz; rcases hz with hz | hz; exact hEs z (List.mem_of_mem_take hz); subst hz; exact mDecode_size h18⟩ (by show r.n - (i + 1) < r.n - i; omega)
     refine Mmin ?_ (if_neg h22)
     refine Mi ?_ (pG [(100, .sl 0 ((n + (i : Int)) - x.base).toNat)] (oc (rfl : 0 = 0) (oc ((by omega) : (n + (i : Int)) - x.base = ((((n + (i : Int)) - x.base).toNat : Nat) : Int)) (oc ((by omega) : ((n + (i : Int)) - x.base).toNat ≤ c) on))))
     refine M1 ?_
     refine m_weak (rowA 9 A c ((E).take ((n + (i : Int)) - x.base).toNat : List ByteArray)) (List.Sublist.refl _) (fun w h => rowA_take h ((n + (i : Int)) - x.base).toNat (by omega)) ?_
     refine Mal (α := ByteArray) 16 ([(r.at i)]) ?_ (n := ((n + (i : Int)) - x.base).toNat) (hn := by rw [List.length_take]; omega)
     intro A14 c14
     refine Mi ?_ (pR ((i : Int) + 1))
     exact on3 ⟨i + 1, A14, c14, ((E).take ((n + (i : Int)) - x.base).toNat) ++ [(r.at i)]⟩ ⟨by omega, by rw [hP, Pn (by omega) h18, putOne_new (k := (n - x.base).toNat + i) (by rintro ⟨hz1, hz2⟩; omega), show (n - x.base).toNat + i + 1 = (n - x.base).toNat + (i + 1) by omega]; (rw [show (n - x.base).toNat + i = ((n + (i : Int)) - x.base).toNat by omega] <;> rfl), by simp only [List.length_append, List.length_take, List.length_cons, List.length_nil]; omega, by simp only [List.length_append, List.length_take, List.length_cons, List.length_nil]; omega, fun z hz => by simp only [List.nil_append, List.mem_append, List.mem_singleton] at hz; rcases hz with hz | hz; exact hEs z (List.mem_of_mem_take hz); subst hz; exact mDecode_size h18⟩ (by show r.n - (i + 1) < r.n - i; omega)
   refine Mi ?_ (pc (pIo 88 ((n + (i : Int)) - x.base) ((n + (i : Int)) - x.base).toNat E.length i0) (pEo 89 ((n + (i : Int)) - x.base).toNat i0))
   refine Md ((E.getD ((n + (i : Int)) - x.base).toNat default) = (r.at i)) (fun h20 => ?_) fun h20 => ?_
   · refine Mi ?_ (pR ((i : Int) + 1))
     exact on3 ⟨i + 1, A, c, E⟩ ⟨by omega, by rw [hP, Pn (by omega) h18, putOne_same (k := (n - x.base).toNat + i) (by omega) (by rw [show (n - x.base).toNat + i = ((n + (i : Int)) - x.base).toNat by omega]; exact h20), show (n - x.base).toNat + i + 1 = (n - x.base).toNat + (i + 1) by omega], by omega, by omega, hEs⟩ (by show r.n - (i + 1) < r.n - i; omega)
   by_cases h21 : (E.length : Int) < (n + (i : Int)) - x.base
   · refine Mmin ?_ (if_pos h21)
     refine Mi ?_ (pG [(100, .sl 0 E.length)] (oc (rfl : 0 = 0) (oc (rfl : (E.length : Int) = (E.length : Int)) (oc ((by omega) : E.length ≤ c) on))))
     refine M1 ?_
     refine m_weak (rowA 9 A c ((E).take E.length : List ByteArray)) (List.Sublist.refl _) (fun w h => rowA_take h E.length (by omega)) ?_
     refine Mal (α := ByteArray) 16 ([(r.at i)]) ?_ (n := E.length) (hn := by rw [List.length_take]; omega)
     intro A11 c11
     refine Mi ?_ (pR ((i : Int) + 1))
     exact on3 ⟨i + 1, A11, c11, ((E).take E.length) ++ [(r.at i)]⟩ ⟨by omega, by rw [hP, Pn (by omega) h18, putOne_new (k := (n - x.base).toNat + i) (by rintro ⟨hz1, hz2⟩; first | omega | (rw [show (n - x.base).toNat + i = ((n + (i : Int)) - x.base).toNat by omega] at hz2; exact h20 hz2)), show (n - x.base).toNat + i + 1 = (n - x.base).toNat + (i + 1) by omega]; (rw [show (n - x.base).toNat + i = E.length by omega] <;> rfl), by simp only [List.length_append, List.length_take, List.length_cons, List.length_nil]; omega, by simp only [List.length_append, List.length_take, List.length_cons, List.length_nil]; omega, fun z hz => by simp only [List.nil_append, List.mem_append, List.mem_singleton] at hz; rcases hz with hz | hz; exact hEs z (List.mem_of_mem_take hz); subst hz; exact mDecode_size h18⟩ (by show r.n - (i + 1) < r.n - i; omega)
   refine Mmin ?_ (if_neg h21)
   refine Mi ?_ (pG [(100, .sl 0 ((n + (i : Int)) - x.base).toNat)] (oc (rfl : 0 = 0) (oc ((by omega) : (n + (i : Int)) - x.base = ((((n + (i : Int)) - x.base).toNat : Nat) : Int)) (oc ((by omega) : ((n + (i : Int)) - x.base).toNat ≤ c) on))))
   refine M1 ?_
   refine m_weak (rowA 9 A c ((E).take ((n + (i : Int)) - x.base).toNat : List ByteArray)) (List.Sublist.refl _) (fun w h => rowA_take h ((n + (i : Int)) - x.base).toNat (by omega)) ?_
   refine Mal (α := ByteArray) 16 ([(r.at i)]) ?_ (n := ((n + (i : Int)) - x.base).toNat) (hn := by rw [List.length_take]; omega)
   intro A12 c12
   refine Mi ?_ (pR ((i : Int) + 1))
   exact on3 ⟨i + 1, A12, c12, ((E).take ((n + (i : Int)) - x.base).toNat) ++ [(r.at i)]⟩ ⟨by omega, by rw [hP, Pn (by omega) h18, putOne_new (k := (n - x.base).toNat + i) (by rintro ⟨hz1, hz2⟩; first | omega | (rw [show (n - x.base).toNat + i = ((n + (i : Int)) - x.base).toNat by omega] at hz2; exact h20 hz2)), show (n - x.base).toNat + i + 1 = (n - x.base).toNat + (i + 1) by omega]; (rw [show (n - x.base).toNat + i = ((n + (i : Int)) - x.base).toNat by omega] <;> rfl), by simp only [List.length_append, List.length_take, List.length_cons, List.length_nil]; omega, by simp only [List.length_append, List.length_take, List.length_cons, List.length_nil]; omega, fun z hz => by simp only [List.nil_append, List.mem_append, List.mem_singleton] at hz; rcases hz with hz | hz; exact hEs z (List.mem_of_mem_take hz); subst hz; exact mDecode_size h18⟩ (by show r.n - (i + 1) < r.n - i; omega)
 refine Mi ?_ (pR (x.base - n))
 by_cases h7 : (m.n : Int) < x.base - n
 · refine Mmin ?_ (if_pos h7)
   refine Mi ?_ (pc (pG [(51, .sl m.n m.n)] (oc (rfl : (m.n : Int) = (m.n : Int)) (oc (rfl : m.n = m.n) (oc ((by omega) : m.n ≤ m.n) on)))) (pR (n + (m.n : Int))))
   refine Mf ?_ Try.call78 (fun bs w hS => log_CopyR x w (Rds.kp hx hS.kp) (by omega))
   rintro y1 hF1
   obtain ⟨A1, c1, rfl⟩ := Sl.of_xs hF1
   refine m_weak (rowA 9 A1 c1 (x.entries.xs : List ByteArray)) (List.Sublist.refl _) (fun w h => h) ?_
   refine m_know (F := RowOk A1 c1 (x.entries.xs : List ByteArray)) (fun bs w hS => rowA_rok (hS.res _ i0)) fun hrow1 => ?_
   have nchrow1 := hrow1.2
   obtain ⟨r, hr⟩ : ∃ r : Sl ByteArray, r = ⟨offA m.A m.c m.n 1, m.c - m.n, m.xs.drop m.n⟩ := ⟨_, rfl⟩
   have hrx : r.xs = m.xs.drop (x.base - n).toNat := by rw [hr] <;> exact drop_cut (by first | omega | (split at * <;> omega))
   have hrr : Sl.rd anyB w r := by rw [hr]; exact (hm.wide (fun _ _ => trivial)).drop _ (by first | omega | (split <;> omega))
   have hrk : r.n = m.n - m.n := by rw [hr]; exact List.length_drop ..
   have okr := Sl.rd.ok hrr
   have ncr := Sl.ok.nc okr
   have hrnx : r.n = r.xs.length := rfl
   refine Mk 58 ?_ (show (vI ((m.n - m.n : Nat) : Int)) = vI (r.n : Int) by rw [hrk])
   refine Mk 57 ?_ (show (.v (.slice (if m.c = m.n then m.A else m.A.map (·.add (m.n * 1))) (m.n - m.n) (m.c - m.n))) = .v (.slice r.A r.n r.c) by rw [hrk, hr]; first | done | rfl)
   refine Ml (σ := Nat × Option Addr × Nat × List ByteArray) (fun ⟨i, A, c, E⟩ => i ≤ r.n ∧ putGo x.entries.xs (n - x.base).toNat (m.xs.drop (x.base - n).toNat) = putGo E ((n - x.base).toNat + i) (r.xs.drop i) ∧ (n - x.base).toNat + i ≤ E.length ∧ E.length ≤ 400 + i ∧ ∀ z, z ∈ E → z.size ≤ 9223372036854775807) (fun ⟨i, A, c, E⟩ => r.n - i) (fun ⟨i, A, c, E⟩ => [rowA 9 A c (E : List ByteArray)]) [57, 58, 59, 10, 1, 6, 3] (fun ⟨i, A, c, E⟩ => [(59, vI (i : Int))]) (fun ⟨i, A, c, E⟩ => [(2, [vI x.base, .v (.slice A E.length c)])]) ?_ (⟨0, A1, c1, x.entries.xs⟩) ⟨Nat.zero_le _, by rw [hrx]; rfl, by omega, by omega, hmsz⟩
   rintro ⟨i, A, c, E⟩ ⟨hi, hP, hE, hE4, hEs⟩ _ on1
   refine m_know (F := RowOk A c (E : List ByteArray)) (fun bs w hS => rowA_rok (hS.res _ i0)) fun hrow => ?_
   have nch := hrow.2
   refine Md ((i : Int) < (r.n : Int)) (fun h8 => ?_) fun h8 => ?_
   · exfalso; omega
   refine Md ((400 : Int) < (E.length : Int)) (fun h9 => ?_) fun h9 => ?_
   rotate_left
   · have hpg : putGo x.entries.xs (n - x.base).toNat (m.xs.drop (x.base - n).toNat) = (E, 0) := by rw [hP]; exact putGo_end (by omega)
     have hm : mPut x.abs n m.xs = (⟨x.base, E⟩, 0) := by grind [mPut]
     exact Me2 hm ⟨x.base, ⟨A, c, E⟩⟩ rfl fun bs w hS => hS.outS (y := (⟨x.base, ⟨A, c, E⟩⟩ : CLog)) (allR_row i0 (hS.res _ i0) hEs)
   have hpg : putGo x.entries.xs (n - x.base).toNat (m.xs.drop (x.base - n).toNat) = (E, 0) := by rw [hP]; exact putGo_end (by omega)
   have hm : mPut x.abs n m.xs = (zLog, 8) := by
     unfold mPut; rw [if_neg (by simpa using (by assumption : mLog _ = 0)), hla, q1, q2]
     first | rw [if_pos (by omega)] | rw [if_neg (by omega), if_pos (by omega)] | rw [if_neg (by omega), if_neg (by omega), if_pos (by omega)] | (rw [if_neg (by omega), if_neg (by omega), if_neg (by omega), hpg, if_neg (by simp), if_pos (by show 400 < E.length; omega)])
     all_goals first | rfl | (exfalso; omega)
   exact Me2 hm ⟨0, Sl.nil⟩ rfl fun bs w hS => hS.outS (y := (⟨0, Sl.nil⟩ : CLog)) (Sl.rd_nil _ _)
 refine Mmin ?_ (if_neg h7)
 refine Mi ?_ (pc (pG [(51, .sl (x.base - n).toNat m.n)] (oc ((by omega) : x.base - n = (((x.base - n).toNat : Nat) : Int)) (oc (rfl : m.n = m.n) (oc ((by omega) : (x.base - n).toNat ≤ m.n) on)))) (pR (n + (x.base - n))))
 refine Mf ?_ Try.call78 (fun bs w hS => log_CopyR x w (Rds.kp hx hS.kp) (by omega))
 rintro y3 hF3
 obtain ⟨A3, c3, rfl⟩ := Sl.of_xs hF3
 refine m_weak (rowA 9 A3 c3 (x.entries.xs : List ByteArray)) (List.Sublist.refl _) (fun w h => h) ?_
 refine m_know (F := RowOk A3 c3 (x.entries.xs : List ByteArray)) (fun bs w hS => rowA_rok (hS.res _ i0)) fun hrow3 => ?_
 have nchrow3 := hrow3.2
 obtain ⟨r, hr⟩ : ∃ r : Sl ByteArray, r = ⟨offA m.A m.c (x.base - n).toNat 1, m.c - (x.base - n).toNat, m.xs.drop (x.base - n).toNat⟩ := ⟨_, rfl⟩
 have hrx : r.xs = m.xs.drop (x.base - n).toNat := by rw [hr] <;> exact drop_cut (by first | omega | (split at * <;> omega))
 have hrr : Sl.rd anyB w r := by rw [hr]; exact (hm.wide (fun _ _ => trivial)).drop _ (by first | omega | (split <;> omega))
 have hrk : r.n = m.n - (x.base - n).toNat := by rw [hr]; exact List.length_drop ..
 have okr := Sl.rd.ok hrr
 have ncr := Sl.ok.nc okr
 have hrnx : r.n = r.xs.length := rfl
 refine Mk 58 ?_ (show (vI ((m.n - (x.base - n).toNat : Nat) : Int)) = vI (r.n : Int) by rw [hrk])
 refine Mk 57 ?_ (show (.v (.slice (if m.c = (x.base - n).toNat then m.A else m.A.map (·.add ((x.base - n).toNat * 1))) (m.n - (x.base - n).toNat) (m.c - (x.base - n).toNat))) = .v (.slice r.A r.n r.c) by rw [hrk, hr]; first | done | rfl)
 refine Ml (σ := Nat × Option Addr × Nat × List ByteArray) (fun ⟨i, A, c, E⟩ => i ≤ r.n ∧ putGo x.entries.xs (n - x.base).toNat (m.xs.drop (x.base - n).toNat) = putGo E ((n - x.base).toNat + i) (r.xs.drop i) ∧ (n - x.base).toNat + i ≤ E.length ∧ E.length ≤ 400 + i ∧ ∀ z, z ∈ E → z.size ≤ 9223372036854775807) (fun ⟨i, A, c, E⟩ => r.n - i) (fun ⟨i, A, c, E⟩ => [rowA 9 A c (E : List ByteArray)]) [57, 58, 59, 10, 1, 6, 3] (fun ⟨i, A, c, E⟩ => [(59, vI (i : Int))]) (fun ⟨i, A, c, E⟩ => [(2, [vI x.base, .v (.slice A E.length c)])]) ?_ (⟨0, A3, c3, x.entries.xs⟩) ⟨Nat.zero_le _, by rw [hrx]; rfl, by omega, by omega, hmsz⟩
 rintro ⟨i, A, c, E⟩ ⟨hi, hP, hE, hE4, hEs⟩ _ on2
 refine m_know (F := RowOk A c (E : List ByteArray)) (fun bs w hS => rowA_rok (hS.res _ i0)) fun hrow => ?_
 have nch := hrow.2
 refine Md ((i : Int) < (r.n : Int)) (fun h10 => ?_) fun h10 => ?_
 rotate_left
 · refine Md ((400 : Int) < (E.length : Int)) (fun h16 => ?_) fun h16 => ?_
   rotate_left
   · have hpg : putGo x.entries.xs (n - x.base).toNat (m.xs.drop (x.base - n).toNat) = (E, 0) := by rw [hP]; exact putGo_end (by omega)
     have hm : mPut x.abs n m.xs = (⟨x.base, E⟩, 0) := by grind [mPut]
     exact Me2 hm ⟨x.base, ⟨A, c, E⟩⟩ rfl fun bs w hS => hS.outS (y := (⟨x.base, ⟨A, c, E⟩⟩ : CLog)) (allR_row i0 (hS.res _ i0) hEs)
   have hpg : putGo x.entries.xs (n - x.base).toNat (m.xs.drop (x.base - n).toNat) = (E, 0) := by rw [hP]; exact putGo_end (by omega)
   have hm : mPut x.abs n m.xs = (zLog, 8) := by
     unfold mPut; rw [if_neg (by simpa using (by assumption : mLog _ = 0)), hla, q1, q2]
     first | rw [if_pos (by omega)] | rw [if_neg (by omega), if_pos (by omega)] | rw [if_neg (by omega), if_neg (by omega), if_pos (by omega)] | (rw [if_neg (by omega), if_neg (by omega), if_neg (by omega), hpg, if_neg (by simp), if_pos (by show 400 < E.length; omega)])
     all_goals first | rfl | (exfalso; omega)
   exact Me2 hm ⟨0, Sl.nil⟩ rfl fun bs w hS => hS.outS (y := (⟨0, Sl.nil⟩ : CLog)) (Sl.rd_nil _ _)
 refine Mi ?_ (pA 62 63 (i : Int) i (rdk hrr))
 refine Mp ?_ Try.call79 (fun bs w hS => command_Decode (r.at i) w (Sl.ok.at (s := r) (i := i) okr (by omega)))
 refine Mdn ((mDecode (r.at i)).2 = 0) (fun h11 => ?_) fun h11 => ?_
 rotate_left
 · have hpg : putGo x.entries.xs (n - x.base).toNat (m.xs.drop (x.base - n).toNat) = ([], (mDecode (r.at i)).2) := by rw [hP]; exact putGo_bad (by omega) h11
   have hm : mPut x.abs n m.xs = (zLog, (mDecode (r.at i)).2) := by grind [mPut]
   exact Me2 hm ⟨0, Sl.nil⟩ rfl fun bs w hS => hS.outS (y := (⟨0, Sl.nil⟩ : CLog)) (Sl.rd_nil _ _)
 refine Mi ?_ (pc (pR ((n + (x.base - n)) + (i : Int))) (pR (((n + (x.base - n)) + (i : Int)) - x.base)))
 refine Md (((n + (x.base - n)) + (i : Int)) - x.base < (E.length : Int)) (fun h12 => ?_) fun h12 => ?_
 rotate_left
 · by_cases h15 : (E.length : Int) < ((n + (x.base - n)) + (i : Int)) - x.base
   · refine Mmin ?_ (if_pos h15)
     refine Mi ?_ (pG [(100, .sl 0 E.length)] (oc (rfl : 0 = 0) (oc (rfl : (E.length : Int) = (E.length : Int)) (oc ((by omega) : E.length ≤ c) on))))
     refine M1 ?_
     refine m_weak (rowA 9 A c ((E).take E.length : List ByteArray)) (List.Sublist.refl _) (fun w h => rowA_take h E.length (by omega)) ?_
     refine Mal (α := ByteArray) 16 ([(r.at i)]) ?_ (n := E.length) (hn := by rw [List.length_take]; omega)
     intro A7 c7
     refine Mi ?_ (pR ((i : Int) + 1))
     exact on2 ⟨i + 1, A7, c7, ((E).take E.length) ++ [(r.at i)]⟩ ⟨by omega, by rw [hP, Pn (by omega) h11, putOne_new (k := (n - x.base).toNat + i) (by rintro ⟨hz1, hz2⟩; omega), show (n - x.base).toNat + i + 1 = (n - x.base).toNat + (i + 1) by omega]; (rw [show (n - x.base).toNat + i = E.length by omega] <;> rfl), by simp only [List.length_append, List.length_take, List.length_cons, List.length_nil]; omega, by simp only [List.length_append, List.length_take, List.length_cons, List.length_nil]; omega, fun z hz => by simp only [List.nil_append, List.mem_append, List.mem_singleton] at hz; rcases hz with hz | hz; exact hEs z (List.mem_of_mem_take hz); subst hz; exact mDecode_size h11⟩ (by show r.n - (i + 1) < r.n - i; omega)
   refine Mmin ?_ (if_neg h15)
   refine Mi ?_ (pG [(100, .sl 0 (((n + (x.base - n)) + (i : Int)) - x.base).toNat)] (oc (rfl : 0 = 0) (oc ((by omega) : ((n + (x.base - n)) + (i : Int)) - x.base = (((((n + (x.base - n)) + (i : Int)) - x.base).toNat : Nat) : Int)) (oc ((by omega) : (((n + (x.base - n)) + (i : Int)) - x.base).toNat ≤ c) on))))
   refine M1 ?_
   refine m_weak (rowA 9 A c ((E).take (((n + (x.base - n)) + (i : Int)) - x.base).toNat : List ByteArray)) (List.Sublist.refl _) (fun w h => rowA_take h (((n + (x.base - n)) + (i : Int)) - x.base).toNat (by omega)) ?_
   refine Mal (α := ByteArray) 16 ([(r.at i)]) ?_ (n := (((n + (x.base - n)) + (i : Int)) - x.base).toNat) (hn := by rw [List.length_take]; omega)
   intro A8 c8
   refine Mi ?_ (pR ((i : Int) + 1))
   exact on2 ⟨i + 1, A8, c8, ((E).take (((n + (x.base - n)) + (i : Int)) - x.base).toNat) ++ [(r.at i)]⟩ ⟨by omega, by rw [hP, Pn (by omega) h11, putOne_new (k := (n - x.base).toNat + i) (by rintro ⟨hz1, hz2⟩; omega), show (n - x.base).toNat + i + 1 = (n - x.base).toNat + (i + 1) by omega]; (rw [show (n - x.base).toNat + i = (((n + (x.base - n)) + (i : Int)) - x.base).toNat by omega] <;> rfl), by simp only [List.length_append, List.length_take, List.length_cons, List.length_nil]; omega, by simp only [List.length_append, List.length_take, List.length_cons, List.length_nil]; omega, fun z hz => by simp only [List.nil_append, List.mem_append, List.mem_singleton] at hz; rcases hz with hz | hz; exact hEs z (List.mem_of_mem_take hz); subst hz; exact mDecode_size h11⟩ (by show r.n - (i + 1) < r.n - i; omega)
 refine Mi ?_ (pc (pIo 88 (((n + (x.base - n)) + (i : Int)) - x.base) (((n + (x.base - n)) + (i : Int)) - x.base).toNat E.length i0) (pEo 89 (((n + (x.base - n)) + (i : Int)) - x.base).toNat i0))
 refine Md ((E.getD (((n + (x.base - n)) + (i : Int)) - x.base).toNat default) = (r.at i)) (fun h13 => ?_) fun h13 => ?_
 · refine Mi ?_ (pR ((i : Int) + 1))
   exact on2 ⟨i + 1, A, c, E⟩ ⟨by omega, by rw [hP, Pn (by omega) h11, putOne_same (k := (n - x.base).toNat + i) (by omega) (by rw [show (n - x.base).toNat + i = (((n + (x.base - n)) + (i : Int)) - x.base).toNat by omega]; exact h13), show (n - x.base).toNat + i + 1 = (n - x.base).toNat + (i + 1) by omega], by omega, by omega, hEs⟩ (by show r.n - (i + 1) < r.n - i; omega)
 by_cases h14 : (E.length : Int) < ((n + (x.base - n)) + (i : Int)) - x.base
 · refine Mmin ?_ (if_pos h14)
   refine Mi ?_ (pG [(100, .sl 0 E.length)] (oc (rfl : 0 = 0) (oc (rfl : (E.length : Int) = (E.length : Int)) (oc ((by omega) : E.length ≤ c) on))))
   refine M1 ?_
   refine m_weak (rowA 9 A c ((E).take E.length : List ByteArray)) (List.Sublist.refl _) (fun w h => rowA_take h E.length (by omega)) ?_
   refine Mal (α := ByteArray) 16 ([(r.at i)]) ?_ (n := E.length) (hn := by rw [List.length_take]; omega)
   intro A5 c5
   refine Mi ?_ (pR ((i : Int) + 1))
   exact on2 ⟨i + 1, A5, c5, ((E).take E.length) ++ [(r.at i)]⟩ ⟨by omega, by rw [hP, Pn (by omega) h11, putOne_new (k := (n - x.base).toNat + i) (by rintro ⟨hz1, hz2⟩; first | omega | (rw [show (n - x.base).toNat + i = (((n + (x.base - n)) + (i : Int)) - x.base).toNat by omega] at hz2; exact h13 hz2)), show (n - x.base).toNat + i + 1 = (n - x.base).toNat + (i + 1) by omega]; (rw [show (n - x.base).toNat + i = E.length by omega] <;> rfl), by simp only [List.length_append, List.length_take, List.length_cons, List.length_nil]; omega, by simp only [List.length_append, List.length_take, List.length_cons, List.length_nil]; omega, fun z hz => by simp only [List.nil_append, List.mem_append, List.mem_singleton] at hz; rcases hz with hz | hz; exact hEs z (List.mem_of_mem_take hz); subst hz; exact mDecode_size h11⟩ (by show r.n - (i + 1) < r.n - i; omega)
 refine Mmin ?_ (if_neg h14)
 refine Mi ?_ (pG [(100, .sl 0 (((n + (x.base - n)) + (i : Int)) - x.base).toNat)] (oc (rfl : 0 = 0) (oc ((by omega) : ((n + (x.base - n)) + (i : Int)) - x.base = (((((n + (x.base - n)) + (i : Int)) - x.base).toNat : Nat) : Int)) (oc ((by omega) : (((n + (x.base - n)) + (i : Int)) - x.base).toNat ≤ c) on))))
 refine M1 ?_
 refine m_weak (rowA 9 A c ((E).take (((n + (x.base - n)) + (i : Int)) - x.base).toNat : List ByteArray)) (List.Sublist.refl _) (fun w h => rowA_take h (((n + (x.base - n)) + (i : Int)) - x.base).toNat (by omega)) ?_
 refine Mal (α := ByteArray) 16 ([(r.at i)]) ?_ (n := (((n + (x.base - n)) + (i : Int)) - x.base).toNat) (hn := by rw [List.length_take]; omega)
 intro A6 c6
 refine Mi ?_ (pR ((i : Int) + 1))
 exact on2 ⟨i + 1, A6, c6, ((E).take (((n + (x.base - n)) + (i : Int)) - x.base).toNat) ++ [(r.at i)]⟩ ⟨by omega, by rw [hP, Pn (by omega) h11, putOne_new (k := (n - x.base).toNat + i) (by rintro ⟨hz1, hz2⟩; first | omega | (rw [show (n - x.base).toNat + i = (((n + (x.base - n)) + (i : Int)) - x.base).toNat by omega] at hz2; exact h13 hz2)), show (n - x.base).toNat + i + 1 = (n - x.base).toNat + (i + 1) by omega]; (rw [show (n - x.base).toNat + i = (((n + (x.base - n)) + (i : Int)) - x.base).toNat by omega] <;> rfl), by simp only [List.length_append, List.length_take, List.length_cons, List.length_nil]; omega, by simp only [List.length_append, List.length_take, List.length_cons, List.length_nil]; omega, fun z hz => by simp only [List.nil_append, List.mem_append, List.mem_singleton] at hz; rcases hz with hz | hz; exact hEs z (List.mem_of_mem_take hz); subst hz; exact mDecode_size h11⟩ (by show r.n - (i + 1) < r.n - i; omega)

theorem ref_PutOf {B B' : Nat → Prop} (x : CLog) (n : Int) (m : Sl ByteArray) (w : World) (hx : Rds.sub B w x) (hm : m.rd B' w) : Calls Try.prog 30 #[x.val, vi n, m.val] w fun e w' => ∃ y : CLog, e = .returned (.tuple #[y.val, vi (mPut x.abs n m.xs).2]) ∧ y.abs = (mPut x.abs n m.xs).1 ∧ FreshS w w' y := by
 have okx := Rds.okof hx
 have ncx := Sl.ok.nc okx
 have hnx : x.entries.n = x.entries.xs.length := rfl
 have hla : mLast x.abs = x.base + (x.entries.n : Int) := rfl
 have q1 : x.abs.base = x.base := rfl
 have q2 : x.abs.entries = x.entries.xs := rfl
 have hat : ∀ q, x.entries.xs.getD q default = x.entries.at q := fun _ => rfl
 have okm := Sl.rd.ok hm
 have ncm := Sl.ok.nc okm
 have hmx : m.n = m.xs.length := rfl
 refine M0 ?_ Try.func30
 refine Mp ?_ Try.call80 (fun bs w hS => ref_LogFault x w (Rds.kp hx hS.kp))
 refine Md (mLog x.abs = 0) (fun h1 => ?_) fun h1 => ?_
 rotate_left
 · refine My false false ?_ (df h1)
   refine My false false ?_ (df h1)
   refine My false true ?_ (df h1)
   have hm : mPut x.abs n m.xs = (zLog, mLog x.abs) := by grind [mPut]
   exact Me2 hm ⟨0, Sl.nil⟩ rfl fun bs w hS => hS.outS (y := (⟨0, Sl.nil⟩ : CLog)) (Sl.rd_nil _ _)
 obtain ⟨hb1, hb2, hb3, hb4⟩ := mLog_bd h1
 rw [q1] at hb1 hb2
 rw [q2] at hb3
 have hmsz : ∀ z, z ∈ x.entries.xs → z.size ≤ 9223372036854775807 := fun z hz => Sl.rd.mem (s := x.entries) hx z hz
 refine Mp ?_ Try.call56 (fun bs w hS => ref_In n 0 1073741824 w)
 refine Mbn (inB n 0 1073741824) (fun h2 => ?_) fun h2 => ?_
 rotate_left
 · simp only [iT, iF] at h2
   refine Mq 25 false ?_ rfl
   refine Mq 32 false ?_ rfl
   refine Mq 39 true ?_ rfl
   have hm : mPut x.abs n m.xs = (zLog, 2) := by
     unfold mPut; rw [if_neg (by simpa using (by assumption : mLog _ = 0)), hla, q1, q2]
     first | rw [if_pos (by omega)] | rw [if_neg (by omega), if_pos (by omega)] | rw [if_neg (by omega), if_neg (by omega), if_pos (by omega)] | (rw [if_neg (by omega), if_neg (by omega), if_neg (by omega), if_neg (by simp), if_pos (by show 400 < E.length; omega)])
     all_goals first | rfl | (exfalso; omega)
   exact Me2 hm ⟨0, Sl.nil⟩ rfl fun bs w hS => hS.outS (y := (⟨0, Sl.nil⟩ : CLog)) (Sl.rd_nil _ _)
 simp only [iT, iF] at h2
 refine My true false ?_ (dt h1)
 refine Md ((400 : Int) < (m.n : Int)) (fun h4 => ?_) fun h4 => ?_
 · refine Mq 32 false ?_ rfl
   refine Mq 39 true ?_ rfl
   have hm : mPut x.abs n m.xs = (zLog, 1) := by
     unfold mPut; rw [if_neg (by simpa using (by assumption : mLog _ = 0)), hla, q1, q2]
     first | rw [if_pos (by omega)] | rw [if_neg (by omega), if_pos (by omega)] | rw [if_neg (by omega), if_neg (by omega), if_pos (by omega)] | (rw [if_neg (by omega), if_neg (by omega), if_neg (by omega), if_neg (by simp), if_pos (by show 400 < E.length; omega)])
     all_goals first | rfl | (exfalso; omega)
   exact Me2 hm ⟨0, Sl.nil⟩ rfl fun bs w hS => hS.outS (y := (⟨0, Sl.nil⟩ : CLog)) (Sl.rd_nil _ _)
 refine My true false ?_ (dt h1)
 refine Mp ?_ Try.call81 (fun bs w hS => ref_LastOf x w (Rds.kp hx hS.kp) (by first | exact ⟨by omega, by omega, by omega⟩ | omega))
 refine Md (x.base + (x.entries.n : Int) < n) (fun h6 => ?_) fun h6 => ?_
 · refine Mq 39 true ?_ rfl
   have hm : mPut x.abs n m.xs = (zLog, 13) := by
     unfold mPut; rw [if_neg (by simpa using (by assumption : mLog _ = 0)), hla, q1, q2]
     first | rw [if_pos (by omega)] | rw [if_neg (by omega), if_pos (by omega)] | rw [if_neg (by omega), if_neg (by omega), if_pos (by omega)] | (rw [if_neg (by omega), if_neg (by omega), if_neg (by omega), if_neg (by simp), if_pos (by show 400 < E.length; omega)])
     all_goals first | rfl | (exfalso; omega)
   exact Me2 hm ⟨0, Sl.nil⟩ rfl fun bs w hS => hS.outS (y := (⟨0, Sl.nil⟩ : CLog)) (Sl.rd_nil _ _)
 refine My true true ?_ (dt h1)
 refine Mf ?_ Try.call28 (fun bs w hS => ref_LogCopyR x w (Rds.kp hx hS.kp) (by omega))
 rintro y1 hF1
 obtain ⟨A1, c1, rfl⟩ := Sl.of_xs hF1
 refine m_weak (rowA 9 A1 c1 (x.entries.xs : List ByteArray)) (List.Sublist.refl _) (fun w h => h) ?_
 refine m_know (F := RowOk A1 c1 (x.entries.xs : List ByteArray)) (fun bs w hS => rowA_rok (hS.res _ i0)) fun hrow1 => ?_
 have nchrow1 := hrow1.2
 refine Ml (σ := Nat × Option Addr × Nat × List ByteArray) (fun ⟨i, A, c, E⟩ => i ≤ m.n ∧ putGo x.entries.xs (n - x.base).toNat (m.xs.drop (x.base - n).toNat) = putGo E ((n - x.base).toNat + (i - (x.base - n).toNat)) (m.xs.drop (max i (x.base - n).toNat)) ∧ (n - x.base).toNat + (i - (x.base - n).toNat) ≤ E.length ∧ E.length ≤ 400 + i ∧ ∀ z, z ∈ E → z.size ≤ 9223372036854775807) (fun ⟨i, A, c, E⟩ => m.n - i) (fun ⟨i, A, c, E⟩ => [rowA 9 A c (E : List ByteArray)]) [10, 9, 6, 3, 1, 2] (fun ⟨i, A, c, E⟩ => [(10, vI (i : Int))]) (fun ⟨i, A, c, E⟩ => [(2, [vI x.base, .v (.slice A E.length c)])]) ?_ (⟨0, A1, c1, x.entries.xs⟩) ⟨Nat.zero_le _, by rw [Nat.zero_max]; simp, by omega, by omega, hmsz⟩
 rintro ⟨i, A, c, E⟩ ⟨hi, hP, hE, hE4, hEs⟩ _ on1
 refine m_know (F := RowOk A c (E : List ByteArray)) (fun bs w hS => rowA_rok (hS.res _ i0)) fun hrow => ?_
 have nch := hrow.2
 refine Md ((i : Int) < (m.n : Int)) (fun h8 => ?_) fun h8 => ?_
 rotate_left
 · refine Md ((400 : Int) < (E.length : Int)) (fun h13 => ?_) fun h13 => ?_
   rotate_left
   · have hpg : putGo x.entries.xs (n - x.base).toNat (m.xs.drop (x.base - n).toNat) = (E, 0) := by rw [hP]; exact putGo_end (by omega)
     have hm : mPut x.abs n m.xs = (⟨x.base, E⟩, 0) := by grind [mPut]
     exact Me2 hm ⟨x.base, ⟨A, c, E⟩⟩ rfl fun bs w hS => hS.outS (y := (⟨x.base, ⟨A, c, E⟩⟩ : CLog)) (allR_row i0 (hS.res _ i0) hEs)
   have hpg : putGo x.entries.xs (n - x.base).toNat (m.xs.drop (x.base - n).toNat) = (E, 0) := by rw [hP]; exact putGo_end (by omega)
   have hm : mPut x.abs n m.xs = (zLog, 8) := by
     unfold mPut; rw [if_neg (by simpa using (by assumption : mLog _ = 0)), hla, q1, q2]
     first | rw [if_pos (by omega)] | rw [if_neg (by omega), if_pos (by omega)] | rw [if_neg (by omega), if_neg (by omega), if_pos (by omega)] | (rw [if_neg (by omega), if_neg (by omega), if_neg (by omega), hpg, if_neg (by simp), if_pos (by show 400 < E.length; omega)])
     all_goals first | rfl | (exfalso; omega)
   exact Me2 hm ⟨0, Sl.nil⟩ rfl fun bs w hS => hS.outS (y := (⟨0, Sl.nil⟩ : CLog)) (Sl.rd_nil _ _)
 refine Mi ?_ (pc (pR (n + (i : Int))) (pR ((n + (i : Int)) + 1)))
 refine Md ((n + (i : Int)) + 1 ≤ x.base) (fun h9 => ?_) fun h9 => ?_
 · refine Mi ?_ (pR ((i : Int) + 1))
   exact on1 ⟨i + 1, A, c, E⟩ ⟨by omega, by rw [hP, show i + 1 - (x.base - n).toNat = i - (x.base - n).toNat by omega, show max (i + 1) (x.base - n).toNat = max i (x.base - n).toNat by omega], by omega, by omega, hEs⟩ (by show m.n - (i + 1) < m.n - i; omega)
 refine Mi ?_ (pA 61 62 (i : Int) i (rdk hm))
 refine Mp ?_ Try.call82 (fun bs w hS => ref_CommandOf (m.at i) w (Sl.ok.at (s := m) (i := i) okm (by omega)))
 refine Mdn ((mDecode (m.at i)).2 = 0) (fun h10 => ?_) fun h10 => ?_
 rotate_left
 · have hpg : putGo x.entries.xs (n - x.base).toNat (m.xs.drop (x.base - n).toNat) = ([], (mDecode (m.at i)).2) := by rw [hP]; rw [Nat.max_eq_left (by omega)]; exact putGo_bad (by omega) h10
   have hm : mPut x.abs n m.xs = (zLog, (mDecode (m.at i)).2) := by grind [mPut]
   exact Me2 hm ⟨0, Sl.nil⟩ rfl fun bs w hS => hS.outS (y := (⟨0, Sl.nil⟩ : CLog)) (Sl.rd_nil _ _)
 refine Mdr 20 ?_ Try_mixed
 refine Mp ?_ Try.call81 (fun bs w hS => ref_LastOf (⟨x.base, ⟨A, c, E⟩⟩ : CLog) w (Rr (hS.res _ i0) (fun _ _ => trivial) hEs : Sl.rd anyB w _) ⟨by omega, by omega, by show (E).length ≤ 1048576; omega⟩)
 refine Md ((n + (i : Int)) + 1 ≤ x.base + ((E).length : Int)) (fun h11 => ?_) fun h11 => ?_
 rotate_left
 · refine Mz ?_
   refine Mdr 14 ?_ Try_mixed
   refine Mih ?_ (pc (pR (((n + (i : Int)) + 1) - x.base)) (pc (pR ((((n + (i : Int)) + 1) - x.base) - 1)) (pc (pG [(97, .sl 0 ((((n + (i : Int)) + 1) - x.base) - 1).toNat)] (oc (rfl : 0 = 0) (oc ((by omega) : (((n + (i : Int)) + 1) - x.base) - 1 = ((((((n + (i : Int)) + 1) - x.base) - 1).toNat : Nat) : Int)) (oc ((by omega) : ((((n + (i : Int)) + 1) - x.base) - 1).toNat ≤ c) on)))) (pA 101 102 (i : Int) i (rdk hm)))))
   refine Mbr ?_ ?_
   · refine m_rowA (α := ByteArray) 9 ?_
     refine Ma ?_ (α := ByteArray) (L2 := (E).take ((((n + (i : Int)) + 1) - x.base) - 1).toNat) 16 (fun bs w hS => SrcAt.takeL (rowA_src (hS.res _ i1)) (by omega)) (hn2 := (by rw [List.length_take]; exact Nat.min_eq_left (by omega)))
     intro A7 c7
     refine m_weak (rowA 9 A7 c7 ((E).take ((((n + (i : Int)) + 1) - x.base) - 1).toNat : List ByteArray)) (List.Sublist.refl _) (fun w h => h) ?_
     refine M1 ?_ (hR := (.cons _ (List.Sublist.refl _)))
     refine Mz ?_
     refine Mal (α := ByteArray) 16 ([(m.at i)]) ?_
     intro A8 c8
     refine Mi ?_ (pR ((i : Int) + 1))
     refine m_sub (R' := [rowA 9 A8 c8 ((E).take ((((n + (i : Int)) + 1) - x.base) - 1).toNat ++ [(m.at i)] : List ByteArray)]) (.cons_cons _ (.cons _ .slnil)) ?_
     exact on1 ⟨i + 1, A8, c8, (E).take ((((n + (i : Int)) + 1) - x.base) - 1).toNat ++ [(m.at i)]⟩ ⟨by omega, by rw [Nat.max_eq_left (show (x.base - n).toNat ≤ i + 1 by omega), hP, Nat.max_eq_left (show (x.base - n).toNat ≤ i by omega), Pn (by omega) h10, putOne_new (k := (n - x.base).toNat + (i - (x.base - n).toNat)) (by rintro ⟨hz1, hz2⟩; omega), show (n - x.base).toNat + (i - (x.base - n).toNat) + 1 = (n - x.base).toNat + (i + 1 - (x.base - n).toNat) by omega]; (rw [show (n - x.base).toNat + (i - (x.base - n).toNat) = ((((n + (i : Int)) + 1) - x.base) - 1).toNat by omega] <;> rfl), by simp only [List.length_append, List.length_take, List.length_cons, List.length_nil]; omega, by simp only [List.length_append, List.length_take, List.length_cons, List.length_nil]; omega, fun z hz => by simp only [List.nil_append, List.mem_append, List.mem_singleton] at hz; rcases hz with hz | hz; exact hEs z (List.mem_of_mem_take hz); subst hz; exact mDecode_size h10⟩ (by show m.n - (i + 1) < m.n - i; omega)
   refine M1 ?_
   refine m_rowA (α := ByteArray) 9 ?_
   refine Ma ?_ (α := ByteArray) (L2 := (E).take ((((n + (i : Int)) + 1) - x.base) - 1).toNat) 16 (fun bs w hS => SrcAt.takeL (rowA_src (hS.res _ i1)) (by omega)) (hn2 := (by rw [List.length_take]; exact Nat.min_eq_left (by omega)))
   intro A9 c9
   refine m_weak (rowA 9 A9 c9 ((E).take ((((n + (i : Int)) + 1) - x.base) - 1).toNat : List ByteArray)) (List.Sublist.refl _) (fun w h => h) ?_
   refine Mz ?_
   refine Mal (α := ByteArray) 16 ([(m.at i)]) ?_
   intro A10 c10
   refine Mi ?_ (pR ((i : Int) + 1))
   refine m_sub (R' := [rowA 9 A10 c10 ((E).take ((((n + (i : Int)) + 1) - x.base) - 1).toNat ++ [(m.at i)] : List ByteArray)]) (.cons_cons _ (.cons _ .slnil)) ?_
   exact on1 ⟨i + 1, A10, c10, (E).take ((((n + (i : Int)) + 1) - x.base) - 1).toNat ++ [(m.at i)]⟩ ⟨by omega, by rw [Nat.max_eq_left (show (x.base - n).toNat ≤ i + 1 by omega), hP, Nat.max_eq_left (show (x.base - n).toNat ≤ i by omega), Pn (by omega) h10, putOne_new (k := (n - x.base).toNat + (i - (x.base - n).toNat)) (by rintro ⟨hz1, hz2⟩; omega), show (n - x.base).toNat + (i - (x.base - n).toNat) + 1 = (n - x.base).toNat + (i + 1 - (x.base - n).toNat) by omega]; (rw [show (n - x.base).toNat + (i - (x.base - n).toNat) = ((((n + (i : Int)) + 1) - x.base) - 1).toNat by omega] <;> rfl), by simp only [List.length_append, List.length_take, List.length_cons, List.length_nil]; omega, by simp only [List.length_append, List.length_take, List.length_cons, List.length_nil]; omega, fun z hz => by simp only [List.nil_append, List.mem_append, List.mem_singleton] at hz; rcases hz with hz | hz; exact hEs z (List.mem_of_mem_take hz); subst hz; exact mDecode_size h10⟩ (by show m.n - (i + 1) < m.n - i; omega)
 refine Mih ?_ (pc (pR (((n + (i : Int)) + 1) - x.base)) (pc (pR ((((n + (i : Int)) + 1) - x.base) - 1)) (pc (pIo 82 ((((n + (i : Int)) + 1) - x.base) - 1) ((((n + (i : Int)) + 1) - x.base) - 1).toNat E.length i0) (pc (pEo 83 ((((n + (i : Int)) + 1) - x.base) - 1).toNat i0) (pA 86 87 (i : Int) i (rdk hm))))))
 refine Mz ?_
 refine Md ((E.getD ((((n + (i : Int)) + 1) - x.base) - 1).toNat default) = (m.at i)) (fun h12 => ?_) fun h12 => ?_
 · refine Mi ?_ (pR ((i : Int) + 1))
   exact on1 ⟨i + 1, A, c, E⟩ ⟨by omega, by rw [Nat.max_eq_left (show (x.base - n).toNat ≤ i + 1 by omega), hP, Nat.max_eq_left (show (x.base - n).toNat ≤ i by omega), Pn (by omega) h10, putOne_same (k := (n - x.base).toNat + (i - (x.base - n).toNat)) (by omega) (by rw [show (n - x.base).toNat + (i - (x.base - n).toNat) = ((((n + (i : Int)) + 1) - x.base) - 1).toNat by omega]; exact h12), show (n - x.base).toNat + (i - (x.base - n).toNat) + 1 = (n - x.base).toNat + (i + 1 - (x.base - n).toNat) by omega], by omega, by omega, hEs⟩ (by show m.n - (i + 1) < m.n - i; omega)
 refine Mdr 14 ?_ Try_mixed
 refine Mih ?_ (pc (pR (((n + (i : Int)) + 1) - x.base)) (pc (pR ((((n + (i : Int)) + 1) - x.base) - 1)) (pc (pG [(97, .sl 0 ((((n + (i : Int)) + 1) - x.base) - 1).toNat)] (oc (rfl : 0 = 0) (oc ((by omega) : (((n + (i : Int)) + 1) - x.base) - 1 = ((((((n + (i : Int)) + 1) - x.base) - 1).toNat : Nat) : Int)) (oc ((by omega) : ((((n + (i : Int)) + 1) - x.base) - 1).toNat ≤ c) on)))) (pA 101 102 (i : Int) i (rdk hm)))))
 refine Mbr ?_ ?_
 · refine m_rowA (α := ByteArray) 9 ?_
   refine Ma ?_ (α := ByteArray) (L2 := (E).take ((((n + (i : Int)) + 1) - x.base) - 1).toNat) 16 (fun bs w hS => SrcAt.takeL (rowA_src (hS.res _ i1)) (by omega)) (hn2 := (by rw [List.length_take]; exact Nat.min_eq_left (by omega)))
   intro A3 c3
   refine m_weak (rowA 9 A3 c3 ((E).take ((((n + (i : Int)) + 1) - x.base) - 1).toNat : List ByteArray)) (List.Sublist.refl _) (fun w h => h) ?_
   refine M1 ?_ (hR := (.cons _ (List.Sublist.refl _)))
   refine Mz ?_
   refine Mal (α := ByteArray) 16 ([(m.at i)]) ?_
   intro A4 c4
   refine Mi ?_ (pR ((i : Int) + 1))
   refine m_sub (R' := [rowA 9 A4 c4 ((E).take ((((n + (i : Int)) + 1) - x.base) - 1).toNat ++ [(m.at i)] : List ByteArray)]) (.cons_cons _ (.cons _ .slnil)) ?_
   exact on1 ⟨i + 1, A4, c4, (E).take ((((n + (i : Int)) + 1) - x.base) - 1).toNat ++ [(m.at i)]⟩ ⟨by omega, by rw [Nat.max_eq_left (show (x.base - n).toNat ≤ i + 1 by omega), hP, Nat.max_eq_left (show (x.base - n).toNat ≤ i by omega), Pn (by omega) h10, putOne_new (k := (n - x.base).toNat + (i - (x.base - n).toNat)) (by rintro ⟨hz1, hz2⟩; first | omega | (rw [show (n - x.base).toNat + (i - (x.base - n).toNat) = ((((n + (i : Int)) + 1) - x.base) - 1).toNat by omega] at hz2; exact h12 hz2)), show (n - x.base).toNat + (i - (x.base - n).toNat) + 1 = (n - x.base).toNat + (i + 1 - (x.base - n).toNat) by omega]; (rw [show (n - x.base).toNat + (i - (x.base - n).toNat) = ((((n + (i : Int)) + 1) - x.base) - 1).toNat by omega] <;> rfl), by simp only [List.length_append, List.length_take, List.length_cons, List.length_nil]; omega, by simp only [List.length_append, List.length_take, List.length_cons, List.length_nil]; omega, fun z hz => by simp only [List.nil_append, List.mem_append, List.mem_singleton] at hz; rcases hz with hz | hz; exact hEs z (List.mem_of_mem_take hz); subst hz; exact mDecode_size h10⟩ (by show m.n - (i + 1) < m.n - i; omega)
 refine M1 ?_
 refine m_rowA (α := ByteArray) 9 ?_
 refine Ma ?_ (α := ByteArray) (L2 := (E).take ((((n + (i : Int)) + 1) - x.base) - 1).toNat) 16 (fun bs w hS => SrcAt.takeL (rowA_src (hS.res _ i1)) (by omega)) (hn2 := (by rw [List.length_take]; exact Nat.min_eq_left (by omega)))
 intro A5 c5
 refine m_weak (rowA 9 A5 c5 ((E).take ((((n + (i : Int)) + 1) - x.base) - 1).toNat : List ByteArray)) (List.Sublist.refl _) (fun w h => h) ?_
 refine Mz ?_
 refine Mal (α := ByteArray) 16 ([(m.at i)]) ?_
 intro A6 c6
 refine Mi ?_ (pR ((i : Int) + 1))
 refine m_sub (R' := [rowA 9 A6 c6 ((E).take ((((n + (i : Int)) + 1) - x.base) - 1).toNat ++ [(m.at i)] : List ByteArray)]) (.cons_cons _ (.cons _ .slnil)) ?_
 exact on1 ⟨i + 1, A6, c6, (E).take ((((n + (i : Int)) + 1) - x.base) - 1).toNat ++ [(m.at i)]⟩ ⟨by omega, by rw [Nat.max_eq_left (show (x.base - n).toNat ≤ i + 1 by omega), hP, Nat.max_eq_left (show (x.base - n).toNat ≤ i by omega), Pn (by omega) h10, putOne_new (k := (n - x.base).toNat + (i - (x.base - n).toNat)) (by rintro ⟨hz1, hz2⟩; first | omega | (rw [show (n - x.base).toNat + (i - (x.base - n).toNat) = ((((n + (i : Int)) + 1) - x.base) - 1).toNat by omega] at hz2; exact h12 hz2)), show (n - x.base).toNat + (i - (x.base - n).toNat) + 1 = (n - x.base).toNat + (i + 1 - (x.base - n).toNat) by omega]; (rw [show (n - x.base).toNat + (i - (x.base - n).toNat) = ((((n + (i : Int)) + 1) - x.base) - 1).toNat by omega] <;> rfl), by simp only [List.length_append, List.length_take, List.length_cons, List.length_nil]; omega, by simp only [List.length_append, List.length_take, List.length_cons, List.length_nil]; omega, fun z hz => by simp only [List.nil_append, List.mem_append, List.mem_singleton] at hz; rcases hz with hz | hz; exact hEs z (List.mem_of_mem_take hz); subst hz; exact mDecode_size h10⟩ (by show m.n - (i + 1) < m.n - i; omega)

theorem law_LogPuts {B B' : Nat → Prop} (x : CLog) (n : Int) (m : Sl ByteArray) (w : World) (hx : Rds.sub B w x) (hm : m.rd B' w) (hsm : Rds.small x) (hsn : Rds.small m) : Calls Try.prog 8 #[x.val, vi n, m.val] w fun e w' => e = .returned (vb true) ∧ Kp [] w w' := by
 have okx := Rds.okof hx
 have okm := Sl.rd.ok hm
 have ncm := Sl.ok.nc okm
 have hsn1 : m.xs.length * 16 ≤ 140737488355328 := hsn.1
 refine M0 ?_ Try.func8
 refine Mu ?_ Try.call28 (fun bs w hS => ref_LogCopy x w (Rds.kp hx hS.kp) hsm)
 rintro fp1 y1 hF1 hok1
 refine Mdr 11 ?_ Try_mixed
 refine Mbr ?_ ?_
 · refine m_rowA (α := ByteArray) 9 ?_
   refine Ma ?_ (α := ByteArray) (L2 := m.xs) 16 (fun bs w hS => Sl.rd.src (s := m) (Sl.rd.kp hm hS.kp))
   intro A2 c2
   refine m_weak (rowA 9 A2 c2 (m.xs : List ByteArray)) (List.Sublist.refl _) (fun w h => h) ?_
   refine Mbr ?_ ?_ (hR := (.cons _ (List.Sublist.refl _)))
   · refine Mu ?_ Try.call29 (fun bs w hS => log_Put y1 n (⟨A2, c2, m.xs⟩ : Sl ByteArray) w (hS.res _ i1) (Rr (B := anyB) (hS.res _ i0) (fun _ _ => trivial) (fun z hz => Sl.rd.mem (s := m) hm z hz))) (hR := fun _ _ => (.cons _ (.cons _ (List.Sublist.refl _))))
     rintro fp3 y3 hF3 hok3
     refine Mz ?_
     refine Mu ?_ Try.call30 (fun bs w hS => ref_PutOf x n m w (Rds.kp hx hS.kp) (Sl.rd.kp hm hS.kp))
     rintro fp4 y4 hF4 hok4
     refine Md ((mPut y1.abs n m.xs).2 = (mPut x.abs n m.xs).2) (fun h1 => ?_) fun h1 => ?_
     rotate_left
     · exfalso; first | (simp at h1; done) | (rw [hF1] at h1; simp at h1; done)
     refine Mp ?_ Try.call31 (fun bs w hS => same_log y3 y4 w (hS.res _ i1) (hS.res _ i0) (by rw [hF3, hF4, hF1] <;> rfl))
     refine Mq 37 true ?_ rfl
     refine Mp ?_ Try.call31 (fun bs w hS => same_log y1 x w (hS.res _ i3) (Rds.kp hx hS.kp) hF1)
     exact Meb true (by simp [retOf, den])
   refine Mu ?_ Try.call29 (fun bs w hS => log_Put y1 n (⟨A2, c2, m.xs⟩ : Sl ByteArray) w (hS.res _ i1) (Rr (B := anyB) (hS.res _ i0) (fun _ _ => trivial) (fun z hz => Sl.rd.mem (s := m) hm z hz))) (hR := fun _ _ => (.cons _ (.cons _ (List.Sublist.refl _))))
   rintro fp5 y5 hF5 hok5
   refine Mz ?_
   refine Mu ?_ Try.call30 (fun bs w hS => ref_PutOf x n m w (Rds.kp hx hS.kp) (Sl.rd.kp hm hS.kp))
   rintro fp6 y6 hF6 hok6
   refine Md ((mPut y1.abs n m.xs).2 = (mPut x.abs n m.xs).2) (fun h2 => ?_) fun h2 => ?_
   rotate_left
   · exfalso; first | (simp at h2; done) | (rw [hF1] at h2; simp at h2; done)
   refine Mp ?_ Try.call31 (fun bs w hS => same_log y5 y6 w (hS.res _ i1) (hS.res _ i0) (by rw [hF5, hF6, hF1] <;> rfl))
   refine Mq 37 true ?_ rfl
   refine Mp ?_ Try.call31 (fun bs w hS => same_log y1 x w (hS.res _ i3) (Rds.kp hx hS.kp) hF1)
   exact Meb true (by simp [retOf, den])
 refine m_rowA (α := ByteArray) 9 ?_
 refine Ma ?_ (α := ByteArray) (L2 := m.xs) 16 (fun bs w hS => Sl.rd.src (s := m) (Sl.rd.kp hm hS.kp))
 intro A7 c7
 refine m_weak (rowA 9 A7 c7 (m.xs : List ByteArray)) (List.Sublist.refl _) (fun w h => h) ?_
 refine Mu ?_ Try.call29 (fun bs w hS => log_Put y1 n (⟨A7, c7, m.xs⟩ : Sl ByteArray) w (hS.res _ i1) (Rr (B := anyB) (hS.res _ i0) (fun _ _ => trivial) (fun z hz => Sl.rd.mem (s := m) hm z hz))) (hR := fun _ _ => (.cons _ (.cons _ (List.Sublist.refl _))))
 rintro fp8 y8 hF8 hok8
 refine Mz ?_
 refine Mu ?_ Try.call30 (fun bs w hS => ref_PutOf x n m w (Rds.kp hx hS.kp) (Sl.rd.kp hm hS.kp))
 rintro fp9 y9 hF9 hok9
 refine Md ((mPut y1.abs n m.xs).2 = (mPut x.abs n m.xs).2) (fun h3 => ?_) fun h3 => ?_
 rotate_left
 · exfalso; first | (simp at h3; done) | (rw [hF1] at h3; simp at h3; done)
 refine Mp ?_ Try.call31 (fun bs w hS => same_log y8 y9 w (hS.res _ i1) (hS.res _ i0) (by rw [hF8, hF9, hF1] <;> rfl))
 refine Mq 37 true ?_ rfl
 refine Mp ?_ Try.call31 (fun bs w hS => same_log y1 x w (hS.res _ i3) (Rds.kp hx hS.kp) hF1)
 exact Meb true (by simp [retOf, den])

end Go.Proofs.Ytakdjdfkdbofoab.W
