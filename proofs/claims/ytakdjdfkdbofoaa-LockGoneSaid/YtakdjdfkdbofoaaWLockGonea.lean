/-
  The functions that the law LockGone reaches, walked: each returns what its model says.
  Conditions: those that each theorem states.
-/
import Derived.Test.YtakdjdfkdbofoaaFe
import Derived.Test.YtakdjdfkdbofoaaChecked
set_option linter.unusedVariables false
set_option linter.unusedSimpArgs false
set_option maxRecDepth 100000
set_option maxHeartbeats 2000000
namespace Go.Proofs.Ytakdjdfkdbofoaa.W
open Go.Proofs.Ytakdjdfkdbofoaa.Fw Go.RowKit
attribute [local irreducible] JM nx

theorem Try_mixed : Try.prog.follows .mixedOrders = true := by kernel_rfl
theorem laid : laidOutB Try.prog = true := by kernel_rfl

theorem ref_In (n lo hi : Int) (w : World) : Calls Try.prog 64 #[vi n, vi lo, vi hi] w fun e w' => e = .returned (vb (inB n lo hi)) ∧ Kp [] w w' := by
 refine M0 ?_ Try.func64
 refine Md (lo ≤ n) (fun h1 => ?_) fun h1 => ?_
 rotate_left
 · exact Mt [vb false] fun bs w hS => ⟨by simp [retOf, den, inB, h1], hS.kp⟩
 exact Mt [vb (decide (n ≤ hi))] fun bs w hS => ⟨by simp [retOf, den, inB, h1], hS.kp⟩

theorem lock_Name1 (c : UInt8) (w : World) : Calls Try.prog 90 #[.int .u8 (c.toNat : Int)] w fun e w' => e = .returned (vb (nameBad c)) ∧ Kp [] w w' := by
 refine M0 ?_ Try.func90
 refine Md ((c.toNat : Int) < 97) (fun h1 => ?_) fun h1 => ?_
 · exact Mt [vb true] fun bs w hS => ⟨by simp [retOf, den, nameBad, h1], hS.kp⟩
 exact Mt [vb (decide ((122 : Int) < (c.toNat : Int)))] fun bs w hS => ⟨by simp [retOf, den, nameBad, h1], hS.kp⟩

theorem idx_bytes {B : Nat → Prop} (s : Sl UInt8) (w : World) (hs : s.rd B w) : Calls Try.prog 92 #[s.val, .func (.func 90) #[] #[]] w fun e w' => e = .returned (vi (mIdx nameBad s.xs)) ∧ Kp [] w w' := by
 have oks := Sl.rd.ok hs
 have ncs := Sl.ok.nc oks
 have hns : s.n = s.xs.length := rfl
 refine Mj ?_ Try.func92 (WS.start w)
 refine Ml (σ := Nat) (fun i => i ≤ s.n ∧ ∀ j, j < i → nameBad (s.at j) = false) (fun i => s.n - i) (fun _ => []) [8, 7, 0, 1] (fun i => [(8, vI (i : Int))]) (fun _ => []) ?_ 0 ⟨Nat.zero_le _, fun j hj => absurd hj (Nat.not_lt_zero _)⟩
 rintro i ⟨hi, hI⟩ _ on1
 refine Md ((i : Int) < (s.n : Int)) (fun h1 => ?_) fun h1 => ?_
 rotate_left
 · exact Me0 (-1) (by rw [mIdx_none fun j hj => hI j (by omega)])
 refine Mi ?_ (pA 14 15 (i : Int) i (rdk hs))
 refine Mp ?_ Try.call90 (fun bs w hS => lock_Name1 (s.at i) w)
 refine Mb (nameBad (s.at i)) (fun h2 => ?_) fun h2 => ?_
 · exact Me0 (i : Int) (by rw [mIdx_here (by omega) (by assumption) hI])
 refine Mi ?_ (pR ((i : Int) + 1))
 exact on1 (i + 1) ⟨by omega, fun j hj => by rcases Nat.lt_succ_iff_lt_or_eq.1 hj with h | h; exact hI j h; subst h; assumption⟩ (by omega)

theorem has_bytes {B : Nat → Prop} (s : Sl UInt8) (w : World) (hs : s.rd B w) : Calls Try.prog 89 #[s.val, .func (.func 90) #[] #[]] w fun e w' => e = .returned (vb (s.xs.any nameBad)) ∧ Kp [] w w' := by
 have oks := Sl.rd.ok hs
 have ncs := Sl.ok.nc oks
 have hns : s.n = s.xs.length := rfl
 refine Mj ?_ Try.func89 (WS.start w)
 refine Mp ?_ Try.call92 (fun bs w hS => idx_bytes _ w (Sl.rd.kp hs hS.kp))
 exact Meb (decide ((0 : Int) ≤ mIdx nameBad s.xs)) (by simp only [retOf, den, List.map_cons, List.map_nil, mIdx_nonneg])

theorem lock_Name (s : ByteArray) (w : World) (hs : s.size ≤ 9223372036854775807) : Calls Try.prog 83 #[vs s] w fun e w' => e = .returned (vb (mName s)) ∧ Kp [] w w' := by
 refine M0 ?_ Try.func83
 refine Mdn (s = emp) (fun h1 => ?_) fun h1 => ?_
 · exact Meb false (by simp [retOf, den, mName, *])
 refine Md ((s.size : Int) ≤ 6) (fun h2 => ?_) fun h2 => ?_
 rotate_left
 · exact Meb false (by simp [retOf, den, mName, *])
 refine Msy ?_ (e := 5) (by unfold maxLen; omega)
 rintro fp1 y1 hF1 hok1
 refine Mp ?_ Try.call89 (fun bs w hS => has_bytes _ w (hS.res _ i0))
 exact Meb (!(y1.xs.any nameBad)) (by simp [retOf, den, mName, *])

theorem ref_NameMay (s : ByteArray) (w : World) (hs : s.size ≤ 9223372036854775807) : Calls Try.prog 84 #[vs s] w fun e w' => e = .returned (vb (mName s)) ∧ Kp [] w w' := by
 refine M0 ?_ Try.func84
 refine Ml (σ := Nat) (fun i => i ≤ s.size ∧ ∀ j, j < i → nameBad (s.data.getD j 0) = false) (fun i => s.size - i) (fun _ => []) [3, 0] (fun i => [(3, vI (i : Int))]) (fun _ => []) ?_ 0 ⟨Nat.zero_le _, fun j hj => absurd hj (Nat.not_lt_zero _)⟩
 rintro i ⟨hi, hI⟩ _ on1
 have hu := (s.data.getD i 0).toNat_lt
 refine Md ((i : Int) < (s.size : Int)) (fun h1 => ?_) fun h1 => ?_
 rotate_left
 · refine Mp ?_ Try.call64 (fun bs w hS => ref_In (s.size : Int) 1 6 w)
   exact Meb (inB (s.size : Int) 1 6) (by simp only [retOf, den, List.map_cons, List.map_nil, mName_good fun j hj => hI j (by omega)])
 refine Mi ?_ (pc (pG [(12, .sidx i)] (oc (rfl : (i : Int) = (i : Int)) (oc ((by omega) : i < s.size) on))) (pc (pP (0 ≤ ((s.data.getD i 0).toNat : Int))) (pP (((s.data.getD i 0).toNat : Int) ≤ 255))))
 refine Mp ?_ Try.call64 (fun bs w hS => ref_In ((s.data.getD i 0).toNat : Int) 97 122 w)
 refine Mbn (inB ((s.data.getD i 0).toNat : Int) 97 122) (fun h2 => ?_) fun h2 => ?_
 rotate_left
 · refine Mt [vb false] fun bs w hS => ?_
   clear on1
   refine ⟨?_, hS.kp⟩
   rw [mName_bad (i := i) (by omega) (by simp only [inB, nameBad, Bool.and_eq_false_iff, Bool.or_eq_true, decide_eq_true_eq, decide_eq_false_iff_not] at *; omega)]
   rfl
 refine Mi ?_ (pR ((i : Int) + 1))
 exact on1 (i + 1) ⟨by omega, fun j hj => by rcases Nat.lt_succ_iff_lt_or_eq.1 hj with h | h; exact hI j h; subst h; simp only [inB, nameBad, Bool.and_eq_true, Bool.or_eq_false_iff, decide_eq_true_eq, decide_eq_false_iff_not] at *; omega⟩ (by omega)

theorem lock_client (n : Int) (w : World) : Calls Try.prog 69 #[vi n] w fun e w' => e = .returned (vb (inB n 1 9)) ∧ Kp [] w w' := by
 refine M0 ?_ Try.func69
 refine Md ((1 : Int) ≤ n) (fun h1 => ?_) fun h1 => ?_
 rotate_left
 · exact Mt [vb false] fun bs w hS => ⟨by simp [retOf, den, inB, h1], hS.kp⟩
 exact Mt [vb (decide (n ≤ 9))] fun bs w hS => ⟨by simp [retOf, den, inB, h1], hS.kp⟩

theorem idx_ints {B : Nat → Prop} (s : Sl Int) (k : Nat) (n : Int) (w : World) (hs : s.rd B w) (hk : k ≤ s.n) : Calls Try.prog 70 #[.slice s.A k s.c, vi n] w fun e w' => e = .returned (vi (mIdx (fun z => decide (z = n)) (s.xs.take k))) ∧ Kp [] w w' := by
 have oks := Sl.rd.ok hs
 have ncs := Sl.ok.nc oks
 have hns : s.n = s.xs.length := rfl
 refine M0 ?_ Try.func70
 refine Ml (σ := Nat) (fun i => i ≤ k ∧ ∀ j, j < i → decide (s.at j = n) = false) (fun i => k - i) (fun _ => []) [8, 7, 0, 1] (fun i => [(8, vI (i : Int))]) (fun _ => []) ?_ 0 ⟨Nat.zero_le _, fun j hj => absurd hj (Nat.not_lt_zero _)⟩
 rintro i ⟨hi, hI⟩ _ on1
 refine Md ((i : Int) < (k : Int)) (fun h1 => ?_) fun h1 => ?_
 rotate_left
 · exact Me0 (-1) (by rw [mIdxT_none hk fun j hj => hI j (by omega)])
 refine Mi ?_ (pc (pIk 14 (i : Int) i k (rdk hs)) (pE 15 i (rdk hs)))
 refine Md (n = (s.at i)) (fun h2 => ?_) fun h2 => ?_
 · exact Me0 (i : Int) (by rw [mIdxT_here (i := i) hk (by omega) (decide_eq_true (by omega)) hI])
 refine Mi ?_ (pR ((i : Int) + 1))
 exact on1 (i + 1) ⟨by omega, fun j hj => by rcases Nat.lt_succ_iff_lt_or_eq.1 hj with h | h; exact hI j h; subst h; exact decide_eq_false (fun e => by omega)⟩ (by omega)

theorem has_ints {B : Nat → Prop} (s : Sl Int) (k : Nat) (n : Int) (w : World) (hs : s.rd B w) (hk : k ≤ s.n) : Calls Try.prog 91 #[.slice s.A k s.c, vi n] w fun e w' => e = .returned (vb ((s.xs.take k).any fun z => decide (z = n))) ∧ Kp [] w w' := by
 have oks := Sl.rd.ok hs
 have ncs := Sl.ok.nc oks
 have hns : s.n = s.xs.length := rfl
 refine M0 ?_ Try.func91
 refine Mp ?_ Try.call70 (fun bs w hS => idx_ints s k n w (Sl.rd.kp hs hS.kp) (by omega))
 exact Meb (decide ((0 : Int) ≤ mIdx (fun z => decide (z = n)) (s.xs.take k))) (by simp only [retOf, den, List.map_cons, List.map_nil, mIdx_nonneg])

theorem ref_has {B : Nat → Prop} (s : Sl Int) (k : Nat) (n : Int) (w : World) (hs : s.rd B w) (hk : k ≤ s.n) : Calls Try.prog 88 #[.slice s.A k s.c, vi n] w fun e w' => e = .returned (vb ((s.xs.take k).any fun z => decide (z = n))) ∧ Kp [] w w' := by
 have oks := Sl.rd.ok hs
 have ncs := Sl.ok.nc oks
 have hns : s.n = s.xs.length := rfl
 refine M0 ?_ Try.func88
 refine Ml (σ := Nat) (fun i => i ≤ k ∧ ∀ j, j < i → ¬ s.at j = n) (fun i => k - i) (fun _ => []) [5, 0, 1] (fun i => [(5, vI (i : Int))]) (fun _ => []) ?_ 0 ⟨Nat.zero_le _, fun j hj => absurd hj (Nat.not_lt_zero _)⟩
 rintro i ⟨hi, hI⟩ _ on1
 refine Md ((i : Int) < (k : Int)) (fun h1 => ?_) fun h1 => ?_
 rotate_left
 · exact Meb false (by rw [any_none hk fun j hj => hI j (by omega)])
 refine Mi ?_ (pc (pIk 14 (i : Int) i k (rdk hs)) (pE 15 i (rdk hs)))
 refine Md ((s.at i) = n) (fun h2 => ?_) fun h2 => ?_
 · exact Meb true (by rw [any_here (j := i) hk (by omega) (by assumption)])
 refine Mi ?_ (pR ((i : Int) + 1))
 exact on1 (i + 1) ⟨by omega, fun j hj => by rcases Nat.lt_succ_iff_lt_or_eq.1 hj with h | h; exact hI j h; subst h; assumption⟩ (by omega)

theorem lock_line {B : Nat → Prop} (x : CLock) (w : World) (hx : Rds.sub B w x) : Calls Try.prog 87 #[x.val] w fun e w' => e = .returned (vb (lineOk x.abs)) ∧ Kp [] w w' := by
 have okx := Rds.okof hx
 have ncx := Sl.ok.nc okx.2
 have hnx : x.line.n = x.line.xs.length := rfl
 have hll : x.abs.line.length = x.line.n := rfl
 have hho : x.abs.holder = x.holder := rfl
 have hp : ∀ q, posOk x.abs q = (inB (x.line.at q) 1 9 && (!decide (x.line.at q = x.holder) && !((x.line.xs.take q).any fun z => decide (z = x.line.at q)))) := fun _ => rfl
 refine M0 ?_ Try.func87
 refine Ml (σ := Nat) (fun i => i ≤ x.line.n ∧ allTo (posOk x.abs) i = true) (fun i => x.line.n - i) (fun _ => []) [8, 7, 6, 1] (fun i => [(8, vI (i : Int))]) (fun _ => []) ?_ 0 ⟨Nat.zero_le _, rfl⟩
 rintro i ⟨hi, hI⟩ _ on1
 refine Md ((i : Int) < (x.line.n : Int)) (fun h1 => ?_) fun h1 => ?_
 rotate_left
 · refine Md ((x.line.n : Int) ≤ 3) (fun h5 => ?_) fun h5 => ?_
   rotate_left
   · have hall : allTo (posOk x.abs) x.line.n = true := by rw [show x.line.n = i by omega]; exact hI
     have hm : lineOk x.abs = (false) := by
       rw [Bool.eq_iff_iff]
       simp only [lineOk, hll, hho, hall, Bool.true_and, Bool.and_eq_true, Bool.or_eq_true, Bool.not_eq_true', decide_eq_true_eq, decide_eq_false_iff_not, Bool.false_eq_true, iff_true, iff_false]
       omega
     exact Meb false hm
   refine Mdn (x.holder = 0) (fun h6 => ?_) fun h6 => ?_
   rotate_left
   · have hall : allTo (posOk x.abs) x.line.n = true := by rw [show x.line.n = i by omega]; exact hI
     have hm : lineOk x.abs = (true) := by
       rw [Bool.eq_iff_iff]
       simp only [lineOk, hll, hho, hall, Bool.true_and, Bool.and_eq_true, Bool.or_eq_true, Bool.not_eq_true', decide_eq_true_eq, decide_eq_false_iff_not, Bool.false_eq_true, iff_true, iff_false]
       omega
     exact Meb true hm
   have hall : allTo (posOk x.abs) x.line.n = true := by rw [show x.line.n = i by omega]; exact hI
   have hm : lineOk x.abs = (decide ((x.line.n : Int) = 0)) := by
     rw [Bool.eq_iff_iff]
     simp only [lineOk, hll, hho, hall, Bool.true_and, Bool.and_eq_true, Bool.or_eq_true, Bool.not_eq_true', decide_eq_true_eq, decide_eq_false_iff_not, Bool.false_eq_true, iff_true, iff_false]
     omega
   exact Meb (decide ((x.line.n : Int) = 0)) hm
 refine Mi ?_ (pA 11 12 (i : Int) i (s := x.line) (fun w hk hr => (Rds.kp hx hk).2))
 refine Mp ?_ Try.call69 (fun bs w hS => lock_client (x.line.at i) w)
 refine Mbn (inB (x.line.at i) 1 9) (fun h2 => ?_) fun h2 => ?_
 rotate_left
 · have hb : posOk x.abs i = false := by rw [hp]; simp [h1, h2]
   have hm : lineOk x.abs = false := by unfold lineOk; rw [allTo_bad hb (show i < x.abs.line.length by rw [hll]; omega)]; rfl
   exact Meb false hm
 refine Md ((x.line.at i) = x.holder) (fun h3 => ?_) fun h3 => ?_
 · have hb : posOk x.abs i = false := by rw [hp]; simp [h1, h2, h3]
   have hm : lineOk x.abs = false := by unfold lineOk; rw [allTo_bad hb (show i < x.abs.line.length by rw [hll]; omega)]; rfl
   exact Meb false hm
 refine Mi ?_ (pG [(26, .sl 0 i)] (oc (rfl : 0 = 0) (oc (rfl : (i : Int) = (i : Int)) (oc ((by omega) : i ≤ x.line.c) on))))
 refine Mp ?_ Try.call91 (fun bs w hS => has_ints x.line i (x.line.at i) w (Rds.kp hx hS.kp).2 (by omega))
 refine Mb ((x.line.xs.take i).any fun z => decide (z = (x.line.at i))) (fun h4 => ?_) fun h4 => ?_
 rotate_left
 · refine Mi ?_ (pR ((i : Int) + 1))
   exact on1 (i + 1) ⟨by omega, by show (allTo _ i && posOk x.abs i) = true; rw [hI, hp]; simp [*]⟩ (by omega)
 have hb : posOk x.abs i = false := by rw [hp]; simp [h1, h2, h3, h4]
 have hm : lineOk x.abs = false := by unfold lineOk; rw [allTo_bad hb (show i < x.abs.line.length by rw [hll]; omega)]; rfl
 exact Meb false hm

theorem lock_Check {B : Nat → Prop} (s : Sl CLock) (w : World) (hs : s.rd B w) : Calls Try.prog 68 #[s.val] w fun e w' => e = .returned (vi (mLocks (s.xs.map CLock.abs))) ∧ Kp [] w w' := by
 have oks := Sl.rd.ok hs
 have ncs := Sl.ok.nc oks
 have hns : s.n = s.xs.length := rfl
 have hat : ∀ q, (s.xs.map CLock.abs).getD q default = (s.at q).abs := fun q => abs_at q
 have hq1 : ∀ q, (s.at q).abs.name = (s.at q).name := fun _ => rfl
 have hq2 : ∀ q, (s.at q).abs.holder = (s.at q).holder := fun _ => rfl
 have hq3 : ∀ q, (s.at q).abs.fence = (s.at q).fence := fun _ => rfl
 have hml : (s.xs.map CLock.abs).length = s.n := by simp
 refine M0 ?_ Try.func68
 refine Md ((5 : Int) < (s.n : Int)) (fun h1 => ?_) fun h1 => ?_
 · have hm : mLocks (s.xs.map CLock.abs) = 1 := by
     grind [mLocks]
   exact Me0 1 hm
 refine Ml (σ := Nat) (fun i => i ≤ s.n ∧ mLocks (s.xs.map CLock.abs) = firstF (lockF (s.xs.map CLock.abs)) (s.n - i) i) (fun i => s.n - i) (fun _ => []) [10, 9, 8, 0] (fun i => [(10, vI (i : Int))]) (fun _ => []) ?_ 0 ⟨Nat.zero_le _, by unfold mLocks; rw [hml, if_neg (by omega)]⟩
 rintro i ⟨hi, hI⟩ _ on1
 refine Md ((i : Int) < (s.n : Int)) (fun h2 => ?_) fun h2 => ?_
 rotate_left
 · exact Me0 0 (by rw [hI, firstF_end (by omega)])
 refine Mi ?_ (pA 13 14 (i : Int) i (rdk hs))
 refine Mp ?_ Try.call83 (fun bs w hS => lock_Name _ w (Sl.ok.at (s := s) (i := i) oks (by omega)).1)
 refine Mbn (mName (s.at i).name) (fun h3 => ?_) fun h3 => ?_
 rotate_left
 · refine Me0 4 ?_
   have hf : lockF (s.xs.map CLock.abs) i = 4 := by
     grind [lockF]
   rw [hI, firstF_here (by omega) hf (by omega)]
 refine Mdn ((s.at i).holder = 0) (fun h4 => ?_) fun h4 => ?_
 · refine Mp ?_ Try.call87 (fun bs w hS => lock_line (s.at i) w (Sl.rd.sub (s := s) (i := i) (Sl.rd.kp hs hS.kp) (by omega)))
   refine Mbn (lineOk (s.at i).abs) (fun h5 => ?_) fun h5 => ?_
   rotate_left
   · refine Me0 4 ?_
     have hf : lockF (s.xs.map CLock.abs) i = 4 := by
       grind [lockF]
     rw [hI, firstF_here (by omega) hf (by omega)]
   refine Md ((s.at i).fence < 1) (fun h6 => ?_) fun h6 => ?_
   · refine Me0 2 ?_
     have hf : lockF (s.xs.map CLock.abs) i = 2 := by
       grind [lockF]
     rw [hI, firstF_here (by omega) hf (by omega)]
   refine Md ((1073741824 : Int) < (s.at i).fence) (fun h7 => ?_) fun h7 => ?_
   · refine Me0 2 ?_
     have hf : lockF (s.xs.map CLock.abs) i = 2 := by
       grind [lockF]
     rw [hI, firstF_here (by omega) hf (by omega)]
   refine Mda 13 [] [] [] Try_mixed ?_
   refine Md ((0 : Int) < (i : Int)) (fun h8 => ?_) fun h8 => ?_
   rotate_left
   · refine Mi ?_ (pR ((i : Int) + 1))
     have hf0 : lockF (s.xs.map CLock.abs) i = 0 := by
       grind [lockF]
     exact on1 (i + 1) ⟨by omega, by rw [hI]; exact firstF_step (by omega) hf0⟩ (by omega)
   refine Mih ?_ (pc (pR ((i : Int) - 1)) (pc (pI 49 ((i : Int) - 1) (i - 1) (rdk hs)) (pF 51 (i - 1) 0 1 (rdk hs))))
   refine Mbn (Op.bytesLess ((s.at (i - 1)).name).toList ((s.at i).name).toList) (fun h9 => ?_) fun h9 => ?_
   · refine Mi ?_ (pR ((i : Int) + 1))
     have hf0 : lockF (s.xs.map CLock.abs) i = 0 := by
       grind [lockF]
     exact on1 (i + 1) ⟨by omega, by rw [hI]; exact firstF_step (by omega) hf0⟩ (by omega)
   refine Me0 14 ?_
   have hf : lockF (s.xs.map CLock.abs) i = 14 := by
     grind [lockF]
   rw [hI, firstF_here (by omega) hf (by omega)]
 refine Mp ?_ Try.call69 (fun bs w hS => lock_client (s.at i).holder w)
 refine Mbn (inB (s.at i).holder 1 9) (fun h10 => ?_) fun h10 => ?_
 rotate_left
 · simp only [iT, iF] at h10
   refine Me0 4 ?_
   have hf : lockF (s.xs.map CLock.abs) i = 4 := by
     grind [lockF]
   rw [hI, firstF_here (by omega) hf (by omega)]
 simp only [iT, iF] at h10
 refine Mp ?_ Try.call87 (fun bs w hS => lock_line (s.at i) w (Sl.rd.sub (s := s) (i := i) (Sl.rd.kp hs hS.kp) (by omega)))
 refine Mbn (lineOk (s.at i).abs) (fun h11 => ?_) fun h11 => ?_
 rotate_left
 · refine Me0 4 ?_
   have hf : lockF (s.xs.map CLock.abs) i = 4 := by
     grind [lockF]
   rw [hI, firstF_here (by omega) hf (by omega)]
 refine Md ((s.at i).fence < 1) (fun h12 => ?_) fun h12 => ?_
 · refine Me0 2 ?_
   have hf : lockF (s.xs.map CLock.abs) i = 2 := by
     grind [lockF]
   rw [hI, firstF_here (by omega) hf (by omega)]
 refine Md ((1073741824 : Int) < (s.at i).fence) (fun h13 => ?_) fun h13 => ?_
 · refine Me0 2 ?_
   have hf : lockF (s.xs.map CLock.abs) i = 2 := by
     grind [lockF]
   rw [hI, firstF_here (by omega) hf (by omega)]
 refine Mda 13 [] [] [] Try_mixed ?_
 refine Md ((0 : Int) < (i : Int)) (fun h14 => ?_) fun h14 => ?_
 rotate_left
 · refine Mi ?_ (pR ((i : Int) + 1))
   have hf0 : lockF (s.xs.map CLock.abs) i = 0 := by
     grind [lockF]
   exact on1 (i + 1) ⟨by omega, by rw [hI]; exact firstF_step (by omega) hf0⟩ (by omega)
 refine Mih ?_ (pc (pR ((i : Int) - 1)) (pc (pI 49 ((i : Int) - 1) (i - 1) (rdk hs)) (pF 51 (i - 1) 0 1 (rdk hs))))
 refine Mbn (Op.bytesLess ((s.at (i - 1)).name).toList ((s.at i).name).toList) (fun h15 => ?_) fun h15 => ?_
 · refine Mi ?_ (pR ((i : Int) + 1))
   have hf0 : lockF (s.xs.map CLock.abs) i = 0 := by
     grind [lockF]
   exact on1 (i + 1) ⟨by omega, by rw [hI]; exact firstF_step (by omega) hf0⟩ (by omega)
 refine Me0 14 ?_
 have hf : lockF (s.xs.map CLock.abs) i = 14 := by
   grind [lockF]
 rw [hI, firstF_here (by omega) hf (by omega)]

theorem ref_LocksFault {B : Nat → Prop} (s : Sl CLock) (w : World) (hs : s.rd B w) : Calls Try.prog 73 #[s.val] w fun e w' => e = .returned (vi (mLocks (s.xs.map CLock.abs))) ∧ Kp [] w w' := by
 have oks := Sl.rd.ok hs
 have ncs := Sl.ok.nc oks
 have hns : s.n = s.xs.length := rfl
 have hat : ∀ q, (s.xs.map CLock.abs).getD q default = (s.at q).abs := fun q => abs_at q
 have hq1 : ∀ q, (s.at q).abs.name = (s.at q).name := fun _ => rfl
 have hq2 : ∀ q, (s.at q).abs.holder = (s.at q).holder := fun _ => rfl
 have hq3 : ∀ q, (s.at q).abs.fence = (s.at q).fence := fun _ => rfl
 have hml : (s.xs.map CLock.abs).length = s.n := by simp
 refine M0 ?_ Try.func73
 refine Md ((5 : Int) < (s.n : Int)) (fun h1 => ?_) (fun h1 => ?_)
 · refine Mt [.int .i64 1] fun bs w hS => ?_
   refine ⟨?_, hS.kp⟩
   simp only [retOf, den, List.map_cons, List.map_nil]
   have hm : mLocks (s.xs.map CLock.abs) = 1 := by
     grind [mLocks]
   rw [hm]
 refine Ml (σ := Nat) (fun i => i ≤ s.n ∧ mLocks (s.xs.map CLock.abs) = firstF (lockF (s.xs.map CLock.abs)) (s.n - i) i) (fun i => s.n - i) (fun _ => []) [3, 0] (fun i => [(3, vI (i : Int))]) (fun _ => []) ?_ 0 ⟨Nat.zero_le _, by unfold mLocks; rw [hml, if_neg (by omega)]⟩
 rintro i ⟨hi, hI⟩ _ on1
 have hp : ∀ q, posOk (s.at i).abs q = (inB ((s.at i).line.at q) 1 9 && (!decide ((s.at i).line.at q = (s.at i).holder) && !(((s.at i).line.xs.take q).any fun z => decide (z = (s.at i).line.at q)))) := fun _ => rfl
 refine Md ((i : Int) < (s.n : Int)) (fun h2 => ?_) (fun h2 => ?_)
 rotate_left
 · refine Mt [.int .i64 0] fun bs w hS => ?_
   refine ⟨?_, hS.kp⟩
   simp only [retOf, den, List.map_cons, List.map_nil]
   rw [hI, firstF_end (by omega)]
 refine Mi ?_ (pA 18 19 (i : Int) i (rdk hs))
 refine Mp ?_ Try.call84 (fun bs w hS => ref_NameMay _ w (Sl.ok.at (s := s) (i := i) oks (by omega)).1)
 refine Mbn (mName (s.at i).name) (fun h3 => ?_) (fun h3 => ?_)
 rotate_left
 · refine Ml (σ := Nat × Bool) (fun ⟨j, b⟩ => j ≤ (s.at i).line.n ∧ b = (true || !(allTo (posOk (s.at i).abs) j))) (fun ⟨j, b⟩ => (s.at i).line.n - j) (fun _ => []) [6, 5, 4, 3, 0] (fun ⟨j, b⟩ => [(6, vI (j : Int)), (5, vB b)]) (fun _ => []) ?_ (⟨0, true⟩) ⟨Nat.zero_le _, by simp [allTo]⟩
   rintro ⟨j, b⟩ ⟨hj, hJ⟩ _ on7
   have ncl := Sl.ok.nc (Sl.ok.at oks (show i < s.n by omega)).2
   refine Md ((j : Int) < (((s.at i).line.n : Nat) : Int)) (fun h33 => ?_) fun h33 => ?_
   · refine Mda 33 [] [] [] Try_mixed ?_
     refine Mb b (fun h34 => ?_) fun h34 => ?_
     rotate_left
     · exfalso; rw [h34] at hJ; simp at hJ
     refine Mi ?_ (pR ((j : Int) + 1))
     exact on7 ⟨j + 1, true⟩ ⟨by omega, by simp only [allTo, hp]; simp_all⟩ (by show (s.at i).line.n - (j + 1) < (s.at i).line.n - j; omega)
   refine Mb b (fun h35 => ?_) fun h35 => ?_
   rotate_left
   · exfalso; rw [h35] at hJ; simp at hJ
   refine Mt [vi 4] fun bs w hS => ?_
   clear on1 on7
   refine ⟨?_, hS.kp⟩
   simp only [retOf, den, List.map_cons, List.map_nil]
   have hf : lockF (s.xs.map CLock.abs) i = 4 := by
     have hor : mName (s.at i).name = false ∨ (s.at i).holder < 0 ∨ 9 < (s.at i).holder ∨ lineOk (s.at i).abs = false := by
       first | exact .inl (by assumption) | exact .inr ((show (s.at i).holder < 0 ∨ 9 < (s.at i).holder by omega).elim .inl (fun h => .inr (.inl h))) | exact .inr (.inr (.inr (lineOk_false (.inr (.inl (by show 3 < (s.at i).line.n; omega)))))) | exact .inr (.inr (.inr (lineOk_false (.inr (.inr ⟨by show (s.at i).holder = 0; omega, by show 0 < (s.at i).line.n; omega⟩))))) | exact .inr (.inr (.inr (lineOk_false (.inl (by show allTo _ (s.at i).line.n = false; rw [show (s.at i).line.n = j by omega]; cases hq : allTo (posOk (s.at i).abs) j <;> simp_all)))))
     grind [lockF]
   rw [hI, firstF_here (by omega) hf (by omega)]
 refine Mp ?_ Try.call64 (fun bs w hS => ref_In (s.at i).holder 0 9 w)
 refine Mbn (inB (s.at i).holder 0 9) (fun h4 => ?_) fun h4 => ?_
 rotate_left
 · simp only [iT, iF] at h4
   refine Ml (σ := Nat × Bool) (fun ⟨j, b⟩ => j ≤ (s.at i).line.n ∧ b = (true || !(allTo (posOk (s.at i).abs) j))) (fun ⟨j, b⟩ => (s.at i).line.n - j) (fun _ => []) [6, 5, 4, 3, 0] (fun ⟨j, b⟩ => [(6, vI (j : Int)), (5, vB b)]) (fun _ => []) ?_ (⟨0, true⟩) ⟨Nat.zero_le _, by simp [allTo]⟩
   rintro ⟨j, b⟩ ⟨hj, hJ⟩ _ on6
   have ncl := Sl.ok.nc (Sl.ok.at oks (show i < s.n by omega)).2
   refine Md ((j : Int) < (((s.at i).line.n : Nat) : Int)) (fun h30 => ?_) fun h30 => ?_
   · refine Mda 33 [] [] [] Try_mixed ?_
     refine Mb b (fun h31 => ?_) fun h31 => ?_
     rotate_left
     · exfalso; rw [h31] at hJ; simp at hJ
     refine Mi ?_ (pR ((j : Int) + 1))
     exact on6 ⟨j + 1, true⟩ ⟨by omega, by simp only [allTo, hp]; simp_all⟩ (by show (s.at i).line.n - (j + 1) < (s.at i).line.n - j; omega)
   refine Mb b (fun h32 => ?_) fun h32 => ?_
   rotate_left
   · exfalso; rw [h32] at hJ; simp at hJ
   refine Mt [vi 4] fun bs w hS => ?_
   clear on1 on6
   refine ⟨?_, hS.kp⟩
   simp only [retOf, den, List.map_cons, List.map_nil]
   have hf : lockF (s.xs.map CLock.abs) i = 4 := by
     have hor : mName (s.at i).name = false ∨ (s.at i).holder < 0 ∨ 9 < (s.at i).holder ∨ lineOk (s.at i).abs = false := by
       first | exact .inl (by assumption) | exact .inr ((show (s.at i).holder < 0 ∨ 9 < (s.at i).holder by omega).elim .inl (fun h => .inr (.inl h))) | exact .inr (.inr (.inr (lineOk_false (.inr (.inl (by show 3 < (s.at i).line.n; omega)))))) | exact .inr (.inr (.inr (lineOk_false (.inr (.inr ⟨by show (s.at i).holder = 0; omega, by show 0 < (s.at i).line.n; omega⟩))))) | exact .inr (.inr (.inr (lineOk_false (.inl (by show allTo _ (s.at i).line.n = false; rw [show (s.at i).line.n = j by omega]; cases hq : allTo (posOk (s.at i).abs) j <;> simp_all)))))
     grind [lockF]
   rw [hI, firstF_here (by omega) hf (by omega)]
 simp only [iT, iF] at h4
 refine Md ((3 : Int) < (((s.at i).line.n : Nat) : Int)) (fun h5 => ?_) fun h5 => ?_
 · refine Ml (σ := Nat × Bool) (fun ⟨j, b⟩ => j ≤ (s.at i).line.n ∧ b = (true || !(allTo (posOk (s.at i).abs) j))) (fun ⟨j, b⟩ => (s.at i).line.n - j) (fun _ => []) [6, 5, 4, 3, 0] (fun ⟨j, b⟩ => [(6, vI (j : Int)), (5, vB b)]) (fun _ => []) ?_ (⟨0, true⟩) ⟨Nat.zero_le _, by simp [allTo]⟩
   rintro ⟨j, b⟩ ⟨hj, hJ⟩ _ on2
   have ncl := Sl.ok.nc (Sl.ok.at oks (show i < s.n by omega)).2
   refine Md ((j : Int) < (((s.at i).line.n : Nat) : Int)) (fun h6 => ?_) fun h6 => ?_
   · refine Mda 33 [] [] [] Try_mixed ?_
     refine Mb b (fun h7 => ?_) fun h7 => ?_
     rotate_left
     · exfalso; rw [h7] at hJ; simp at hJ
     refine Mi ?_ (pR ((j : Int) + 1))
     exact on2 ⟨j + 1, true⟩ ⟨by omega, by simp only [allTo, hp]; simp_all⟩ (by show (s.at i).line.n - (j + 1) < (s.at i).line.n - j; omega)
   refine Mb b (fun h8 => ?_) fun h8 => ?_
   rotate_left
   · exfalso; rw [h8] at hJ; simp at hJ
   refine Mt [vi 4] fun bs w hS => ?_
   clear on1 on2
   refine ⟨?_, hS.kp⟩
   simp only [retOf, den, List.map_cons, List.map_nil]
   have hf : lockF (s.xs.map CLock.abs) i = 4 := by
     have hor : mName (s.at i).name = false ∨ (s.at i).holder < 0 ∨ 9 < (s.at i).holder ∨ lineOk (s.at i).abs = false := by
       first | exact .inl (by assumption) | exact .inr ((show (s.at i).holder < 0 ∨ 9 < (s.at i).holder by omega).elim .inl (fun h => .inr (.inl h))) | exact .inr (.inr (.inr (lineOk_false (.inr (.inl (by show 3 < (s.at i).line.n; omega)))))) | exact .inr (.inr (.inr (lineOk_false (.inr (.inr ⟨by show (s.at i).holder = 0; omega, by show 0 < (s.at i).line.n; omega⟩))))) | exact .inr (.inr (.inr (lineOk_false (.inl (by show allTo _ (s.at i).line.n = false; rw [show (s.at i).line.n = j by omega]; cases hq : allTo (posOk (s.at i).abs) j <;> simp_all)))))
     grind [lockF]
   rw [hI, firstF_here (by omega) hf (by omega)]
 refine Md ((s.at i).holder = 0) (fun h9 => ?_) fun h9 => ?_
 rotate_left
 · refine Ml (σ := Nat × Bool) (fun ⟨j, b⟩ => j ≤ (s.at i).line.n ∧ b = (false || !(allTo (posOk (s.at i).abs) j))) (fun ⟨j, b⟩ => (s.at i).line.n - j) (fun _ => []) [6, 5, 4, 3, 0] (fun ⟨j, b⟩ => [(6, vI (j : Int)), (5, vB b)]) (fun _ => []) ?_ (⟨0, false⟩) ⟨Nat.zero_le _, by simp [allTo]⟩
   rintro ⟨j, b⟩ ⟨hj, hJ⟩ _ on5
   have ncl := Sl.ok.nc (Sl.ok.at oks (show i < s.n by omega)).2
   refine Md ((j : Int) < (((s.at i).line.n : Nat) : Int)) (fun h22 => ?_) fun h22 => ?_
   · refine Mda 33 [] [] [] Try_mixed ?_
     refine Mb b (fun h23 => ?_) fun h23 => ?_
     · refine Mi ?_ (pR ((j : Int) + 1))
       exact on5 ⟨j + 1, true⟩ ⟨by omega, by simp only [allTo, hp]; simp_all⟩ (by show (s.at i).line.n - (j + 1) < (s.at i).line.n - j; omega)
     refine Mih ?_ (pA 59 60 (j : Int) j (s := (s.at i).line) (fun w hk hr => (Sl.rd.sub (s := s) (i := i) (Sl.rd.kp hs hk) (by omega)).2))
     refine Mp ?_ Try.call64 (fun bs w hS => ref_In ((s.at i).line.at j) 1 9 w)
     refine Mbn (inB ((s.at i).line.at j) 1 9) (fun h24 => ?_) fun h24 => ?_
     rotate_left
     · refine Mi ?_ (pR ((j : Int) + 1))
       exact on5 ⟨j + 1, true⟩ ⟨by omega, by simp only [allTo, hp]; simp_all⟩ (by show (s.at i).line.n - (j + 1) < (s.at i).line.n - j; omega)
     refine Mih ?_ (pA 68 69 (j : Int) j (s := (s.at i).line) (fun w hk hr => (Sl.rd.sub (s := s) (i := i) (Sl.rd.kp hs hk) (by omega)).2))
     refine Md (((s.at i).line.at j) = (s.at i).holder) (fun h25 => ?_) fun h25 => ?_
     · refine Mi ?_ (pR ((j : Int) + 1))
       exact on5 ⟨j + 1, true⟩ ⟨by omega, by simp only [allTo, hp]; simp_all⟩ (by show (s.at i).line.n - (j + 1) < (s.at i).line.n - j; omega)
     refine Mih ?_ (pc (pG [(78, .sl 0 j)] (oc (rfl : 0 = 0) (oc (rfl : (j : Int) = (j : Int)) (oc ((by omega) : j ≤ (s.at i).line.c) on)))) (pA 82 83 (j : Int) j (s := (s.at i).line) (fun w hk hr => (Sl.rd.sub (s := s) (i := i) (Sl.rd.kp hs hk) (by omega)).2)))
     refine Mp ?_ Try.call88 (fun bs w hS => ref_has (s.at i).line j ((s.at i).line.at j) w (Sl.rd.sub (s := s) (i := i) (Sl.rd.kp hs hS.kp) (by omega)).2 (by omega))
     refine Mi ?_ (pR ((j : Int) + 1))
     exact on5 ⟨j + 1, ((s.at i).line.xs.take j).any fun z => decide (z = ((s.at i).line.at j))⟩ ⟨by omega, by simp only [allTo, hp]; simp_all⟩ (by show (s.at i).line.n - (j + 1) < (s.at i).line.n - j; omega)
   refine Mb b (fun h26 => ?_) fun h26 => ?_
   · refine Mt [vi 4] fun bs w hS => ?_
     clear on1 on5
     refine ⟨?_, hS.kp⟩
     simp only [retOf, den, List.map_cons, List.map_nil]
     have hf : lockF (s.xs.map CLock.abs) i = 4 := by
       have hor : mName (s.at i).name = false ∨ (s.at i).holder < 0 ∨ 9 < (s.at i).holder ∨ lineOk (s.at i).abs = false := by
         first | exact .inl (by assumption) | exact .inr ((show (s.at i).holder < 0 ∨ 9 < (s.at i).holder by omega).elim .inl (fun h => .inr (.inl h))) | exact .inr (.inr (.inr (lineOk_false (.inr (.inl (by show 3 < (s.at i).line.n; omega)))))) | exact .inr (.inr (.inr (lineOk_false (.inr (.inr ⟨by show (s.at i).holder = 0; omega, by show 0 < (s.at i).line.n; omega⟩))))) | exact .inr (.inr (.inr (lineOk_false (.inl (by show allTo _ (s.at i).line.n = false; rw [show (s.at i).line.n = j by omega]; cases hq : allTo (posOk (s.at i).abs) j <;> simp_all)))))
       grind [lockF]
     rw [hI, firstF_here (by omega) hf (by omega)]
   refine Mp ?_ Try.call64 (fun bs w hS => ref_In (s.at i).fence 1 1073741824 w)
   refine Mbn (inB (s.at i).fence 1 1073741824) (fun h27 => ?_) fun h27 => ?_
   rotate_left
   · simp only [iT, iF] at h27
     refine Mt [vi 2] fun bs w hS => ?_
     clear on1 on5
     refine ⟨?_, hS.kp⟩
     simp only [retOf, den, List.map_cons, List.map_nil]
     have hf : lockF (s.xs.map CLock.abs) i = 2 := by
       have hjn : (s.at i).line.n = j := by omega
       have hall : allTo (posOk (s.at i).abs) (s.at i).line.n = true := by rw [hjn]; cases hq : allTo (posOk (s.at i).abs) j <;> simp_all
       have hlo : lineOk (s.at i).abs = true := lineOk_true hall (by show (s.at i).line.n ≤ 3; omega) (by show ¬ (s.at i).holder = 0 ∨ (s.at i).line.n = 0; omega)
       grind [lockF]
     rw [hI, firstF_here (by omega) hf (by omega)]
   simp only [iT, iF] at h27
   refine Mda 13 [] [] [] Try_mixed ?_
   refine Md ((0 : Int) < (i : Int)) (fun h28 => ?_) fun h28 => ?_
   rotate_left
   · refine Mi ?_ (pR ((i : Int) + 1))
     have hf0 : lockF (s.xs.map CLock.abs) i = 0 := by
       have hjn : (s.at i).line.n = j := by omega
       have hall : allTo (posOk (s.at i).abs) (s.at i).line.n = true := by rw [hjn]; cases hq : allTo (posOk (s.at i).abs) j <;> simp_all
       have hlo : lineOk (s.at i).abs = true := lineOk_true hall (by show (s.at i).line.n ≤ 3; omega) (by show ¬ (s.at i).holder = 0 ∨ (s.at i).line.n = 0; omega)
       grind [lockF]
     exact on1 (i + 1) ⟨by omega, by rw [hI]; exact firstF_step (by omega) hf0⟩ (by omega)
   refine Mih ?_ (pc (pR ((i : Int) - 1)) (pc (pI 99 ((i : Int) - 1) (i - 1) (rdk hs)) (pF 101 (i - 1) 0 1 (rdk hs))))
   refine Mb (Op.bytesLess ((s.at i).name).toList ((s.at (i - 1)).name).toList || decide ((s.at i).name = (s.at (i - 1)).name)) (fun h29 => ?_) fun h29 => ?_
   rotate_left
   · rw [bytes_total] at h29
     simp only [Bool.not_eq_true', Bool.not_eq_false', Bool.not_eq_true, Bool.not_eq_false] at h29
     refine Mi ?_ (pR ((i : Int) + 1))
     have hf0 : lockF (s.xs.map CLock.abs) i = 0 := by
       have hjn : (s.at i).line.n = j := by omega
       have hall : allTo (posOk (s.at i).abs) (s.at i).line.n = true := by rw [hjn]; cases hq : allTo (posOk (s.at i).abs) j <;> simp_all
       have hlo : lineOk (s.at i).abs = true := lineOk_true hall (by show (s.at i).line.n ≤ 3; omega) (by show ¬ (s.at i).holder = 0 ∨ (s.at i).line.n = 0; omega)
       grind [lockF]
     exact on1 (i + 1) ⟨by omega, by rw [hI]; exact firstF_step (by omega) hf0⟩ (by omega)
   rw [bytes_total] at h29
   simp only [Bool.not_eq_true', Bool.not_eq_false', Bool.not_eq_true, Bool.not_eq_false] at h29
   refine Mt [vi 14] fun bs w hS => ?_
   clear on1 on5
   refine ⟨?_, hS.kp⟩
   simp only [retOf, den, List.map_cons, List.map_nil]
   have hf : lockF (s.xs.map CLock.abs) i = 14 := by
     have hjn : (s.at i).line.n = j := by omega
     have hall : allTo (posOk (s.at i).abs) (s.at i).line.n = true := by rw [hjn]; cases hq : allTo (posOk (s.at i).abs) j <;> simp_all
     have hlo : lineOk (s.at i).abs = true := lineOk_true hall (by show (s.at i).line.n ≤ 3; omega) (by show ¬ (s.at i).holder = 0 ∨ (s.at i).line.n = 0; omega)
     grind [lockF]
   rw [hI, firstF_here (by omega) hf (by omega)]
 by_cases h10 : (0 : Int) < (((s.at i).line.n : Nat) : Int)
 · refine Mq 5 true ?_ (dT h10)
   refine Ml (σ := Nat × Bool) (fun ⟨j, b⟩ => j ≤ (s.at i).line.n ∧ b = (true || !(allTo (posOk (s.at i).abs) j))) (fun ⟨j, b⟩ => (s.at i).line.n - j) (fun _ => []) [6, 5, 4, 3, 0] (fun ⟨j, b⟩ => [(6, vI (j : Int)), (5, vB b)]) (fun _ => []) ?_ (⟨0, true⟩) ⟨Nat.zero_le _, by simp [allTo]⟩
   rintro ⟨j, b⟩ ⟨hj, hJ⟩ _ on3
   have ncl := Sl.ok.nc (Sl.ok.at oks (show i < s.n by omega)).2
   refine Md ((j : Int) < (((s.at i).line.n : Nat) : Int)) (fun h11 => ?_) fun h11 => ?_
   · refine Mda 33 [] [] [] Try_mixed ?_
     refine Mb b (fun h12 => ?_) fun h12 => ?_
     rotate_left
     · exfalso; rw [h12] at hJ; simp at hJ
     refine Mi ?_ (pR ((j : Int) + 1))
     exact on3 ⟨j + 1, true⟩ ⟨by omega, by simp only [allTo, hp]; simp_all⟩ (by show (s.at i).line.n - (j + 1) < (s.at i).line.n - j; omega)
   refine Mb b (fun h13 => ?_) fun h13 => ?_
   rotate_left
   · exfalso; rw [h13] at hJ; simp at hJ
   refine Mt [vi 4] fun bs w hS => ?_
   clear on1 on3
   refine ⟨?_, hS.kp⟩
   simp only [retOf, den, List.map_cons, List.map_nil]
   have hf : lockF (s.xs.map CLock.abs) i = 4 := by
     have hor : mName (s.at i).name = false ∨ (s.at i).holder < 0 ∨ 9 < (s.at i).holder ∨ lineOk (s.at i).abs = false := by
       first | exact .inl (by assumption) | exact .inr ((show (s.at i).holder < 0 ∨ 9 < (s.at i).holder by omega).elim .inl (fun h => .inr (.inl h))) | exact .inr (.inr (.inr (lineOk_false (.inr (.inl (by show 3 < (s.at i).line.n; omega)))))) | exact .inr (.inr (.inr (lineOk_false (.inr (.inr ⟨by show (s.at i).holder = 0; omega, by show 0 < (s.at i).line.n; omega⟩))))) | exact .inr (.inr (.inr (lineOk_false (.inl (by show allTo _ (s.at i).line.n = false; rw [show (s.at i).line.n = j by omega]; cases hq : allTo (posOk (s.at i).abs) j <;> simp_all)))))
     grind [lockF]
   rw [hI, firstF_here (by omega) hf (by omega)]
 refine Mq 5 false ?_ (dF h10)
 refine Ml (σ := Nat × Bool) (fun ⟨j, b⟩ => j ≤ (s.at i).line.n ∧ b = (false || !(allTo (posOk (s.at i).abs) j))) (fun ⟨j, b⟩ => (s.at i).line.n - j) (fun _ => []) [6, 5, 4, 3, 0] (fun ⟨j, b⟩ => [(6, vI (j : Int)), (5, vB b)]) (fun _ => []) ?_ (⟨0, false⟩) ⟨Nat.zero_le _, by simp [allTo]⟩
 rintro ⟨j, b⟩ ⟨hj, hJ⟩ _ on4
 have ncl := Sl.ok.nc (Sl.ok.at oks (show i < s.n by omega)).2
 refine Md ((j : Int) < (((s.at i).line.n : Nat) : Int)) (fun h14 => ?_) fun h14 => ?_
 · refine Mda 33 [] [] [] Try_mixed ?_
   refine Mb b (fun h15 => ?_) fun h15 => ?_
   · refine Mi ?_ (pR ((j : Int) + 1))
     exact on4 ⟨j + 1, true⟩ ⟨by omega, by simp only [allTo, hp]; simp_all⟩ (by show (s.at i).line.n - (j + 1) < (s.at i).line.n - j; omega)
   refine Mih ?_ (pA 59 60 (j : Int) j (s := (s.at i).line) (fun w hk hr => (Sl.rd.sub (s := s) (i := i) (Sl.rd.kp hs hk) (by omega)).2))
   refine Mp ?_ Try.call64 (fun bs w hS => ref_In ((s.at i).line.at j) 1 9 w)
   refine Mbn (inB ((s.at i).line.at j) 1 9) (fun h16 => ?_) fun h16 => ?_
   rotate_left
   · refine Mi ?_ (pR ((j : Int) + 1))
     exact on4 ⟨j + 1, true⟩ ⟨by omega, by simp only [allTo, hp]; simp_all⟩ (by show (s.at i).line.n - (j + 1) < (s.at i).line.n - j; omega)
   refine Mih ?_ (pA 68 69 (j : Int) j (s := (s.at i).line) (fun w hk hr => (Sl.rd.sub (s := s) (i := i) (Sl.rd.kp hs hk) (by omega)).2))
   refine Md (((s.at i).line.at j) = (s.at i).holder) (fun h17 => ?_) fun h17 => ?_
   · refine Mi ?_ (pR ((j : Int) + 1))
     exact on4 ⟨j + 1, true⟩ ⟨by omega, by simp only [allTo, hp]; simp_all⟩ (by show (s.at i).line.n - (j + 1) < (s.at i).line.n - j; omega)
   refine Mih ?_ (pc (pG [(78, .sl 0 j)] (oc (rfl : 0 = 0) (oc (rfl : (j : Int) = (j : Int)) (oc ((by omega) : j ≤ (s.at i).line.c) on)))) (pA 82 83 (j : Int) j (s := (s.at i).line) (fun w hk hr => (Sl.rd.sub (s := s) (i := i) (Sl.rd.kp hs hk) (by omega)).2)))
   refine Mp ?_ Try.call88 (fun bs w hS => ref_has (s.at i).line j ((s.at i).line.at j) w (Sl.rd.sub (s := s) (i := i) (Sl.rd.kp hs hS.kp) (by omega)).2 (by omega))
   refine Mi ?_ (pR ((j : Int) + 1))
   exact on4 ⟨j + 1, ((s.at i).line.xs.take j).any fun z => decide (z = ((s.at i).line.at j))⟩ ⟨by omega, by simp only [allTo, hp]; simp_all⟩ (by show (s.at i).line.n - (j + 1) < (s.at i).line.n - j; omega)
 refine Mb b (fun h18 => ?_) fun h18 => ?_
 · refine Mt [vi 4] fun bs w hS => ?_
   clear on1 on4
   refine ⟨?_, hS.kp⟩
   simp only [retOf, den, List.map_cons, List.map_nil]
   have hf : lockF (s.xs.map CLock.abs) i = 4 := by
     have hor : mName (s.at i).name = false ∨ (s.at i).holder < 0 ∨ 9 < (s.at i).holder ∨ lineOk (s.at i).abs = false := by
       first | exact .inl (by assumption) | exact .inr ((show (s.at i).holder < 0 ∨ 9 < (s.at i).holder by omega).elim .inl (fun h => .inr (.inl h))) | exact .inr (.inr (.inr (lineOk_false (.inr (.inl (by show 3 < (s.at i).line.n; omega)))))) | exact .inr (.inr (.inr (lineOk_false (.inr (.inr ⟨by show (s.at i).holder = 0; omega, by show 0 < (s.at i).line.n; omega⟩))))) | exact .inr (.inr (.inr (lineOk_false (.inl (by show allTo _ (s.at i).line.n = false; rw [show (s.at i).line.n = j by omega]; cases hq : allTo (posOk (s.at i).abs) j <;> simp_all)))))
     grind [lockF]
   rw [hI, firstF_here (by omega) hf (by omega)]
 refine Mp ?_ Try.call64 (fun bs w hS => ref_In (s.at i).fence 1 1073741824 w)
 refine Mbn (inB (s.at i).fence 1 1073741824) (fun h19 => ?_) fun h19 => ?_
 rotate_left
 · simp only [iT, iF] at h19
   refine Mt [vi 2] fun bs w hS => ?_
   clear on1 on4
   refine ⟨?_, hS.kp⟩
   simp only [retOf, den, List.map_cons, List.map_nil]
   have hf : lockF (s.xs.map CLock.abs) i = 2 := by
     have hjn : (s.at i).line.n = j := by omega
     have hall : allTo (posOk (s.at i).abs) (s.at i).line.n = true := by rw [hjn]; cases hq : allTo (posOk (s.at i).abs) j <;> simp_all
     have hlo : lineOk (s.at i).abs = true := lineOk_true hall (by show (s.at i).line.n ≤ 3; omega) (by show ¬ (s.at i).holder = 0 ∨ (s.at i).line.n = 0; omega)
     grind [lockF]
   rw [hI, firstF_here (by omega) hf (by omega)]
 simp only [iT, iF] at h19
 refine Mda 13 [] [] [] Try_mixed ?_
 refine Md ((0 : Int) < (i : Int)) (fun h20 => ?_) fun h20 => ?_
 rotate_left
 · refine Mi ?_ (pR ((i : Int) + 1))
   have hf0 : lockF (s.xs.map CLock.abs) i = 0 := by
     have hjn : (s.at i).line.n = j := by omega
     have hall : allTo (posOk (s.at i).abs) (s.at i).line.n = true := by rw [hjn]; cases hq : allTo (posOk (s.at i).abs) j <;> simp_all
     have hlo : lineOk (s.at i).abs = true := lineOk_true hall (by show (s.at i).line.n ≤ 3; omega) (by show ¬ (s.at i).holder = 0 ∨ (s.at i).line.n = 0; omega)
     grind [lockF]
   exact on1 (i + 1) ⟨by omega, by rw [hI]; exact firstF_step (by omega) hf0⟩ (by omega)
 refine Mih ?_ (pc (pR ((i : Int) - 1)) (pc (pI 99 ((i : Int) - 1) (i - 1) (rdk hs)) (pF 101 (i - 1) 0 1 (rdk hs))))
 refine Mb (Op.bytesLess ((s.at i).name).toList ((s.at (i - 1)).name).toList || decide ((s.at i).name = (s.at (i - 1)).name)) (fun h21 => ?_) fun h21 => ?_
 rotate_left
 · rw [bytes_total] at h21
   simp only [Bool.not_eq_true', Bool.not_eq_false', Bool.not_eq_true, Bool.not_eq_false] at h21
   refine Mi ?_ (pR ((i : Int) + 1))
   have hf0 : lockF (s.xs.map CLock.abs) i = 0 := by
     have hjn : (s.at i).line.n = j := by omega
     have hall : allTo (posOk (s.at i).abs) (s.at i).line.n = true := by rw [hjn]; cases hq : allTo (posOk (s.at i).abs) j <;> simp_all
     have hlo : lineOk (s.at i).abs = true := lineOk_true hall (by show (s.at i).line.n ≤ 3; omega) (by show ¬ (s.at i).holder = 0 ∨ (s.at i).line.n = 0; omega)
     grind [lockF]
   exact on1 (i + 1) ⟨by omega, by rw [hI]; exact firstF_step (by omega) hf0⟩ (by omega)
 rw [bytes_total] at h21
 simp only [Bool.not_eq_true', Bool.not_eq_false', Bool.not_eq_true, Bool.not_eq_false] at h21
 refine Mt [vi 14] fun bs w hS => ?_
 clear on1 on4
 refine ⟨?_, hS.kp⟩
 simp only [retOf, den, List.map_cons, List.map_nil]
 have hf : lockF (s.xs.map CLock.abs) i = 14 := by
   have hjn : (s.at i).line.n = j := by omega
   have hall : allTo (posOk (s.at i).abs) (s.at i).line.n = true := by rw [hjn]; cases hq : allTo (posOk (s.at i).abs) j <;> simp_all
   have hlo : lineOk (s.at i).abs = true := lineOk_true hall (by show (s.at i).line.n ≤ 3; omega) (by show ¬ (s.at i).holder = 0 ∨ (s.at i).line.n = 0; omega)
   grind [lockF]
 rw [hI, firstF_here (by omega) hf (by omega)]

theorem clone_Int {B : Nat → Prop} (s : Sl Int) (w : World) (hs : s.rd B w) (hb : s.n * 8 ≤ 140737488355328) : Calls Try.prog 45 #[s.val] w fun e w' => ∃ y : Sl Int, e = .returned y.val ∧ y.xs = s.xs ∧ Kp [] w w' ∧ Fresh w w' (rowA 3 y.A y.c y.xs) := by
 have oks := Sl.rd.ok hs
 have ncs := Sl.ok.nc oks
 have hns : s.n = s.xs.length := rfl
 refine M0 ?_ Try.func45
 refine Mi ?_ (pG [(4, .val (.bool s.A.isNone))] (oc ((eq_nil Try.underlying84) : ∀ w, (do eqGuard .eql 84 (.tmp 3) (.const vn) s.val vn; binOp .eql 84 s.val vn : Sem Value).run Try.prog w = .ok (.bool s.A.isNone) w) on))
 refine Mb s.A.isNone (fun h1 => ?_) fun h1 => ?_
 · refine Mt [vn] fun bs w hS => ?_
   have hnil : s.xs = [] := Sl.ok.empty oks (by cases h : s.A <;> simp_all)
   exact ⟨Sl.nil, rfl, hnil.symm, hS.kp, rowA_nil 3 w⟩
 refine Mlz ?_ (α := Int) (e := 3)
 intro A1
 refine Ma ?_ (α := Int) (L2 := s.xs) 8 (fun bs w hS => Sl.rd.src (s := s) (Sl.rd.kp hs hS.kp))
 intro A2 c2
 exact Mt [.slice A2 ([] ++ s.xs).length c2] fun bs w hS => ⟨⟨A2, c2, [] ++ s.xs⟩, rfl, by simp, hS.kp, hS.out1⟩

theorem lock_Copy {B : Nat → Prop} (s : Sl CLock) (w : World) (hs : s.rd B w) (hsm : Rds.small s) : Calls Try.prog 19 #[s.val] w fun e w' => ∃ y : Sl CLock, e = .returned y.val ∧ y.xs.map CLock.abs = s.xs.map CLock.abs ∧ Kp [] w w' ∧ Fresh w w' (locksR 86 3 y) := by
 have oks := Sl.rd.ok hs
 have ncs := Sl.ok.nc oks
 refine M0 ?_ Try.func19
 refine m_rowA (α := CLock) 86 ?_
 refine m_nores (ownL (lineR 3) []) rfl (fun w x hx => by cases hx) ?_
 refine Ml (σ := Nat × Option Addr × Nat × List CLock) (fun ⟨i, A, c, L⟩ => i ≤ s.n ∧ L.length = i ∧ L.map CLock.abs = (s.xs.take i).map CLock.abs) (fun ⟨i, A, c, L⟩ => s.n - i) (fun ⟨i, A, c, L⟩ => [ownL (lineR 3) L, rowA 86 A c (L : List CLock)]) [8, 7, 6, 3] (fun ⟨i, A, c, L⟩ => [(8, vI (i : Int)), (3, .v (.slice A L.length c))]) (fun _ => []) ?_ (⟨0, none, 0, []⟩) ⟨Nat.zero_le _, rfl, by simp⟩
 rintro ⟨i, A, c, L⟩ ⟨hi, hL, hI⟩ _ on1
 have hsn : s.n * 56 ≤ 140737488355328 := hsm.1
 refine Md ((i : Int) < (s.n : Int)) (fun h1 => ?_) fun h1 => ?_
 rotate_left
 · refine Mt [.slice A L.length c] fun bs w hS => ?_
   have hn : L.length = s.n := by omega
   exact ⟨⟨A, c, L⟩, rfl, by rw [hI, take_all (by omega)], hS.kp, hS.out⟩
 refine Mi ?_ (pA 10 11 (i : Int) i (rdk hs))
 refine Mf ?_ Try.call45 (fun bs w hS => clone_Int (s.at i).line w (Sl.rd.sub (s := s) (i := i) (Sl.rd.kp hs hS.kp) (by omega)).2 (hsm.2 i (by omega)).1)
 rintro y1 hF1
 refine M1 ?_
 refine m_f2 ?_
 refine Mal (α := CLock) 56 ([(⟨(s.at i).name, (s.at i).holder, (s.at i).fence, y1⟩ : CLock)]) ?_
 intro A3 c3
 refine Mi ?_ (pR ((i : Int) + 1))
 refine m_perm (R' := [rowA 3 y1.A y1.c (y1.xs : List Int), ownL (lineR 3) L, rowA 86 A3 c3 (L ++ [(⟨(s.at i).name, (s.at i).holder, (s.at i).fence, y1⟩ : CLock)] : List CLock)]) (by exact perm3 0 _ _ _) ?_
 refine m_join (ownL (lineR 3) (L ++ [(⟨(s.at i).name, (s.at i).holder, (s.at i).fence, y1⟩ : CLock)])) (ownL_app_fp (lineR 3) L (⟨(s.at i).name, (s.at i).holder, (s.at i).fence, y1⟩ : CLock)) (fun w => ownL_app_p (lineR 3) L (⟨(s.at i).name, (s.at i).holder, (s.at i).fence, y1⟩ : CLock) w) ?_
 exact on1 ⟨i + 1, A3, c3, L ++ [(⟨(s.at i).name, (s.at i).holder, (s.at i).fence, y1⟩ : CLock)]⟩ ⟨by omega, by rw [List.length_append]; simp [hL], map_take_snoc (by omega) hI (by first | simp [CLock.abs, hF1] | simp [CLock.abs])⟩ (by show s.n - (i + 1) < s.n - i; omega)
theorem lock_CopyS {B : Nat → Prop} (s : Sl CLock) (w : World) (hs : s.rd B w) (hsm : Rds.small s) : Calls Try.prog 19 #[s.val] w fun e w' => ∃ y : Sl CLock, e = .returned y.val ∧ y.xs.map CLock.abs = s.xs.map CLock.abs ∧ FreshS w w' y :=
  (lock_Copy s w hs hsm).mono fun e w' ⟨y, h1, h2, h3, h4⟩ => ⟨y, h1, h2, h3, h4.sub fun hp => locksR_rd hp (locks_names hs h2)⟩

theorem ref_LocksCopy {B : Nat → Prop} (s : Sl CLock) (w : World) (hs : s.rd B w) (hsm : Rds.small s) : Calls Try.prog 37 #[s.val] w fun e w' => ∃ y : Sl CLock, e = .returned y.val ∧ y.xs.map CLock.abs = s.xs.map CLock.abs ∧ Kp [] w w' ∧ Fresh w w' (locksR 86 3 y) := by
 have oks := Sl.rd.ok hs
 have ncs := Sl.ok.nc oks
 refine M0 ?_ Try.func37
 refine m_rowA (α := CLock) 86 ?_
 refine m_nores (ownL (lineR 3) []) rfl (fun w x hx => by cases hx) ?_
 refine Ml (σ := Nat × Option Addr × Nat × List CLock) (fun ⟨i, A, c, L⟩ => i ≤ s.n ∧ L.length = i ∧ L.map CLock.abs = (s.xs.take i).map CLock.abs) (fun ⟨i, A, c, L⟩ => s.n - i) (fun ⟨i, A, c, L⟩ => [ownL (lineR 3) L, rowA 86 A c (L : List CLock)]) [4, 3, 0] (fun ⟨i, A, c, L⟩ => [(4, vI (i : Int)), (3, .v (.slice A L.length c))]) (fun _ => []) ?_ (⟨0, none, 0, []⟩) ⟨Nat.zero_le _, rfl, by simp⟩
 rintro ⟨i, A, c, L⟩ ⟨hi, hL, hI⟩ _ on1
 have hsn : s.n * 56 ≤ 140737488355328 := hsm.1
 refine Md ((i : Int) < (s.n : Int)) (fun h1 => ?_) fun h1 => ?_
 rotate_left
 · refine Mt [.slice A L.length c] fun bs w hS => ?_
   have hn : L.length = s.n := by omega
   exact ⟨⟨A, c, L⟩, rfl, by rw [hI, take_all (by omega)], hS.kp, hS.out⟩
 refine Mdr 24 ?_ Try_mixed
 refine Mih ?_ (pc (pI 14 (i : Int) i (rdk hs)) (pc (pF 16 i 0 1 (rdk hs)) (pc (pI 19 (i : Int) i (rdk hs)) (pc (pF 21 i 1 1 (rdk hs)) (pc (pI 24 (i : Int) i (rdk hs)) (pc (pF 26 i 2 1 (rdk hs)) (pc (pI 29 (i : Int) i (rdk hs)) (pF 31 i 3 1 (rdk hs)))))))))
 refine m_rowA (α := Int) 3 ?_
 refine Ma ?_ (α := Int) (L2 := (s.at i).line.xs) 8 (fun bs w hS => Sl.rd.src (s := (s.at i).line) (Sl.rd.sub (s := s) (i := i) (Sl.rd.kp hs hS.kp) (by omega)).2) (h63 := (by first | omega | (simp only [List.length_nil, List.length_cons, List.length_append]; omega) | (have hq : _ * (8 : Nat) ≤ 140737488355328 := (hsm.2 i (by omega)).1; simp only [Sl.n, List.length_nil] at hq ⊢; omega))) (hb := (by first | omega | (simp only [List.length_nil, List.length_cons, List.length_append]; omega) | (have hq : _ * (8 : Nat) ≤ 140737488355328 := (hsm.2 i (by omega)).1; simp only [Sl.n, List.length_nil] at hq ⊢; omega)))
 intro A1 c1
 refine M1 ?_ (hR := (.cons _ (List.Sublist.refl _)))
 refine Mz ?_
 refine m_f2 ?_
 refine Mal (α := CLock) 56 ([(⟨(s.at i).name, (s.at i).holder, (s.at i).fence, ⟨A1, c1, [] ++ (s.at i).line.xs⟩⟩ : CLock)]) ?_
 intro A2 c2
 refine Mi ?_ (pR ((i : Int) + 1))
 refine m_perm (R' := [rowA 3 A1 c1 ([] ++ (s.at i).line.xs : List Int), ownL (lineR 3) L, rowA 86 A2 c2 (L ++ [(⟨(s.at i).name, (s.at i).holder, (s.at i).fence, ⟨A1, c1, [] ++ (s.at i).line.xs⟩⟩ : CLock)] : List CLock)]) (by exact perm3 0 _ _ _) ?_
 refine m_join (ownL (lineR 3) (L ++ [(⟨(s.at i).name, (s.at i).holder, (s.at i).fence, ⟨A1, c1, [] ++ (s.at i).line.xs⟩⟩ : CLock)])) (ownL_app_fp (lineR 3) L (⟨(s.at i).name, (s.at i).holder, (s.at i).fence, ⟨A1, c1, [] ++ (s.at i).line.xs⟩⟩ : CLock)) (fun w => ownL_app_p (lineR 3) L (⟨(s.at i).name, (s.at i).holder, (s.at i).fence, ⟨A1, c1, [] ++ (s.at i).line.xs⟩⟩ : CLock) w) ?_
 exact on1 ⟨i + 1, A2, c2, L ++ [(⟨(s.at i).name, (s.at i).holder, (s.at i).fence, ⟨A1, c1, [] ++ (s.at i).line.xs⟩⟩ : CLock)]⟩ ⟨by omega, by rw [List.length_append]; simp [hL], map_take_snoc (by omega) hI (by first | simp [CLock.abs, hF1] | simp [CLock.abs])⟩ (by show s.n - (i + 1) < s.n - i; omega)
theorem ref_LocksCopyS {B : Nat → Prop} (s : Sl CLock) (w : World) (hs : s.rd B w) (hsm : Rds.small s) : Calls Try.prog 37 #[s.val] w fun e w' => ∃ y : Sl CLock, e = .returned y.val ∧ y.xs.map CLock.abs = s.xs.map CLock.abs ∧ FreshS w w' y :=
  (ref_LocksCopy s w hs hsm).mono fun e w' ⟨y, h1, h2, h3, h4⟩ => ⟨y, h1, h2, h3, h4.sub fun hp => locksR_rd hp (locks_names hs h2)⟩

theorem same_ints {B B' : Nat → Prop} (a b : Sl Int) (w : World) (ha : a.rd B w) (hb : b.rd B' w) (he : a.xs = b.xs) : Calls Try.prog 46 #[a.val, b.val] w fun e w' => e = .returned (vb true) ∧ Kp [] w w' := by
 have oka := Sl.rd.ok ha
 have okb := Sl.rd.ok hb
 have hn := xs_n he
 have nca := Sl.ok.nc oka
 refine M0 ?_ Try.func46
 refine Mdn ((a.n : Int) = (b.n : Int)) (fun h1 => ?_) fun h1 => ?_
 rotate_left
 · exfalso; first | omega | exact h1 (xs_at he i)
 refine Ml (σ := Nat) (fun i => True) (fun i => a.n - i) (fun _ => []) [5, 0, 1] (fun i => [(5, vI (i : Int))]) (fun _ => []) ?_ 0 trivial
 rintro i _ _ on1
 have hat := xs_at he i
 refine Md ((i : Int) < (a.n : Int)) (fun h2 => ?_) fun h2 => ?_
 rotate_left
 · exact Mt [vb true] fun bs w hS => ⟨rfl, hS.kp⟩
 refine Mda 9 [] [] [] Try_mixed ?_
 refine Mih ?_ (pc (pA 19 20 (i : Int) i (rdk ha)) (pA 23 24 (i : Int) i (rdk hb)))
 refine Mdn ((a.at i) = (b.at i)) (fun h3 => ?_) fun h3 => ?_
 rotate_left
 · exfalso; first | omega | exact h3 (xs_at he i)
 refine Mi ?_ (pR ((i : Int) + 1))
 exact on1 (i + 1) trivial (by omega)

theorem same_locks {B B' : Nat → Prop} (a b : Sl CLock) (w : World) (ha : a.rd B w) (hb : b.rd B' w) (he : a.xs.map CLock.abs = b.xs.map CLock.abs) : Calls Try.prog 20 #[a.val, b.val] w fun e w' => e = .returned (vb true) ∧ Kp [] w w' := by
 have oka := Sl.rd.ok ha
 have okb := Sl.rd.ok hb
 have hn := map_n he
 have nca := Sl.ok.nc oka
 refine M0 ?_ Try.func20
 refine Mdn ((a.n : Int) = (b.n : Int)) (fun h1 => ?_) fun h1 => ?_
 rotate_left
 · exfalso; first | omega | exact h1 q1
 refine Ml (σ := Nat) (fun i => True) (fun i => a.n - i) (fun _ => []) [5, 0, 1] (fun i => [(5, vI (i : Int))]) (fun _ => []) ?_ 0 trivial
 rintro i _ _ on1
 have hat := map_at (f := CLock.abs) (g := CLock.abs) rfl he i
 have q1 : (a.at i).name = (b.at i).name := congrArg DLock.name hat
 have q2 : (a.at i).holder = (b.at i).holder := congrArg DLock.holder hat
 have q3 : (a.at i).fence = (b.at i).fence := congrArg DLock.fence hat
 have q4 : (a.at i).line.xs = (b.at i).line.xs := congrArg DLock.line hat
 refine Md ((i : Int) < (a.n : Int)) (fun h2 => ?_) fun h2 => ?_
 rotate_left
 · exact Mt [vb true] fun bs w hS => ⟨rfl, hS.kp⟩
 refine Mda 51 [] [] [] Try_mixed ?_
 refine Mih ?_ (pc (pI 19 (i : Int) i (rdk ha)) (pc (pF 21 i 0 1 (rdk ha)) (pc (pI 24 (i : Int) i (rdk hb)) (pF 26 i 0 1 (rdk hb)))))
 refine Mdn ((a.at i).name = (b.at i).name) (fun h3 => ?_) fun h3 => ?_
 rotate_left
 · exfalso; first | omega | exact h3 q1
 refine Mih ?_ (pc (pI 31 (i : Int) i (rdk ha)) (pc (pF 33 i 1 1 (rdk ha)) (pc (pI 36 (i : Int) i (rdk hb)) (pF 38 i 1 1 (rdk hb)))))
 refine Mdn ((a.at i).holder = (b.at i).holder) (fun h4 => ?_) fun h4 => ?_
 rotate_left
 · exfalso; first | omega | exact h4 q1
 refine Mih ?_ (pc (pI 44 (i : Int) i (rdk ha)) (pc (pF 46 i 2 1 (rdk ha)) (pc (pI 49 (i : Int) i (rdk hb)) (pF 51 i 2 1 (rdk hb)))))
 refine Mdn ((a.at i).fence = (b.at i).fence) (fun h5 => ?_) fun h5 => ?_
 rotate_left
 · exfalso; first | omega | exact h5 q1
 refine Mih ?_ (pc (pI 57 (i : Int) i (rdk ha)) (pc (pF 59 i 3 1 (rdk ha)) (pc (pI 62 (i : Int) i (rdk hb)) (pF 64 i 3 1 (rdk hb)))))
 refine Mp ?_ Try.call46 (fun bs w hS => same_ints _ _ w (Sl.rd.sub (s := a) (i := i) (Sl.rd.kp ha hS.kp) (by omega)).2 (Sl.rd.sub (s := b) (i := i) (Sl.rd.kp hb hS.kp) (by omega)).2 q4)
 refine Mq 67 false ?_ rfl
 refine Mi ?_ (pR ((i : Int) + 1))
 exact on1 (i + 1) trivial (by omega)

theorem ref_unlined {B : Nat → Prop} (s : Sl Int) (who : Int) (w : World) (hs : s.rd B w) (hb : s.n ≤ 1048576) : Calls Try.prog 74 #[s.val, vi who] w fun e w' => ∃ y : Sl Int, e = .returned y.val ∧ y.xs = unline s.xs who ∧ FreshS w w' y := by
 have oks := Sl.rd.ok hs
 have ncs := Sl.ok.nc oks
 have hns : s.n = s.xs.length := rfl
 refine M0 ?_ Try.func74
 refine m_rowA (α := Int) 3 ?_
 refine Ml (σ := Nat × Option Addr × Nat × List Int) (fun ⟨i, A, c, L⟩ => i ≤ s.n ∧ L = (s.xs.take i).filter (fun z => !decide (z = who))) (fun ⟨i, A, c, L⟩ => s.n - i) (fun ⟨i, A, c, L⟩ => [rowA 3 A c (L : List Int)]) [6, 5, 0, 1] (fun ⟨i, A, c, L⟩ => [(6, vI (i : Int)), (5, .v (.slice A L.length c))]) (fun _ => []) ?_ (⟨0, none, 0, []⟩) ⟨Nat.zero_le _, rfl⟩
 rintro ⟨i, A, c, L⟩ ⟨hi, hI⟩ _ on1
 have hLn : L.length ≤ i := by rw [hI]; exact Nat.le_trans (List.length_filter_le _ _) (by rw [List.length_take]; omega)
 refine Md ((i : Int) < (s.n : Int)) (fun h1 => ?_) fun h1 => ?_
 rotate_left
 · exact Mt [.slice A L.length c] fun bs w hS => ⟨⟨A, c, L⟩, rfl, by show L = _; rw [hI, take_all (by omega)]; rfl, hS.outS (y := (⟨A, c, L⟩ : Sl Int)) (allR_row i0 (hS.res _ i0) (fun _ _ => trivial))⟩
 refine Mi ?_ (pA 15 16 (i : Int) i (rdk hs))
 refine Mdn ((s.at i) = who) (fun h2 => ?_) fun h2 => ?_
 · refine Mi ?_ (pR ((i : Int) + 1))
   exact on1 ⟨i + 1, A, c, L⟩ ⟨by omega, by first | exact filtS_in (p := fun z => decide (z = who)) hI (by omega) (decide_eq_false (by assumption)) | exact filtS_out (p := fun z => decide (z = who)) hI (by omega) (decide_eq_true (by assumption))⟩ (by show s.n - (i + 1) < s.n - i; omega)
 refine Mi ?_ (pA 22 23 (i : Int) i (rdk hs))
 refine M1 ?_
 refine Mal (α := Int) 8 ([(s.at i)]) ?_
 intro A1 c1
 refine Mi ?_ (pR ((i : Int) + 1))
 exact on1 ⟨i + 1, A1, c1, L ++ [(s.at i)]⟩ ⟨by omega, by first | exact filtS_in (p := fun z => decide (z = who)) hI (by omega) (decide_eq_false (by assumption)) | exact filtS_out (p := fun z => decide (z = who)) hI (by omega) (decide_eq_true (by assumption))⟩ (by show s.n - (i + 1) < s.n - i; omega)

theorem ref_passed {B : Nat → Prop} (x : CLock) (w : World) (hx : Rds.sub B w x) (hf : 1 ≤ x.fence ∧ x.fence ≤ 1073741824) (hl : x.line.n ≤ 1048576) : Calls Try.prog 75 #[x.val] w fun e w' => ∃ y : CLock, e = .returned y.val ∧ y.abs = mPass x.abs ∧ FreshS w w' y := by
 have okx := Rds.okof hx
 have ncx := Sl.ok.nc okx.2
 have hnx : x.line.n = x.line.xs.length := rfl
 have hq1 : x.abs.line = x.line.xs := rfl
 have hq2 : x.abs.fence = x.fence := rfl
 refine M0 ?_ Try.func75
 refine Md ((x.line.n : Int) = 0) (fun h1 => ?_) fun h1 => ?_
 · refine Mt [.agg #[vs x.name, vi 0, vi x.fence, vn]] fun bs w hS => ?_
   have hp : mPass x.abs = ⟨x.name, 0, x.fence, []⟩ := by unfold mPass; rw [hq1, hq2, if_neg (by omega)]; rfl
   exact ⟨⟨x.name, 0, x.fence, Sl.nil⟩, rfl, hp.symm, hS.outS (y := (⟨x.name, 0, x.fence, Sl.nil⟩ : CLock)) ⟨okx.1, Sl.rd_nil _ _⟩⟩
 refine Md ((1073741824 : Int) ≤ x.fence) (fun h2 => ?_) fun h2 => ?_
 · refine Mt [.agg #[vs x.name, vi 0, vi x.fence, vn]] fun bs w hS => ?_
   have hp : mPass x.abs = ⟨x.name, 0, x.fence, []⟩ := by unfold mPass; rw [hq1, hq2, if_neg (by omega)]; rfl
   exact ⟨⟨x.name, 0, x.fence, Sl.nil⟩, rfl, hp.symm, hS.outS (y := (⟨x.name, 0, x.fence, Sl.nil⟩ : CLock)) ⟨okx.1, Sl.rd_nil _ _⟩⟩
 refine Mda 14 [] [] [] Try_mixed ?_
 refine Mih ?_ (pc (pA 21 22 0 0 (s := x.line) (fun w hk hr => (Rds.kp hx hk).2)) (pc (pR (x.fence + 1)) (pG [(28, .sl 1 x.line.n)] (oc (rfl : (1 : Int) = ((1 : Nat) : Int)) (oc (rfl : x.line.n = x.line.n) (oc ((by omega) : 1 ≤ x.line.n) on))))))
 refine m_rowA (α := Int) 3 ?_
 refine Ma ?_ (α := Int) (L2 := x.line.xs.drop 1) 8 (fun bs w hS => Sl.rd.srcDrop (s := x.line) (Rds.kp hx hS.kp).2 (by omega)) (hn2 := (List.length_drop ..))
 intro A1 c1
 refine m_weak (rowA 3 A1 c1 (x.line.xs.drop 1 : List Int)) (List.Sublist.refl _) (fun w h => h) ?_
 refine Mt [.agg #[vs x.name, vi (x.line.at 0), vi (x.fence + 1), .slice A1 (x.line.xs.drop 1).length c1]] fun bs w hS => ?_
 have hp : mPass x.abs = ⟨x.name, x.line.at 0, x.fence + 1, x.line.xs.drop 1⟩ := by unfold mPass; rw [hq1, hq2, if_pos (by omega)]; rfl
 exact ⟨⟨x.name, x.line.at 0, x.fence + 1, ⟨A1, c1, x.line.xs.drop 1⟩⟩, rfl, hp.symm, hS.outS (y := (⟨x.name, x.line.at 0, x.fence + 1, ⟨A1, c1, x.line.xs.drop 1⟩⟩ : CLock)) ⟨okx.1, allR_row i0 (hS.res _ i0) (fun _ _ => trivial)⟩⟩

theorem lock_pass {B : Nat → Prop} (A : Option Addr) (c : Nat) (L : List CLock) (k : Nat) (w : World) (hrow : (rowA 86 A c L).p w) (hlt : ∀ b, b ∈ (rowA 86 A c L).fp → b < w.heap.size) (hk : k < L.length) (hx : Rds.sub B w (L.getD k default)) (hB : ∀ b, B b → b ∉ (rowA 86 A c L).fp) (hf : 1 ≤ (L.getD k default).fence ∧ (L.getD k default).fence ≤ 1073741824) : Calls Try.prog 72 #[.pointer (some ((oad A).add (k * 4)))] w fun e w' => ∃ _ : Unit, e = .returned (.tuple #[]) ∧ True ∧ Turned (rowA 86 A c L) w w' (rowA 86 A c (L.set k (passC (L.getD k default)))) := by
 have hrok := rowA_rok hrow
 have nc := hrok.2
 have okx := Rds.okof hx
 have ncx := Sl.ok.nc okx.2
 have hnx : (L.getD k default).line.n = (L.getD k default).line.xs.length := rfl
 have hst : ∀ w', Kp (rowA 86 A c L).fp w w' → Rds.sub B w' (L.getD k default) := fun w' hk => Rds.stay (fun b hb hlt => hk.block b hlt (hB b hb)) hx
 refine Mj ?_ Try.func72 (WS.start1 w _ hrow (by cases A <;> simp [rowA, rowR]) hlt)
 refine Ms k 1 (⟨(L.getD k default).name, 0, (L.getD k default).fence, (L.getD k default).line⟩ : CLock) ?_ (by omega)
 intro L1 hL1 hlL1
 have hgL1 : L1.getD k default = (⟨(L.getD k default).name, 0, (L.getD k default).fence, (L.getD k default).line⟩ : CLock) := by rw [hL1]; exact getD_set (by omega)
 have hbL1 : L1 = List.set L k (⟨(L.getD k default).name, 0, (L.getD k default).fence, (L.getD k default).line⟩ : CLock) := by rw [hL1]
 refine Mi ?_ (pFk 8 k 3 1 hgL1 i0)
 refine Md ((0 : Int) < (((L.getD k default).line.n : Nat) : Int)) (fun h1 => ?_) fun h1 => ?_
 rotate_left
 · refine Ms k 3 (⟨(L.getD k default).name, 0, (L.getD k default).fence, Sl.nil⟩ : CLock) ?_ (by omega) (hg := hgL1)
   intro L6 hL6 hlL6
   have hgL6 : L6.getD k default = (⟨(L.getD k default).name, 0, (L.getD k default).fence, Sl.nil⟩ : CLock) := by rw [hL6]; exact getD_set (by omega)
   have hbL6 : L6 = List.set L k (⟨(L.getD k default).name, 0, (L.getD k default).fence, Sl.nil⟩ : CLock) := by rw [hL6, hbL1, List.set_set]
   refine Mt [] fun bs w hS => ?_
   have hp : passC (L.getD k default) = (⟨(L.getD k default).name, 0, (L.getD k default).fence, Sl.nil⟩ : CLock) := by grind [passC]
   have hL : L6 = L.set k (passC (L.getD k default)) := by rw [hp]; exact hbL6
   subst hL
   exact ⟨(), rfl, trivial, hS.turned⟩
 refine Mi ?_ (pFk 15 k 2 1 hgL1 i0)
 refine Md ((L.getD k default).fence < 1073741824) (fun h2 => ?_) fun h2 => ?_
 rotate_left
 · refine Ms k 3 (⟨(L.getD k default).name, 0, (L.getD k default).fence, Sl.nil⟩ : CLock) ?_ (by omega) (hg := hgL1)
   intro L5 hL5 hlL5
   have hgL5 : L5.getD k default = (⟨(L.getD k default).name, 0, (L.getD k default).fence, Sl.nil⟩ : CLock) := by rw [hL5]; exact getD_set (by omega)
   have hbL5 : L5 = List.set L k (⟨(L.getD k default).name, 0, (L.getD k default).fence, Sl.nil⟩ : CLock) := by rw [hL5, hbL1, List.set_set]
   refine Mt [] fun bs w hS => ?_
   have hp : passC (L.getD k default) = (⟨(L.getD k default).name, 0, (L.getD k default).fence, Sl.nil⟩ : CLock) := by grind [passC]
   have hL : L5 = L.set k (passC (L.getD k default)) := by rw [hp]; exact hbL5
   subst hL
   exact ⟨(), rfl, trivial, hS.turned⟩
 refine Mda 27 [21] [] [rowA 86 A c (L1 : List CLock)] Try_mixed ?_
 refine Mih ?_ (pc (pFk 24 k 3 1 hgL1 i0) (pc (pA 25 26 0 0 (s := (L.getD k default).line) (fun w hk hr => (hst _ hk).2)) (pc (pFk 30 k 2 1 hgL1 i0) (pc (pR ((L.getD k default).fence + 1)) (pc (pFk 35 k 3 1 hgL1 i0) (pG [(36, .sl 1 (L.getD k default).line.n)] (oc (rfl : (1 : Int) = ((1 : Nat) : Int)) (oc (rfl : (L.getD k default).line.n = (L.getD k default).line.n) (oc ((by omega) : 1 ≤ (L.getD k default).line.n) on)))))))))
 refine MsX [] k 1 (⟨(L.getD k default).name, ((L.getD k default).line.at 0), (L.getD k default).fence, (L.getD k default).line⟩ : CLock) ?_ (by omega) (hg := hgL1)
 intro L2 hL2 hlL2
 have hgL2 : L2.getD k default = (⟨(L.getD k default).name, ((L.getD k default).line.at 0), (L.getD k default).fence, (L.getD k default).line⟩ : CLock) := by rw [hL2]; exact getD_set (by omega)
 have hbL2 : L2 = List.set L k (⟨(L.getD k default).name, ((L.getD k default).line.at 0), (L.getD k default).fence, (L.getD k default).line⟩ : CLock) := by rw [hL2, hbL1, List.set_set]
 refine Ms k 2 (⟨(L.getD k default).name, ((L.getD k default).line.at 0), (L.getD k default).fence + 1, (L.getD k default).line⟩ : CLock) ?_ (by omega) (hg := hgL2)
 intro L3 hL3 hlL3
 have hgL3 : L3.getD k default = (⟨(L.getD k default).name, ((L.getD k default).line.at 0), (L.getD k default).fence + 1, (L.getD k default).line⟩ : CLock) := by rw [hL3]; exact getD_set (by omega)
 have hbL3 : L3 = List.set L k (⟨(L.getD k default).name, ((L.getD k default).line.at 0), (L.getD k default).fence + 1, (L.getD k default).line⟩ : CLock) := by rw [hL3, hbL2, List.set_set]
 refine Ms k 3 (⟨(L.getD k default).name, ((L.getD k default).line.at 0), (L.getD k default).fence + 1, ⟨offA (L.getD k default).line.A (L.getD k default).line.c 1 1, (L.getD k default).line.c - 1, (L.getD k default).line.xs.drop 1⟩⟩ : CLock) ?_ (by omega) (hg := hgL3) (hcell := (Eq.trans (by kernel_rfl) (congrArg (fun q => [Value.string (L.getD k default).name, vi ((L.getD k default).line.at 0), vi ((L.getD k default).fence + 1), .slice (offA (L.getD k default).line.A (L.getD k default).line.c 1 1) q ((L.getD k default).line.c - 1)]) (List.length_drop ..).symm)))
 intro L4 hL4 hlL4
 have hgL4 : L4.getD k default = (⟨(L.getD k default).name, ((L.getD k default).line.at 0), (L.getD k default).fence + 1, ⟨offA (L.getD k default).line.A (L.getD k default).line.c 1 1, (L.getD k default).line.c - 1, (L.getD k default).line.xs.drop 1⟩⟩ : CLock) := by rw [hL4]; exact getD_set (by omega)
 have hbL4 : L4 = List.set L k (⟨(L.getD k default).name, ((L.getD k default).line.at 0), (L.getD k default).fence + 1, ⟨offA (L.getD k default).line.A (L.getD k default).line.c 1 1, (L.getD k default).line.c - 1, (L.getD k default).line.xs.drop 1⟩⟩ : CLock) := by rw [hL4, hbL3, List.set_set]
 refine Mt [] fun bs w hS => ?_
 have hp : passC (L.getD k default) = (⟨(L.getD k default).name, ((L.getD k default).line.at 0), (L.getD k default).fence + 1, ⟨offA (L.getD k default).line.A (L.getD k default).line.c 1 1, (L.getD k default).line.c - 1, (L.getD k default).line.xs.drop 1⟩⟩ : CLock) := by grind [passC]
 have hL : L4 = L.set k (passC (L.getD k default)) := by rw [hp]; exact hbL4
 subst hL
 exact ⟨(), rfl, trivial, hS.turned⟩

theorem delR_Int (A : Option Addr) (c : Nat) (L : List Int) (i j : Nat) (ii jj : Int) (w : World) (hrow : (rowA 3 A c L).p w) (hlt : ∀ b, b ∈ (rowA 3 A c L).fp → b < w.heap.size) (ei : ii = (i : Int)) (ej : jj = (j : Int)) (hij : i ≤ j) (hj : j ≤ L.length) :
    Calls Try.prog 71 #[.slice A L.length c, vi ii, vi jj] w fun e w' => e = .returned (.slice A (L.take i ++ L.drop j).length c) ∧ Turned (rowA 3 A c L) w w' (rowA 3 A c (L.take i ++ L.drop j)) := by
 subst ei ej
 have hrok := rowA_rok hrow
 have nc := hrok.2
 refine Mj ?_ Try.func71 (WS.start1 w _ hrow (by cases A <;> simp [rowA, rowR]) hlt)
 refine Ms3 (e := 3) (A := A) (n := L.length) (il := (i : Int)) (ih := (j : Int)) (im := (L.length : Int)) (c := c) i j L.length ?_ rfl rfl rfl (by omega) (by omega) (by omega)
 refine Md ((i : Int) = (j : Int)) (fun h1 => ?_) fun h1 => ?_
 · refine Mt [.slice A L.length c] fun bs w hS => ?_
   have hij2 : i = j := by omega
   subst hij2
   rw [List.take_append_drop]
   exact ⟨rfl, hS.turned⟩
 refine Mdr 6 ?_ Try_mixed
 refine Mih ?_ (pc (pG [(22, .sl 0 i)] (oc (rfl : 0 = 0) (oc (rfl : (i : Int) = (i : Int)) (oc ((by omega) : i ≤ c) on)))) (pG [(25, .sl j L.length)] (oc (rfl : (j : Int) = (j : Int)) (oc (rfl : L.length = L.length) (oc ((by omega) : j ≤ L.length) on)))))
 refine Mz ?_
 refine Mad 8 i j ?_ hij hj
 refine Mi ?_ (pG [(31, .sl (i + (L.length - j)) L.length)] (oc (rfl : ((i + (L.length - j) : Nat) : Int) = (((i + (L.length - j)) : Nat) : Int)) (oc (rfl : (L.length : Int) = (L.length : Int)) (oc ((by omega) : (i + (L.length - j)) ≤ L.length) (oc ((by omega) : L.length ≤ c) on)))))
 refine Mcl (i + (L.length - j)) (L.length - (i + (L.length - j))) ?_ (by simp only [List.length_append, List.length_take, List.length_drop]; omega) (by omega)
 refine Mt [.slice A (i + (L.length - j)) c] fun bs w hS => ?_
 have hlen : (L.take i ++ L.drop j).length = i + (L.length - j) := by simp only [List.length_append, List.length_take, List.length_drop]; omega
 have hS2 := hS
 rw [← hlen, List.take_length] at hS2
 refine ⟨?_, hS2.turned⟩
 rw [hlen]
 rfl

theorem lock_Gone {B : Nat → Prop} (s : Sl CLock) (who : Int) (w : World) (hs : s.rd B w) : Calls Try.prog 38 #[s.val, vi who] w fun e w' => ∃ y : Sl CLock, e = .returned (.tuple #[y.val, vi (mGone (s.xs.map CLock.abs) who).2]) ∧ y.xs.map CLock.abs = (mGone (s.xs.map CLock.abs) who).1 ∧ FreshS w w' y := by
 have oks := Sl.rd.ok hs
 have ncs := Sl.ok.nc oks
 have hns : s.n = s.xs.length := rfl
 refine M0 ?_ Try.func38
 refine Mp ?_ Try.call68 (fun bs w hS => lock_Check s w (Sl.rd.kp hs hS.kp))
 refine Mdn (mLocks (s.xs.map CLock.abs) = 0) (fun h1 => ?_) fun h1 => ?_
 rotate_left
 · exact Me2 (gone_bad (who := who) h1) Sl.nil rfl fun bs w hS => hS.outS (Sl.rd_nil _ _)
 refine Mp ?_ Try.call69 (fun bs w hS => lock_client who w)
 refine Mbn (inB who 1 9) (fun h2 => ?_) fun h2 => ?_
 rotate_left
 · simp only [iT, iF] at h2
   exact Me2 (gone_who (who := who) h1 (by simp only [iT, iF] at *; omega)) Sl.nil rfl fun bs w hS => hS.outS (Sl.rd_nil _ _)
 simp only [iT, iF] at h2
 refine Mf ?_ Try.call19 (fun bs w hS => lock_Copy s w (Sl.rd.kp hs hS.kp) (small_locks (by assumption)))
 rintro y1 hF1
 refine m_split2 ?_
 obtain ⟨A1, c1, S1⟩ := y1
 have hF1 : S1.map CLock.abs = s.xs.map CLock.abs := hF1
 refine m_perm (R' := [ownL (lineR 3) S1, rowA 86 A1 c1 (S1 : List CLock)]) (List.Perm.refl _) ?_
 have hnm1 := locks_names (y := (⟨A1, c1, S1⟩ : Sl CLock)) (hs) hF1
 have hlen1 : S1.length = s.xs.length := by simpa using congrArg List.length hF1
 refine m_know (F := ∀ i, i < S1.length → Rds.ok (S1.getD i default)) (fun bs w hS i hi => Rds.okof (B := anyB) (w := w) (own_eltL (hS.res _ i0) hnm1 (mem_of_getD hi))) fun okown1 => ?_
 refine m_know (F := RowOk A1 c1 (S1 : List CLock)) (fun bs w hS => rowA_rok (hS.res _ i1)) fun hrow1 => ?_
 have nchrow1 := hrow1.2
 have hm1 : mLocks (S1.map CLock.abs) = 0 := by rw [hF1]; assumption
 have hln5 : S1.length ≤ 5 := by have h9 := (mLocks_bd hm1).1; simpa using h9
 refine m_nores (goneR [] (S1.take 0)) rfl (fun w x hx => by cases hx) ?_
 refine Ml (σ := Nat × List CLock × List Nat) (fun ⟨k, L, fp⟩ => GoneI who S1 k L) (fun ⟨k, L, fp⟩ => S1.length - k) (fun ⟨k, L, fp⟩ => [goneR fp (L.take k), ownL (lineR 3) (S1.drop k), rowA 86 A1 c1 (L : List CLock)]) [22, 21, 0, 1] (fun ⟨k, L, fp⟩ => [(22, vI (k : Int))]) (fun _ => []) ?_ (⟨0, S1, []⟩) (GoneI.start hnm1)
 rintro ⟨k, L, fp⟩ hI _ on1
 have hIl := hI.len
 have hIk := hI.le
 refine Md ((k : Int) < (S1.length : Int)) (fun h3 => ?_) fun h3 => ?_
 rotate_left
 · refine Mt [.slice A1 S1.length c1, vi 0] fun bs w hS => ?_
   clear on1
   have hm := gone_ok (who := who) h1 (by simp only [iT, iF] at *; omega)
   refine ⟨⟨A1, c1, L⟩, ?_, ?_, hS.outS (y := (⟨A1, c1, L⟩ : Sl CLock)) (gone_out hI (by omega) i2 i0 hS.res)⟩
   · rw [hm]; exact congrArg (fun q => Ending.returned (.tuple #[.slice A1 q c1, vi 0])) hI.len.symm
   · rw [hm, ← hF1]; exact hI.fin (by omega)
 have hD : (L.getD k default) = S1.getD k default := hI.rest k (Nat.le_refl _)
 have hkL : k < L.length := by omega
 have hk5 := lock_all hm1 (k := k) (by omega)
 rw [← hD] at hk5
 obtain ⟨hk51, hk52, hk53, hk54, hk55, hk56⟩ := hk5
 have hk7 : (L.getD k default).line.n = (L.getD k default).line.xs.length := rfl
 have okD := okown1 k (by omega)
 rw [← hD] at okD
 have ncD := Sl.ok.nc okD.2
 refine m_f1 ?_
 refine m_part2 (rowA 3 (L.getD k default).line.A (L.getD k default).line.c ((L.getD k default).line.xs : List Int)) (ownL (lineR 3) (S1.drop (k + 1))) (own_uncons_fp (lineR 3) (i := k) (by omega) hD) (own_uncons_p (lineR 3) (i := k) (by omega) hD) ?_
 refine Mi ?_ (pc (pIo 27 (k : Int) k S1.length i3) (pFo 31 k 3 1 i3))
 refine Mp ?_ Try.call70 (fun bs w hS => idx_ints (L.getD k default).line (L.getD k default).line.n who w (And.right ⟨hI.names _ (mem_of_getD hkL), Rr (B := anyB) (hS.res _ i0) (fun _ _ => trivial) (fun _ _ => trivial)⟩) (by omega))
 have hix : mIdx (fun z => decide (z = who)) ((L.getD k default).line.xs.take (L.getD k default).line.n) = mIdx (fun z => decide (z = who)) (L.getD k default).line.xs := by rw [take_all (Nat.le_refl _)]
 rw [hix]
 have hIb := mIdx_bd (fun z => decide (z = who)) (L.getD k default).line.xs
 generalize hIx : mIdx (fun z => decide (z = who)) (L.getD k default).line.xs = I at hIb ⊢
 refine Md ((0 : Int) ≤ I) (fun h4 => ?_) fun h4 => ?_
 rotate_left
 · refine Mi ?_ (pFo 50 k 1 1 i3)
   refine Md ((L.getD k default).holder = who) (fun h6 => ?_) fun h6 => ?_
   rotate_left
   · refine Mi ?_ (pR ((k : Int) + 1))
     have hul : (L.getD k default).line.xs = unline (L.getD k default).line.xs who := (line_none (by rw [hIx]; omega)).symm
     have hga : ((L.getD k default)).abs = goneF who (L.getD k default).abs := gone_keep (D := (L.getD k default)) (x := (L.getD k default)) rfl rfl rfl hul h6
     have hgn : ((L.getD k default)).name = (L.getD k default).name := rfl
     refine m_f2 ?_
     refine m_f1 ?_
     refine m_join (goneR (fp ++ (rowA 3 (L.getD k default).line.A (L.getD k default).line.c ((L.getD k default).line.xs : List Int)).fp) (List.take (k + 1) L)) List.perm_append_comm (fun w h1 h2 => goneR_step hkL (set_getD hkL).symm (Rr (A := (L.getD k default).line.A) (c := (L.getD k default).line.c) (L := (L.getD k default).line.xs) h1 (fun b hb => hb) (fun _ _ => trivial)) h2) ?_
     refine m_f2 (m_f2 (m_f2 ?_))
     exact on1 ⟨k + 1, L, fp ++ (rowA 3 (L.getD k default).line.A (L.getD k default).line.c ((L.getD k default).line.xs : List Int)).fp⟩ (GoneI.step hI (by omega) (set_getD hkL).symm hga hgn) (by show S1.length - (k + 1) < S1.length - k; omega)
   refine m_f3 ?_
   refine Mtu ?_ Try.call72 (fun bs w hS => lock_pass (B := (· ∈ (rowA 3 (L.getD k default).line.A (L.getD k default).line.c ((L.getD k default).line.xs : List Int)).fp)) A1 c1 L k w (hS.res _ i0) hS.head1.2.2 (by omega) ⟨(show (L.getD k default).name.size ≤ 9223372036854775807 from hI.names _ (mem_of_getD hkL)), Rr (hS.res _ i1) (fun b hb => hb) (fun _ _ => trivial)⟩ (fun b hb => hS.disj (r2 := rowA 3 (L.getD k default).line.A (L.getD k default).line.c ((L.getD k default).line.xs : List Int)) i0 b hb) ⟨hk54, hk55⟩)
   rintro _ _
   obtain ⟨L8, hL8⟩ : ∃ M : List CLock, M = L.set k (passC (L.getD k default)) := ⟨_, rfl⟩
   rw [← hL8]
   have hlL8 : L8.length = L.length := by rw [hL8, List.length_set]
   have hgL8 : L8.getD k default = passC (L.getD k default) := by rw [hL8]; exact getD_set (by omega)
   have hbL8 : L8 = List.set L k (passC (L.getD k default)) := by rw [hL8]
   refine Mi ?_ (pR ((k : Int) + 1))
   have hul : (L.getD k default).line.xs = unline (L.getD k default).line.xs who := (line_none (by rw [hIx]; omega)).symm
   have hga : ((passC (L.getD k default))).abs = goneF who (L.getD k default).abs := gone_pass (D := (L.getD k default)) (x := (L.getD k default)) (passC_abs _) rfl rfl rfl hul h6
   have hgn : ((passC (L.getD k default))).name = (L.getD k default).name := passC_name _
   refine m_f3 ?_
   refine m_f2 ?_
   refine m_join (goneR (fp ++ (rowA 3 (L.getD k default).line.A (L.getD k default).line.c ((L.getD k default).line.xs : List Int)).fp) (List.take (k + 1) L8)) List.perm_append_comm (fun w h1 h2 => goneR_step hkL hbL8 (passC_rd (x := (L.getD k default)) (Rr (A := (L.getD k default).line.A) (c := (L.getD k default).line.c) (L := (L.getD k default).line.xs) h1 (fun b hb => hb) (fun _ _ => trivial))) h2) ?_
   refine m_f1 (m_f2 (m_f2 ?_))
   exact on1 ⟨k + 1, L8, fp ++ (rowA 3 (L.getD k default).line.A (L.getD k default).line.c ((L.getD k default).line.xs : List Int)).fp⟩ (GoneI.step hI (by omega) hbL8 hga hgn) (by show S1.length - (k + 1) < S1.length - k; omega)
 refine Mi ?_ (pc (pFo 40 k 3 1 i3) (pR (I + 1)))
 refine Mtu ?_ (σ := Unit) (v := fun _ => .slice (L.getD k default).line.A ((L.getD k default).line.xs.take I.toNat ++ (L.getD k default).line.xs.drop (I.toNat + 1)).length (L.getD k default).line.c) (F := fun _ => True) (r := fun _ => rowA 3 (L.getD k default).line.A (L.getD k default).line.c ((L.getD k default).line.xs.take I.toNat ++ (L.getD k default).line.xs.drop (I.toNat + 1) : List Int)) (vs := fun bs => [.slice (L.getD k default).line.A (L.getD k default).line.n (L.getD k default).line.c, vi I, vi (I + 1)]) Try.call71 (fun bs w hS => (delR_Int (L.getD k default).line.A (L.getD k default).line.c (L.getD k default).line.xs I.toNat (I.toNat + 1) _ _ w (hS.res _ i0) hS.head1.2.2 (by omega) (by omega) (by first | omega | (simp only [Sl.n] at *; omega)) (by first | omega | (simp only [Sl.n] at *; omega))).mono (fun e w' ⟨h1, h2⟩ => ⟨(), h1, trivial, h2⟩))
 rintro _ _
 refine m_f3 ?_
 refine Ms k 3 (⟨(L.getD k default).name, (L.getD k default).holder, (L.getD k default).fence, ⟨(L.getD k default).line.A, (L.getD k default).line.c, (L.getD k default).line.xs.take I.toNat ++ (L.getD k default).line.xs.drop (I.toNat + 1)⟩⟩ : CLock) ?_ (by omega)
 intro L4 hL4 hlL4
 have hgL4 : L4.getD k default = (⟨(L.getD k default).name, (L.getD k default).holder, (L.getD k default).fence, ⟨(L.getD k default).line.A, (L.getD k default).line.c, (L.getD k default).line.xs.take I.toNat ++ (L.getD k default).line.xs.drop (I.toNat + 1)⟩⟩ : CLock) := by rw [hL4]; exact getD_set (by omega)
 have hbL4 : L4 = List.set L k (⟨(L.getD k default).name, (L.getD k default).holder, (L.getD k default).fence, ⟨(L.getD k default).line.A, (L.getD k default).line.c, (L.getD k default).line.xs.take I.toNat ++ (L.getD k default).line.xs.drop (I.toNat + 1)⟩⟩ : CLock) := by rw [hL4]
 refine Mi ?_ (pFk 50 k 1 1 hgL4 i0)
 refine Md ((L.getD k default).holder = who) (fun h5 => ?_) fun h5 => ?_
 rotate_left
 · refine Mi ?_ (pR ((k : Int) + 1))
   have hul : (L.getD k default).line.xs.take I.toNat ++ (L.getD k default).line.xs.drop (I.toNat + 1) = unline (L.getD k default).line.xs who := line_one' (d := (L.getD k default).abs) hk53 (i := I.toNat) (by show mIdx _ (L.getD k default).line.xs = _; rw [hIx]; omega) rfl
   have hga : ((⟨(L.getD k default).name, (L.getD k default).holder, (L.getD k default).fence, ⟨(L.getD k default).line.A, (L.getD k default).line.c, (L.getD k default).line.xs.take I.toNat ++ (L.getD k default).line.xs.drop (I.toNat + 1)⟩⟩ : CLock)).abs = goneF who (L.getD k default).abs := gone_keep (D := (L.getD k default)) (x := (⟨(L.getD k default).name, (L.getD k default).holder, (L.getD k default).fence, ⟨(L.getD k default).line.A, (L.getD k default).line.c, (L.getD k default).line.xs.take I.toNat ++ (L.getD k default).line.xs.drop (I.toNat + 1)⟩⟩ : CLock)) rfl rfl rfl hul h5
   have hgn : ((⟨(L.getD k default).name, (L.getD k default).holder, (L.getD k default).fence, ⟨(L.getD k default).line.A, (L.getD k default).line.c, (L.getD k default).line.xs.take I.toNat ++ (L.getD k default).line.xs.drop (I.toNat + 1)⟩⟩ : CLock)).name = (L.getD k default).name := rfl
   refine m_f3 ?_
   refine m_f2 ?_
   refine m_join (goneR (fp ++ (rowA 3 (L.getD k default).line.A (L.getD k default).line.c ((L.getD k default).line.xs.take I.toNat ++ (L.getD k default).line.xs.drop (I.toNat + 1) : List Int)).fp) (List.take (k + 1) L4)) List.perm_append_comm (fun w h1 h2 => goneR_step hkL hbL4 (Rr (A := (L.getD k default).line.A) (c := (L.getD k default).line.c) (L := (L.getD k default).line.xs.take I.toNat ++ (L.getD k default).line.xs.drop (I.toNat + 1)) h1 (fun b hb => hb) (fun _ _ => trivial)) h2) ?_
   refine m_f1 (m_f2 (m_f2 ?_))
   exact on1 ⟨k + 1, L4, fp ++ (rowA 3 (L.getD k default).line.A (L.getD k default).line.c ((L.getD k default).line.xs.take I.toNat ++ (L.getD k default).line.xs.drop (I.toNat + 1) : List Int)).fp⟩ (GoneI.step hI (by omega) hbL4 hga hgn) (by show S1.length - (k + 1) < S1.length - k; omega)
 refine Mtu ?_ Try.call72 (fun bs w hS => lock_pass (B := (· ∈ (rowA 3 (L.getD k default).line.A (L.getD k default).line.c ((L.getD k default).line.xs.take I.toNat ++ (L.getD k default).line.xs.drop (I.toNat + 1) : List Int)).fp)) A1 c1 L4 k w (hS.res _ i0) hS.head1.2.2 (by omega) (by rw [hgL4]; exact ⟨(show (L.getD k default).name.size ≤ 9223372036854775807 from hI.names _ (mem_of_getD hkL)), Rr (hS.res _ i1) (fun b hb => hb) (fun _ _ => trivial)⟩) (fun b hb => hS.disj (r2 := rowA 3 (L.getD k default).line.A (L.getD k default).line.c ((L.getD k default).line.xs.take I.toNat ++ (L.getD k default).line.xs.drop (I.toNat + 1) : List Int)) i0 b hb) (by rw [hgL4]; exact ⟨hk54, hk55⟩))
 rintro _ _
 obtain ⟨L6, hL6⟩ : ∃ M : List CLock, M = L4.set k (passC (L4.getD k default)) := ⟨_, rfl⟩
 rw [← hL6]
 have hlL6 : L6.length = L4.length := by rw [hL6, List.length_set]
 have hgL6 : L6.getD k default = passC (⟨(L.getD k default).name, (L.getD k default).holder, (L.getD k default).fence, ⟨(L.getD k default).line.A, (L.getD k default).line.c, (L.getD k default).line.xs.take I.toNat ++ (L.getD k default).line.xs.drop (I.toNat + 1)⟩⟩ : CLock) := by rw [hL6, hgL4]; exact getD_set (by omega)
 have hbL6 : L6 = List.set L k (passC (⟨(L.getD k default).name, (L.getD k default).holder, (L.getD k default).fence, ⟨(L.getD k default).line.A, (L.getD k default).line.c, (L.getD k default).line.xs.take I.toNat ++ (L.getD k default).line.xs.drop (I.toNat + 1)⟩⟩ : CLock)) := by rw [hL6, hgL4, hbL4, List.set_set]
 refine Mi ?_ (pR ((k : Int) + 1))
 have hul : (L.getD k default).line.xs.take I.toNat ++ (L.getD k default).line.xs.drop (I.toNat + 1) = unline (L.getD k default).line.xs who := line_one' (d := (L.getD k default).abs) hk53 (i := I.toNat) (by show mIdx _ (L.getD k default).line.xs = _; rw [hIx]; omega) rfl
 have hga : ((passC (⟨(L.getD k default).name, (L.getD k default).holder, (L.getD k default).fence, ⟨(L.getD k default).line.A, (L.getD k default).line.c, (L.getD k default).line.xs.take I.toNat ++ (L.getD k default).line.xs.drop (I.toNat + 1)⟩⟩ : CLock))).abs = goneF who (L.getD k default).abs := gone_pass (D := (L.getD k default)) (x := (⟨(L.getD k default).name, (L.getD k default).holder, (L.getD k default).fence, ⟨(L.getD k default).line.A, (L.getD k default).line.c, (L.getD k default).line.xs.take I.toNat ++ (L.getD k default).line.xs.drop (I.toNat + 1)⟩⟩ : CLock)) (passC_abs _) rfl rfl rfl hul h5
 have hgn : ((passC (⟨(L.getD k default).name, (L.getD k default).holder, (L.getD k default).fence, ⟨(L.getD k default).line.A, (L.getD k default).line.c, (L.getD k default).line.xs.take I.toNat ++ (L.getD k default).line.xs.drop (I.toNat + 1)⟩⟩ : CLock))).name = (L.getD k default).name := passC_name _
 refine m_f3 ?_
 refine m_f2 ?_
 refine m_join (goneR (fp ++ (rowA 3 (L.getD k default).line.A (L.getD k default).line.c ((L.getD k default).line.xs.take I.toNat ++ (L.getD k default).line.xs.drop (I.toNat + 1) : List Int)).fp) (List.take (k + 1) L6)) List.perm_append_comm (fun w h1 h2 => goneR_step hkL hbL6 (passC_rd (x := (⟨(L.getD k default).name, (L.getD k default).holder, (L.getD k default).fence, ⟨(L.getD k default).line.A, (L.getD k default).line.c, (L.getD k default).line.xs.take I.toNat ++ (L.getD k default).line.xs.drop (I.toNat + 1)⟩⟩ : CLock)) (Rr (A := (L.getD k default).line.A) (c := (L.getD k default).line.c) (L := (L.getD k default).line.xs.take I.toNat ++ (L.getD k default).line.xs.drop (I.toNat + 1)) h1 (fun b hb => hb) (fun _ _ => trivial))) h2) ?_
 refine m_f1 (m_f2 (m_f2 ?_))
 exact on1 ⟨k + 1, L6, fp ++ (rowA 3 (L.getD k default).line.A (L.getD k default).line.c ((L.getD k default).line.xs.take I.toNat ++ (L.getD k default).line.xs.drop (I.toNat + 1) : List Int)).fp⟩ (GoneI.step hI (by omega) hbL6 hga hgn) (by show S1.length - (k + 1) < S1.length - k; omega)

theorem ref_GoneOf {B : Nat → Prop} (s : Sl CLock) (who : Int) (w : World) (hs : s.rd B w) : Calls Try.prog 39 #[s.val, vi who] w fun e w' => ∃ y : Sl CLock, e = .returned (.tuple #[y.val, vi (mGone (s.xs.map CLock.abs) who).2]) ∧ y.xs.map CLock.abs = (mGone (s.xs.map CLock.abs) who).1 ∧ FreshS w w' y := by
 have oks := Sl.rd.ok hs
 have ncs := Sl.ok.nc oks
 have hns : s.n = s.xs.length := rfl
 refine M0 ?_ Try.func39
 refine Mp ?_ Try.call73 (fun bs w hS => ref_LocksFault s w (Sl.rd.kp hs hS.kp))
 refine Md (mLocks (s.xs.map CLock.abs) = 0) (fun h1 => ?_) fun h1 => ?_
 rotate_left
 · refine My false true ?_ (df h1)
   exact Me2 (gone_bad (who := who) h1) Sl.nil rfl fun bs w hS => hS.outS (Sl.rd_nil _ _)
 refine Mp ?_ Try.call64 (fun bs w hS => ref_In who 1 9 w)
 refine Mbn (inB who 1 9) (fun h2 => ?_) fun h2 => ?_
 rotate_left
 · simp only [iT, iF] at h2
   refine Mq 19 true ?_ rfl
   exact Me2 (gone_who (who := who) h1 (by simp only [iT, iF] at *; omega)) Sl.nil rfl fun bs w hS => hS.outS (Sl.rd_nil _ _)
 simp only [iT, iF] at h2
 refine My true true ?_ (dt h1)
 refine Mf ?_ Try.call37 (fun bs w hS => ref_LocksCopy s w (Sl.rd.kp hs hS.kp) (small_locks (by assumption)))
 rintro y1 hF1
 refine m_split2 ?_
 obtain ⟨A1, c1, S1⟩ := y1
 have hF1 : S1.map CLock.abs = s.xs.map CLock.abs := hF1
 refine m_perm (R' := [ownL (lineR 3) S1, rowA 86 A1 c1 (S1 : List CLock)]) (List.Perm.refl _) ?_
 have hnm1 := locks_names (y := (⟨A1, c1, S1⟩ : Sl CLock)) (hs) hF1
 have hlen1 : S1.length = s.xs.length := by simpa using congrArg List.length hF1
 refine m_know (F := ∀ i, i < S1.length → Rds.ok (S1.getD i default)) (fun bs w hS i hi => Rds.okof (B := anyB) (w := w) (own_eltL (hS.res _ i0) hnm1 (mem_of_getD hi))) fun okown1 => ?_
 refine m_know (F := RowOk A1 c1 (S1 : List CLock)) (fun bs w hS => rowA_rok (hS.res _ i1)) fun hrow1 => ?_
 have nchrow1 := hrow1.2
 have hm1 : mLocks (S1.map CLock.abs) = 0 := by rw [hF1]; assumption
 have hln5 : S1.length ≤ 5 := by have h9 := (mLocks_bd hm1).1; simpa using h9
 refine m_nores (goneR [] (S1.take 0)) rfl (fun w x hx => by cases hx) ?_
 refine Ml (σ := Nat × List CLock × List Nat) (fun ⟨k, L, fp⟩ => GoneI who S1 k L) (fun ⟨k, L, fp⟩ => S1.length - k) (fun ⟨k, L, fp⟩ => [goneR fp (L.take k), ownL (lineR 3) S1, rowA 86 A1 c1 (L : List CLock)]) [8, 7, 1] (fun ⟨k, L, fp⟩ => [(8, vI (k : Int))]) (fun _ => []) ?_ (⟨0, S1, []⟩) (GoneI.start hnm1)
 rintro ⟨k, L, fp⟩ hI _ on1
 have hIl := hI.len
 have hIk := hI.le
 refine Md ((k : Int) < (S1.length : Int)) (fun h4 => ?_) fun h4 => ?_
 rotate_left
 · refine Mt [.slice A1 S1.length c1, vi 0] fun bs w hS => ?_
   clear on1
   have hm := gone_ok (who := who) h1 (by simp only [iT, iF] at *; omega)
   refine ⟨⟨A1, c1, L⟩, ?_, ?_, hS.outS (y := (⟨A1, c1, L⟩ : Sl CLock)) (gone_out hI (by omega) i2 i0 hS.res)⟩
   · rw [hm]; exact congrArg (fun q => Ending.returned (.tuple #[.slice A1 q c1, vi 0])) hI.len.symm
   · rw [hm, ← hF1]; exact hI.fin (by omega)
 have hD : (L.getD k default) = S1.getD k default := hI.rest k (Nat.le_refl _)
 have hkL : k < L.length := by omega
 have hk5 := lock_all hm1 (k := k) (by omega)
 rw [← hD] at hk5
 obtain ⟨hk51, hk52, hk53, hk54, hk55, hk56⟩ := hk5
 have hk7 : (L.getD k default).line.n = (L.getD k default).line.xs.length := rfl
 have okD := okown1 k (by omega)
 rw [← hD] at okD
 have ncD := Sl.ok.nc okD.2
 refine Mi ?_ (pc (pIo 33 (k : Int) k S1.length i2) (pFo 35 k 3 1 i2))
 refine Mu ?_ Try.call74 (fun bs w hS => ref_unlined (L.getD k default).line who w (And.right (by rw [hD]; exact own_eltL (hS.res _ i1) hnm1 (mem_of_getD (i := k) (by omega)))) (by omega))
 rintro fp3 y3 hF3 hok3
 refine Mi ?_ (pIo 38 (k : Int) k S1.length i3)
 refine m_f3 ?_
 refine Ms k 3 (⟨(L.getD k default).name, (L.getD k default).holder, (L.getD k default).fence, y3⟩ : CLock) ?_ (by omega)
 intro L4 hL4 hlL4
 have hgL4 : L4.getD k default = (⟨(L.getD k default).name, (L.getD k default).holder, (L.getD k default).fence, y3⟩ : CLock) := by rw [hL4]; exact getD_set (by omega)
 have hbL4 : L4 = List.set L k (⟨(L.getD k default).name, (L.getD k default).holder, (L.getD k default).fence, y3⟩ : CLock) := by rw [hL4]
 refine Mi ?_ (pc (pIo 42 (k : Int) k S1.length i0) (pFk 44 k 1 1 hgL4 i0))
 refine Md ((L.getD k default).holder = who) (fun h5 => ?_) fun h5 => ?_
 rotate_left
 · refine Mi ?_ (pR ((k : Int) + 1))
   have hga : ((⟨(L.getD k default).name, (L.getD k default).holder, (L.getD k default).fence, y3⟩ : CLock)).abs = goneF who (L.getD k default).abs := gone_keep (D := (L.getD k default)) (x := (⟨(L.getD k default).name, (L.getD k default).holder, (L.getD k default).fence, y3⟩ : CLock)) rfl rfl rfl hF3 h5
   have hgn : ((⟨(L.getD k default).name, (L.getD k default).holder, (L.getD k default).fence, y3⟩ : CLock)).name = (L.getD k default).name := rfl
   refine m_f2 ?_
   refine m_f2 ?_
   refine m_join (goneR (fp ++ fp3) (List.take (k + 1) L4)) List.perm_append_comm (fun w h1 h2 => goneR_step hkL hbL4 h1 h2) ?_
   refine m_f1 (m_f2 (m_f2 ?_))
   exact on1 ⟨k + 1, L4, fp ++ fp3⟩ (GoneI.step hI (by omega) hbL4 hga hgn) (by show S1.length - (k + 1) < S1.length - k; omega)
 refine Mi ?_ (pc (pIo 51 (k : Int) k S1.length i0) (pEk 52 k hgL4 i0))
 have hyl : y3.xs.length ≤ 3 := by rw [hF3]; exact Nat.le_trans (List.length_filter_le _ _) (by omega)
 refine Mu ?_ Try.call75 (fun bs w hS => ref_passed (⟨(L.getD k default).name, (L.getD k default).holder, (L.getD k default).fence, y3⟩ : CLock) w ⟨(show (L.getD k default).name.size ≤ 9223372036854775807 from hI.names _ (mem_of_getD hkL)), (hS.res _ i1)⟩ ⟨hk54, hk55⟩ (by show y3.xs.length ≤ _; omega))
 rintro fp5 y5 hF5 hok5
 refine Mi ?_ (pIo 54 (k : Int) k S1.length i1)
 refine m_f1 ?_
 refine Ms k 0 (⟨y5.name, y5.holder, y5.fence, y5.line⟩ : CLock) ?_ (by omega) (hg := hgL4)
 intro L6 hL6 hlL6
 have hgL6 : L6.getD k default = (⟨y5.name, y5.holder, y5.fence, y5.line⟩ : CLock) := by rw [hL6]; exact getD_set (by omega)
 have hbL6 : L6 = List.set L k (⟨y5.name, y5.holder, y5.fence, y5.line⟩ : CLock) := by rw [hL6, hbL4, List.set_set]
 refine Mi ?_ (pR ((k : Int) + 1))
 have hga : ((⟨y5.name, y5.holder, y5.fence, y5.line⟩ : CLock)).abs = goneF who (L.getD k default).abs := gone_pass (D := (L.getD k default)) (x := (⟨(L.getD k default).name, (L.getD k default).holder, (L.getD k default).fence, y3⟩ : CLock)) hF5 rfl rfl rfl hF3 h5
 have hgn : ((⟨y5.name, y5.holder, y5.fence, y5.line⟩ : CLock)).name = (L.getD k default).name := (congrArg DLock.name hF5).trans (mPass_name _)
 refine m_f3 ?_
 refine m_f3 ?_
 refine m_join (goneR (fp ++ fp3) (L.take k)) List.perm_append_comm (fun w h1 h2 x hx => Sl.rd.wide (h2 x hx) fun b hb => List.mem_append_left _ hb) ?_
 refine m_f2 ?_
 refine m_join (goneR ((fp ++ fp3) ++ fp5) (List.take (k + 1) L6)) List.perm_append_comm (fun w h1 h2 => goneR_step hkL hbL6 h1.2 h2) ?_
 refine m_f1 (m_f2 (m_f2 ?_))
 exact on1 ⟨k + 1, L6, (fp ++ fp3) ++ fp5⟩ (GoneI.step hI (by omega) hbL6 hga hgn) (by show S1.length - (k + 1) < S1.length - k; omega)

theorem law_LockGone {B : Nat → Prop} (s : Sl CLock) (who : Int) (w : World) (hs : s.rd B w) (hsm : Rds.small s) : Calls Try.prog 13 #[s.val, vi who] w fun e w' => e = .returned (vb true) ∧ Kp [] w w' := by
 have oks := Sl.rd.ok hs
 have ncs := Sl.ok.nc oks
 have hns : s.n = s.xs.length := rfl
 refine M0 ?_ Try.func13
 refine Mu ?_ Try.call37 (fun bs w hS => ref_LocksCopyS s w (Sl.rd.kp hs hS.kp) hsm)
 rintro fp1 y1 hF1 hok1
 refine Mu ?_ Try.call38 (fun bs w hS => lock_Gone y1 who w (hS.res _ i0))
 rintro fp2 y2 hF2 hok2
 refine Mu ?_ Try.call39 (fun bs w hS => ref_GoneOf s who w (Sl.rd.kp hs hS.kp))
 rintro fp3 y3 hF3 hok3
 refine Md ((mGone (y1.xs.map CLock.abs) who).2 = (mGone (s.xs.map CLock.abs) who).2) (fun h1 => ?_) fun h1 => ?_
 rotate_left
 · exfalso; first | (simp at h1; done) | (rw [hF1] at h1; simp at h1; done)
 refine Mp ?_ Try.call20 (fun bs w hS => same_locks _ _ w (hS.res _ i1) (hS.res _ i0) (by rw [hF2, hF3, hF1]))
 refine Mq 32 true ?_ rfl
 refine Mp ?_ Try.call20 (fun bs w hS => same_locks _ _ w (hS.res _ i2) (Sl.rd.kp hs hS.kp) hF1)
 exact Meb true (by simp [retOf, den])

end Go.Proofs.Ytakdjdfkdbofoaa.W
