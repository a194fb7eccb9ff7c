/-
  The functions that the law LockFrees reaches, walked: each returns what its model says.
  Conditions: those that each theorem states.
-/
import Derived.Test.YtakdjdfkdbofoabFe
import Derived.Test.YtakdjdfkdbofoabChecked
set_option linter.unusedVariables false
set_option linter.unusedSimpArgs false
set_option maxRecDepth 100000
set_option maxHeartbeats 2000000
namespace Go.Proofs.Ytakdjdfkdbofoab.W
open Go.Proofs.Ytakdjdfkdbofoab.Fw Go.RowKit
attribute [local irreducible] JM nx

theorem Try_mixed : Try.prog.follows .mixedOrders = true := by kernel_rfl
theorem laid : laidOutB Try.prog = true := by kernel_rfl

theorem ref_In (n lo hi : Int) (w : World) : Calls Try.prog 56 #[vi n, vi lo, vi hi] w fun e w' => e = .returned (vb (inB n lo hi)) ∧ Kp [] w w' := by
 refine M0 ?_ Try.func56
 refine Md (lo ≤ n) (fun h1 => ?_) fun h1 => ?_
 rotate_left
 · exact Mt [vb false] fun bs w hS => ⟨by simp [retOf, den, inB, h1], hS.kp⟩
 exact Mt [vb (decide (n ≤ hi))] fun bs w hS => ⟨by simp [retOf, den, inB, h1], hS.kp⟩

theorem lock_Name1 (c : UInt8) (w : World) : Calls Try.prog 97 #[.int .u8 (c.toNat : Int)] w fun e w' => e = .returned (vb (nameBad c)) ∧ Kp [] w w' := by
 refine M0 ?_ Try.func97
 refine Md ((c.toNat : Int) < 97) (fun h1 => ?_) fun h1 => ?_
 · exact Mt [vb true] fun bs w hS => ⟨by simp [retOf, den, nameBad, h1], hS.kp⟩
 exact Mt [vb (decide ((122 : Int) < (c.toNat : Int)))] fun bs w hS => ⟨by simp [retOf, den, nameBad, h1], hS.kp⟩

theorem idx_bytes {B : Nat → Prop} (s : Sl UInt8) (w : World) (hs : s.rd B w) : Calls Try.prog 137 #[s.val, .func (.func 97) #[] #[]] w fun e w' => e = .returned (vi (mIdx nameBad s.xs)) ∧ Kp [] w w' := by
 have oks := Sl.rd.ok hs
 have ncs := Sl.ok.nc oks
 have hns : s.n = s.xs.length := rfl
 refine Mj ?_ Try.func137 (WS.start w)
 refine Ml (σ := Nat) (fun i => i ≤ s.n ∧ ∀ j, j < i → nameBad (s.at j) = false) (fun i => s.n - i) (fun _ => []) [8, 7, 0, 1] (fun i => [(8, vI (i : Int))]) (fun _ => []) ?_ 0 ⟨Nat.zero_le _, fun j hj => absurd hj (Nat.not_lt_zero _)⟩
 rintro i ⟨hi, hI⟩ _ on1
 refine Md ((i : Int) < (s.n : Int)) (fun h1 => ?_) fun h1 => ?_
 rotate_left
 · exact Me0 (-1) (by rw [mIdx_none fun j hj => hI j (by omega)])
 refine Mi ?_ (pA 14 15 (i : Int) i (rdk hs))
 refine Mp ?_ Try.call97 (fun bs w hS => lock_Name1 (s.at i) w)
 refine Mb (nameBad (s.at i)) (fun h2 => ?_) fun h2 => ?_
 · exact Me0 (i : Int) (by rw [mIdx_here (by omega) (by assumption) hI])
 refine Mi ?_ (pR ((i : Int) + 1))
 exact on1 (i + 1) ⟨by omega, fun j hj => by rcases Nat.lt_succ_iff_lt_or_eq.1 hj with h | h; exact hI j h; subst h; assumption⟩ (by omega)

theorem has_bytes {B : Nat → Prop} (s : Sl UInt8) (w : World) (hs : s.rd B w) : Calls Try.prog 96 #[s.val, .func (.func 97) #[] #[]] w fun e w' => e = .returned (vb (s.xs.any nameBad)) ∧ Kp [] w w' := by
 have oks := Sl.rd.ok hs
 have ncs := Sl.ok.nc oks
 have hns : s.n = s.xs.length := rfl
 refine Mj ?_ Try.func96 (WS.start w)
 refine Mp ?_ Try.call137 (fun bs w hS => idx_bytes _ w (Sl.rd.kp hs hS.kp))
 exact Meb (decide ((0 : Int) ≤ mIdx nameBad s.xs)) (by simp only [retOf, den, List.map_cons, List.map_nil, mIdx_nonneg])

theorem lock_Name (s : ByteArray) (w : World) (hs : s.size ≤ 9223372036854775807) : Calls Try.prog 43 #[vs s] w fun e w' => e = .returned (vb (mName s)) ∧ Kp [] w w' := by
 refine M0 ?_ Try.func43
 refine Mdn (s = emp) (fun h1 => ?_) fun h1 => ?_
 · exact Meb false (by simp [retOf, den, mName, *])
 refine Md ((s.size : Int) ≤ 6) (fun h2 => ?_) fun h2 => ?_
 rotate_left
 · exact Meb false (by simp [retOf, den, mName, *])
 refine Msy ?_ (e := 5) (by unfold maxLen; omega)
 rintro fp1 y1 hF1 hok1
 refine Mp ?_ Try.call96 (fun bs w hS => has_bytes _ w (hS.res _ i0))
 exact Meb (!(y1.xs.any nameBad)) (by simp [retOf, den, mName, *])

theorem ref_NameMay (s : ByteArray) (w : World) (hs : s.size ≤ 9223372036854775807) : Calls Try.prog 48 #[vs s] w fun e w' => e = .returned (vb (mName s)) ∧ Kp [] w w' := by
 refine M0 ?_ Try.func48
 refine Ml (σ := Nat) (fun i => i ≤ s.size ∧ ∀ j, j < i → nameBad (s.data.getD j 0) = false) (fun i => s.size - i) (fun _ => []) [3, 0] (fun i => [(3, vI (i : Int))]) (fun _ => []) ?_ 0 ⟨Nat.zero_le _, fun j hj => absurd hj (Nat.not_lt_zero _)⟩
 rintro i ⟨hi, hI⟩ _ on1
 have hu := (s.data.getD i 0).toNat_lt
 refine Md ((i : Int) < (s.size : Int)) (fun h1 => ?_) fun h1 => ?_
 rotate_left
 · refine Mp ?_ Try.call56 (fun bs w hS => ref_In (s.size : Int) 1 6 w)
   exact Meb (inB (s.size : Int) 1 6) (by simp only [retOf, den, List.map_cons, List.map_nil, mName_good fun j hj => hI j (by omega)])
 refine Mi ?_ (pc (pG [(12, .sidx i)] (oc (rfl : (i : Int) = (i : Int)) (oc ((by omega) : i < s.size) on))) (pc (pP (0 ≤ ((s.data.getD i 0).toNat : Int))) (pP (((s.data.getD i 0).toNat : Int) ≤ 255))))
 refine Mp ?_ Try.call56 (fun bs w hS => ref_In ((s.data.getD i 0).toNat : Int) 97 122 w)
 refine Mbn (inB ((s.data.getD i 0).toNat : Int) 97 122) (fun h2 => ?_) fun h2 => ?_
 rotate_left
 · refine Mt [vb false] fun bs w hS => ?_
   clear on1
   refine ⟨?_, hS.kp⟩
   rw [mName_bad (i := i) (by omega) (by simp only [inB, nameBad, Bool.and_eq_false_iff, Bool.or_eq_true, decide_eq_true_eq, decide_eq_false_iff_not] at *; omega)]
   rfl
 refine Mi ?_ (pR ((i : Int) + 1))
 exact on1 (i + 1) ⟨by omega, fun j hj => by rcases Nat.lt_succ_iff_lt_or_eq.1 hj with h | h; exact hI j h; subst h; simp only [inB, nameBad, Bool.and_eq_true, Bool.or_eq_false_iff, decide_eq_true_eq, decide_eq_false_iff_not] at *; omega⟩ (by omega)

theorem lock_client (n : Int) (w : World) : Calls Try.prog 111 #[vi n] w fun e w' => e = .returned (vb (inB n 1 9)) ∧ Kp [] w w' := by
 refine M0 ?_ Try.func111
 refine Md ((1 : Int) ≤ n) (fun h1 => ?_) fun h1 => ?_
 rotate_left
 · exact Mt [vb false] fun bs w hS => ⟨by simp [retOf, den, inB, h1], hS.kp⟩
 exact Mt [vb (decide (n ≤ 9))] fun bs w hS => ⟨by simp [retOf, den, inB, h1], hS.kp⟩

theorem idx_ints {B : Nat → Prop} (s : Sl Int) (k : Nat) (n : Int) (w : World) (hs : s.rd B w) (hk : k ≤ s.n) : Calls Try.prog 71 #[.slice s.A k s.c, vi n] w fun e w' => e = .returned (vi (mIdx (fun z => decide (z = n)) (s.xs.take k))) ∧ Kp [] w w' := by
 have oks := Sl.rd.ok hs
 have ncs := Sl.ok.nc oks
 have hns : s.n = s.xs.length := rfl
 refine M0 ?_ Try.func71
 refine Ml (σ := Nat) (fun i => i ≤ k ∧ ∀ j, j < i → decide (s.at j = n) = false) (fun i => k - i) (fun _ => []) [8, 7, 0, 1] (fun i => [(8, vI (i : Int))]) (fun _ => []) ?_ 0 ⟨Nat.zero_le _, fun j hj => absurd hj (Nat.not_lt_zero _)⟩
 rintro i ⟨hi, hI⟩ _ on1
 refine Md ((i : Int) < (k : Int)) (fun h1 => ?_) fun h1 => ?_
 rotate_left
 · exact Me0 (-1) (by rw [mIdxT_none hk fun j hj => hI j (by omega)])
 refine Mi ?_ (pc (pIk 14 (i : Int) i k (rdk hs)) (pE 15 i (rdk hs)))
 refine Md (n = (s.at i)) (fun h2 => ?_) fun h2 => ?_
 · exact Me0 (i : Int) (by rw [mIdxT_here (i := i) hk (by omega) (decide_eq_true (by omega)) hI])
 refine Mi ?_ (pR ((i : Int) + 1))
 exact on1 (i + 1) ⟨by omega, fun j hj => by rcases Nat.lt_succ_iff_lt_or_eq.1 hj with h | h; exact hI j h; subst h; exact decide_eq_false (fun e => by omega)⟩ (by omega)

theorem has_ints {B : Nat → Prop} (s : Sl Int) (k : Nat) (n : Int) (w : World) (hs : s.rd B w) (hk : k ≤ s.n) : Calls Try.prog 65 #[.slice s.A k s.c, vi n] w fun e w' => e = .returned (vb ((s.xs.take k).any fun z => decide (z = n))) ∧ Kp [] w w' := by
 have oks := Sl.rd.ok hs
 have ncs := Sl.ok.nc oks
 have hns : s.n = s.xs.length := rfl
 refine M0 ?_ Try.func65
 refine Mp ?_ Try.call71 (fun bs w hS => idx_ints s k n w (Sl.rd.kp hs hS.kp) (by omega))
 exact Meb (decide ((0 : Int) ≤ mIdx (fun z => decide (z = n)) (s.xs.take k))) (by simp only [retOf, den, List.map_cons, List.map_nil, mIdx_nonneg])

theorem ref_has {B : Nat → Prop} (s : Sl Int) (k : Nat) (n : Int) (w : World) (hs : s.rd B w) (hk : k ≤ s.n) : Calls Try.prog 69 #[.slice s.A k s.c, vi n] w fun e w' => e = .returned (vb ((s.xs.take k).any fun z => decide (z = n))) ∧ Kp [] w w' := by
 have oks := Sl.rd.ok hs
 have ncs := Sl.ok.nc oks
 have hns : s.n = s.xs.length := rfl
 refine M0 ?_ Try.func69
 refine Ml (σ := Nat) (fun i => i ≤ k ∧ ∀ j, j < i → ¬ s.at j = n) (fun i => k - i) (fun _ => []) [5, 0, 1] (fun i => [(5, vI (i : Int))]) (fun _ => []) ?_ 0 ⟨Nat.zero_le _, fun j hj => absurd hj (Nat.not_lt_zero _)⟩
 rintro i ⟨hi, hI⟩ _ on1
 refine Md ((i : Int) < (k : Int)) (fun h1 => ?_) fun h1 => ?_
 rotate_left
 · exact Meb false (by rw [any_none hk fun j hj => hI j (by omega)])
 refine Mi ?_ (pc (pIk 14 (i : Int) i k (rdk hs)) (pE 15 i (rdk hs)))
 refine Md ((s.at i) = n) (fun h2 => ?_) fun h2 => ?_
 · exact Meb true (by rw [any_here (j := i) hk (by omega) (by assumption)])
 refine Mi ?_ (pR ((i : Int) + 1))
 exact on1 (i + 1) ⟨by omega, fun j hj => by rcases Nat.lt_succ_iff_lt_or_eq.1 hj with h | h; exact hI j h; subst h; assumption⟩ (by omega)

theorem lock_line {B : Nat → Prop} (x : CLock) (w : World) (hx : Rds.sub B w x) : Calls Try.prog 142 #[x.val] w fun e w' => e = .returned (vb (lineOk x.abs)) ∧ Kp [] w w' := by
 have okx := Rds.okof hx
 have ncx := Sl.ok.nc okx.2
 have hnx : x.line.n = x.line.xs.length := rfl
 have hll : x.abs.line.length = x.line.n := rfl
 have hho : x.abs.holder = x.holder := rfl
 have hp : ∀ q, posOk x.abs q = (inB (x.line.at q) 1 9 && (!decide (x.line.at q = x.holder) && !((x.line.xs.take q).any fun z => decide (z = x.line.at q)))) := fun _ => rfl
 refine M0 ?_ Try.func142
 refine Ml (σ := Nat) (fun i => i ≤ x.line.n ∧ allTo (posOk x.abs) i = true) (fun i => x.line.n - i) (fun _ => []) [8, 7, 6, 1] (fun i => [(8, vI (i : Int))]) (fun _ => []) ?_ 0 ⟨Nat.zero_le _, rfl⟩
 rintro i ⟨hi, hI⟩ _ on1
 refine Md ((i : Int) < (x.line.n : Int)) (fun h1 => ?_) fun h1 => ?_
 rotate_left
 · refine Md ((x.line.n : Int) ≤ 3) (fun h5 => ?_) fun h5 => ?_
   rotate_left
   · have hall : allTo (posOk x.abs) x.line.n = true := by rw [show x.line.n = i by omega]; exact hI
     have hm : lineOk x.abs = (false) := by
       rw [Bool.eq_iff_iff]
       simp only [lineOk, hll, hho, hall, Bool.true_and, Bool.and_eq_true, Bool.or_eq_true, Bool.not_eq_true', decide_eq_true_eq, decide_eq_false_iff_not, Bool.false_eq_true, iff_true, iff_false]
       omega
     exact Meb false hm
   refine Mdn (x.holder = 0) (fun h6 => ?_) fun h6 => ?_
   rotate_left
   · have hall : allTo (posOk x.abs) x.line.n = true := by rw [show x.line.n = i by omega]; exact hI
     have hm : lineOk x.abs = (true) := by
       rw [Bool.eq_iff_iff]
       simp only [lineOk, hll, hho, hall, Bool.true_and, Bool.and_eq_true, Bool.or_eq_true, Bool.not_eq_true', decide_eq_true_eq, decide_eq_false_iff_not, Bool.false_eq_true, iff_true, iff_false]
       omega
     exact Meb true hm
   have hall : allTo (posOk x.abs) x.line.n = true := by rw [show x.line.n = i by omega]; exact hI
   have hm : lineOk x.abs = (decide ((x.line.n : Int) = 0)) := by
     rw [Bool.eq_iff_iff]
     simp only [lineOk, hll, hho, hall, Bool.true_and, Bool.and_eq_true, Bool.or_eq_true, Bool.not_eq_true', decide_eq_true_eq, decide_eq_false_iff_not, Bool.false_eq_true, iff_true, iff_false]
     omega
   exact Meb (decide ((x.line.n : Int) = 0)) hm
 refine Mi ?_ (pA 11 12 (i : Int) i (s := x.line) (fun w hk hr => (Rds.kp hx hk).2))
 refine Mp ?_ Try.call111 (fun bs w hS => lock_client (x.line.at i) w)
 refine Mbn (inB (x.line.at i) 1 9) (fun h2 => ?_) fun h2 => ?_
 rotate_left
 · have hb : posOk x.abs i = false := by rw [hp]; simp [h1, h2]
   have hm : lineOk x.abs = false := by unfold lineOk; rw [allTo_bad hb (show i < x.abs.line.length by rw [hll]; omega)]; rfl
   exact Meb false hm
 refine Md ((x.line.at i) = x.holder) (fun h3 => ?_) fun h3 => ?_
 · have hb : posOk x.abs i = false := by rw [hp]; simp [h1, h2, h3]
   have hm : lineOk x.abs = false := by unfold lineOk; rw [allTo_bad hb (show i < x.abs.line.length by rw [hll]; omega)]; rfl
   exact Meb false hm
 refine Mi ?_ (pG [(26, .sl 0 i)] (oc (rfl : 0 = 0) (oc (rfl : (i : Int) = (i : Int)) (oc ((by omega) : i ≤ x.line.c) on))))
 refine Mp ?_ Try.call65 (fun bs w hS => has_ints x.line i (x.line.at i) w (Rds.kp hx hS.kp).2 (by omega))
 refine Mb ((x.line.xs.take i).any fun z => decide (z = (x.line.at i))) (fun h4 => ?_) fun h4 => ?_
 rotate_left
 · refine Mi ?_ (pR ((i : Int) + 1))
   exact on1 (i + 1) ⟨by omega, by show (allTo _ i && posOk x.abs i) = true; rw [hI, hp]; simp [*]⟩ (by omega)
 have hb : posOk x.abs i = false := by rw [hp]; simp [h1, h2, h3, h4]
 have hm : lineOk x.abs = false := by unfold lineOk; rw [allTo_bad hb (show i < x.abs.line.length by rw [hll]; omega)]; rfl
 exact Meb false hm

theorem lock_Check {B : Nat → Prop} (s : Sl CLock) (w : World) (hs : s.rd B w) : Calls Try.prog 110 #[s.val] w fun e w' => e = .returned (vi (mLocks (s.xs.map CLock.abs))) ∧ Kp [] w w' := by
 have oks := Sl.rd.ok hs
 have ncs := Sl.ok.nc oks
 have hns : s.n = s.xs.length := rfl
 have hat : ∀ q, (s.xs.map CLock.abs).getD q default = (s.at q).abs := fun q => abs_at q
 have hq1 : ∀ q, (s.at q).abs.name = (s.at q).name := fun _ => rfl
 have hq2 : ∀ q, (s.at q).abs.holder = (s.at q).holder := fun _ => rfl
 have hq3 : ∀ q, (s.at q).abs.fence = (s.at q).fence := fun _ => rfl
 have hml : (s.xs.map CLock.abs).length = s.n := by simp
 refine M0 ?_ Try.func110
 refine Md ((5 : Int) < (s.n : Int)) (fun h1 => ?_) fun h1 => ?_
 · have hm : mLocks (s.xs.map CLock.abs) = 1 := by
     grind [mLocks]
   exact Me0 1 hm
 refine Ml (σ := Nat) (fun i => i ≤ s.n ∧ mLocks (s.xs.map CLock.abs) = firstF (lockF (s.xs.map CLock.abs)) (s.n - i) i) (fun i => s.n - i) (fun _ => []) [10, 9, 8, 0] (fun i => [(10, vI (i : Int))]) (fun _ => []) ?_ 0 ⟨Nat.zero_le _, by unfold mLocks; rw [hml, if_neg (by omega)]⟩
 rintro i ⟨hi, hI⟩ _ on1
 refine Md ((i : Int) < (s.n : Int)) (fun h2 => ?_) fun h2 => ?_
 rotate_left
 · exact Me0 0 (by rw [hI, firstF_end (by omega)])
 refine Mi ?_ (pA 13 14 (i : Int) i (rdk hs))
 refine Mp ?_ Try.call43 (fun bs w hS => lock_Name _ w (Sl.ok.at (s := s) (i := i) oks (by omega)).1)
 refine Mbn (mName (s.at i).name) (fun h3 => ?_) fun h3 => ?_
 rotate_left
 · refine Me0 4 ?_
   have hf : lockF (s.xs.map CLock.abs) i = 4 := by
     grind [lockF]
   rw [hI, firstF_here (by omega) hf (by omega)]
 refine Mdn ((s.at i).holder = 0) (fun h4 => ?_) fun h4 => ?_
 · refine Mp ?_ Try.call142 (fun bs w hS => lock_line (s.at i) w (Sl.rd.sub (s := s) (i := i) (Sl.rd.kp hs hS.kp) (by omega)))
   refine Mbn (lineOk (s.at i).abs) (fun h5 => ?_) fun h5 => ?_
   rotate_left
   · refine Me0 4 ?_
     have hf : lockF (s.xs.map CLock.abs) i = 4 := by
       grind [lockF]
     rw [hI, firstF_here (by omega) hf (by omega)]
   refine Md ((s.at i).fence < 1) (fun h6 => ?_) fun h6 => ?_
   · refine Me0 2 ?_
     have hf : lockF (s.xs.map CLock.abs) i = 2 := by
       grind [lockF]
     rw [hI, firstF_here (by omega) hf (by omega)]
   refine Md ((1073741824 : Int) < (s.at i).fence) (fun h7 => ?_) fun h7 => ?_
   · refine Me0 2 ?_
     have hf : lockF (s.xs.map CLock.abs) i = 2 := by
       grind [lockF]
     rw [hI, firstF_here (by omega) hf (by omega)]
   refine Mda 13 [] [] [] Try_mixed ?_
   refine Md ((0 : Int) < (i : Int)) (fun h8 => ?_) fun h8 => ?_
   rotate_left
   · refine Mi ?_ (pR ((i : Int) + 1))
     have hf0 : lockF (s.xs.map CLock.abs) i = 0 := by
       grind [lockF]
     exact on1 (i + 1) ⟨by omega, by rw [hI]; exact firstF_step (by omega) hf0⟩ (by omega)
   refine Mih ?_ (pc (pR ((i : Int) - 1)) (pc (pI 49 ((i : Int) - 1) (i - 1) (rdk hs)) (pF 51 (i - 1) 0 1 (rdk hs))))
   refine Mbn (Op.bytesLess ((s.at (i - 1)).name).toList ((s.at i).name).toList) (fun h9 => ?_) fun h9 => ?_
   · refine Mi ?_ (pR ((i : Int) + 1))
     have hf0 : lockF (s.xs.map CLock.abs) i = 0 := by
       grind [lockF]
     exact on1 (i + 1) ⟨by omega, by rw [hI]; exact firstF_step (by omega) hf0⟩ (by omega)
   refine Me0 14 ?_
   have hf : lockF (s.xs.map CLock.abs) i = 14 := by
     grind [lockF]
   rw [hI, firstF_here (by omega) hf (by omega)]
 refine Mp ?_ Try.call111 (fun bs w hS => lock_client (s.at i).holder w)
 refine Mbn (inB (s.at i).holder 1 9) (fun h10 => ?_) fun h10 => ?_
 rotate_left
 · simp only [iT, iF] at h10
   refine Me0 4 ?_
   have hf : lockF (s.xs.map CLock.abs) i = 4 := by
     grind [lockF]
   rw [hI, firstF_here (by omega) hf (by omega)]
 simp only [iT, iF] at h10
 refine Mp ?_ Try.call142 (fun bs w hS => lock_line (s.at i) w (Sl.rd.sub (s := s) (i := i) (Sl.rd.kp hs hS.kp) (by omega)))
 refine Mbn (lineOk (s.at i).abs) (fun h11 => ?_) fun h11 => ?_
 rotate_left
 · refine Me0 4 ?_
   have hf : lockF (s.xs.map CLock.abs) i = 4 := by
     grind [lockF]
   rw [hI, firstF_here (by omega) hf (by omega)]
 refine Md ((s.at i).fence < 1) (fun h12 => ?_) fun h12 => ?_
 · refine Me0 2 ?_
   have hf : lockF (s.xs.map CLock.abs) i = 2 := by
     grind [lockF]
   rw [hI, firstF_here (by omega) hf (by omega)]
 refine Md ((1073741824 : Int) < (s.at i).fence) (fun h13 => ?_) fun h13 => ?_
 · refine Me0 2 ?_
   have hf : lockF (s.xs.map CLock.abs) i = 2 := by
     grind [lockF]
   rw [hI, firstF_here (by omega) hf (by omega)]
 refine Mda 13 [] [] [] Try_mixed ?_
 refine Md ((0 : Int) < (i : Int)) (fun h14 => ?_) fun h14 => ?_
 rotate_left
 · refine Mi ?_ (pR ((i : Int) + 1))
   have hf0 : lockF (s.xs.map CLock.abs) i = 0 := by
     grind [lockF]
   exact on1 (i + 1) ⟨by omega, by rw [hI]; exact firstF_step (by omega) hf0⟩ (by omega)
 refine Mih ?_ (pc (pR ((i : Int) - 1)) (pc (pI 49 ((i : Int) - 1) (i - 1) (rdk hs)) (pF 51 (i - 1) 0 1 (rdk hs))))
 refine Mbn (Op.bytesLess ((s.at (i - 1)).name).toList ((s.at i).name).toList) (fun h15 => ?_) fun h15 => ?_
 · refine Mi ?_ (pR ((i : Int) + 1))
   have hf0 : lockF (s.xs.map CLock.abs) i = 0 := by
     grind [lockF]
   exact on1 (i + 1) ⟨by omega, by rw [hI]; exact firstF_step (by omega) hf0⟩ (by omega)
 refine Me0 14 ?_
 have hf : lockF (s.xs.map CLock.abs) i = 14 := by
   grind [lockF]
 rw [hI, firstF_here (by omega) hf (by omega)]

theorem ref_LocksFault {B : Nat → Prop} (s : Sl CLock) (w : World) (hs : s.rd B w) : Calls Try.prog 117 #[s.val] w fun e w' => e = .returned (vi (mLocks (s.xs.map CLock.abs))) ∧ Kp [] w w' := by
 have oks := Sl.rd.ok hs
 have ncs := Sl.ok.nc oks
 have hns : s.n = s.xs.length := rfl
 have hat : ∀ q, (s.xs.map CLock.abs).getD q default = (s.at q).abs := fun q => abs_at q
 have hq1 : ∀ q, (s.at q).abs.name = (s.at q).name := fun _ => rfl
 have hq2 : ∀ q, (s.at q).abs.holder = (s.at q).holder := fun _ => rfl
 have hq3 : ∀ q, (s.at q).abs.fence = (s.at q).fence := fun _ => rfl
 have hml : (s.xs.map CLock.abs).length = s.n := by simp
 refine M0 ?_ Try.func117
 refine Md ((5 : Int) < (s.n : Int)) (fun h1 => ?_) (fun h1 => ?_)
 · refine Mt [.int .i64 1] fun bs w hS => ?_
   refine ⟨?_, hS.kp⟩
   simp only [retOf, den, List.map_cons, List.map_nil]
   have hm : mLocks (s.xs.map CLock.abs) = 1 := by
     grind [mLocks]
   rw [hm]
 refine Ml (σ := Nat) (fun i => i ≤ s.n ∧ mLocks (s.xs.map CLock.abs) = firstF (lockF (s.xs.map CLock.abs)) (s.n - i) i) (fun i => s.n - i) (fun _ => []) [3, 0] (fun i => [(3, vI (i : Int))]) (fun _ => []) ?_ 0 ⟨Nat.zero_le _, by unfold mLocks; rw [hml, if_neg (by omega)]⟩
 rintro i ⟨hi, hI⟩ _ on1
 have hp : ∀ q, posOk (s.at i).abs q = (inB ((s.at i).line.at q) 1 9 && (!decide ((s.at i).line.at q = (s.at i).holder) && !(((s.at i).line.xs.take q).any fun z => decide (z = (s.at i).line.at q)))) := fun _ => rfl
 refine Md ((i : Int) < (s.n : Int)) (fun h2 => ?_) (fun h2 => ?_)
 rotate_left
 · refine Mt [.int .i64 0] fun bs w hS => ?_
   refine ⟨?_, hS.kp⟩
   simp only [retOf, den, List.map_cons, List.map_nil]
   rw [hI, firstF_end (by omega)]
 refine Mi ?_ (pA 18 19 (i : Int) i (rdk hs))
 refine Mp ?_ Try.call48 (fun bs w hS => ref_NameMay _ w (Sl.ok.at (s := s) (i := i) oks (by omega)).1)
 refine Mbn (mName (s.at i).name) (fun h3 => ?_) (fun h3 => ?_)
 rotate_left
 · refine Ml (σ := Nat × Bool) (fun ⟨j, b⟩ => j ≤ (s.at i).line.n ∧ b = (true || !(allTo (posOk (s.at i).abs) j))) (fun ⟨j, b⟩ => (s.at i).line.n - j) (fun _ => []) [6, 5, 4, 3, 0] (fun ⟨j, b⟩ => [(6, vI (j : Int)), (5, vB b)]) (fun _ => []) ?_ (⟨0, true⟩) ⟨Nat.zero_le _, by simp [allTo]⟩
   rintro ⟨j, b⟩ ⟨hj, hJ⟩ _ on7
   have ncl := Sl.ok.nc (Sl.ok.at oks (show i < s.n by omega)).2
   refine Md ((j : Int) < (((s.at i).line.n : Nat) : Int)) (fun h33 => ?_) fun h33 => ?_
   · refine Mda 33 [] [] [] Try_mixed ?_
     refine Mb b (fun h34 => ?_) fun h34 => ?_
     rotate_left
     · exfalso; rw [h34] at hJ; simp at hJ
     refine Mi ?_ (pR ((j : Int) + 1))
     exact on7 ⟨j + 1, true⟩ ⟨by omega, by simp only [allTo, hp]; simp_all⟩ (by show (s.at i).line.n - (j + 1) < (s.at i).line.n - j; omega)
   refine Mb b (fun h35 => ?_) fun h35 => ?_
   rotate_left
   · exfalso; rw [h35] at hJ; simp at hJ
   refine Mt [vi 4] fun bs w hS => ?_
   clear on1 on7
   refine ⟨?_, hS.kp⟩
   simp only [retOf, den, List.map_cons, List.map_nil]
   have hf : lockF (s.xs.map CLock.abs) i = 4 := by
     have hor : mName (s.at i).name = false ∨ (s.at i).holder < 0 ∨ 9 < (s.at i).holder ∨ lineOk (s.at i).abs = false := by
       first | exact .inl (by assumption) | exact .inr ((show (s.at i).holder < 0 ∨ 9 < (s.at i).holder by omega).elim .inl (fun h => .inr (.inl h))) | exact .inr (.inr (.inr (lineOk_false (.inr (.inl (by show 3 < (s.at i).line.n; omega)))))) | exact .inr (.inr (.inr (lineOk_false (.inr (.inr ⟨by show (s.at i).holder = 0; omega, by show 0 < (s.at i).line.n; omega⟩))))) | exact .inr (.inr (.inr (lineOk_false (.inl (by show allTo _ (s.at i).line.n = false; rw [show (s.at i).line.n = j by omega]; cases hq : allTo (posOk (s.at i).abs) j <;> simp_all)))))
     grind [lockF]
   rw [hI, firstF_here (by omega) hf (by omega)]
 refine Mp ?_ Try.call56 (fun bs w hS => ref_In (s.at i).holder 0 9 w)
 refine Mbn (inB (s.at i).holder 0 9) (fun h4 => ?_) fun h4 => ?_
 rotate_left
 · simp only [iT, iF] at h4
   refine Ml (σ := Nat × Bool) (fun ⟨j, b⟩ => j ≤ (s.at i).line.n ∧ b = (true || !(allTo (posOk (s.at i).abs) j))) (fun ⟨j, b⟩ => (s.at i).line.n - j) (fun _ => []) [6, 5, 4, 3, 0] (fun ⟨j, b⟩ => [(6, vI (j : Int)), (5, vB b)]) (fun _ => []) ?_ (⟨0, true⟩) ⟨Nat.zero_le _, by simp [allTo]⟩
   rintro ⟨j, b⟩ ⟨hj, hJ⟩ _ on6
   have ncl := Sl.ok.nc (Sl.ok.at oks (show i < s.n by omega)).2
   refine Md ((j : Int) < (((s.at i).line.n : Nat) : Int)) (fun h30 => ?_) fun h30 => ?_
   · refine Mda 33 [] [] [] Try_mixed ?_
     refine Mb b (fun h31 => ?_) fun h31 => ?_
     rotate_left
     · exfalso; rw [h31] at hJ; simp at hJ
     refine Mi ?_ (pR ((j : Int) + 1))
     exact on6 ⟨j + 1, true⟩ ⟨by omega, by simp only [allTo, hp]; simp_all⟩ (by show (s.at i).line.n - (j + 1) < (s.at i).line.n - j; omega)
   refine Mb b (fun h32 => ?_) fun h32 => ?_
   rotate_left
   · exfalso; rw [h32] at hJ; simp at hJ
   refine Mt [vi 4] fun bs w hS => ?_
   clear on1 on6
   refine ⟨?_, hS.kp⟩
   simp only [retOf, den, List.map_cons, List.map_nil]
   have hf : lockF (s.xs.map CLock.abs) i = 4 := by
     have hor : mName (s.at i).name = false ∨ (s.at i).holder < 0 ∨ 9 < (s.at i).holder ∨ lineOk (s.at i).abs = false := by
       first | exact .inl (by assumption) | exact .inr ((show (s.at i).holder < 0 ∨ 9 < (s.at i).holder by omega).elim .inl (fun h => .inr (.inl h))) | exact .inr (.inr (.inr (lineOk_false (.inr (.inl (by show 3 < (s.at i).line.n; omega)))))) | exact .inr (.inr (.inr (lineOk_false (.inr (.inr ⟨by show (s.at i).holder = 0; omega, by show 0 < (s.at i).line.n; omega⟩))))) | exact .inr (.inr (.inr (lineOk_false (.inl (by show allTo _ (s.at i).line.n = false; rw [show (s.at i).line.n = j by omega]; cases hq : allTo (posOk (s.at i).abs) j <;> simp_all)))))
     grind [lockF]
   rw [hI, firstF_here (by omega) hf (by omega)]
 simp only [iT, iF] at h4
 refine Md ((3 : Int) < (((s.at i).line.n : Nat) : Int)) (fun h5 => ?_) fun h5 => ?_
 · refine Ml (σ := Nat × Bool) (fun ⟨j, b⟩ => j ≤ (s.at i).line.n ∧ b = (true || !(allTo (posOk (s.at i).abs) j))) (fun ⟨j, b⟩ => (s.at i).line.n - j) (fun _ => []) [6, 5, 4, 3, 0] (fun ⟨j, b⟩ => [(6, vI (j : Int)), (5, vB b)]) (fun _ => []) ?_ (⟨0, true⟩) ⟨Nat.zero_le _, by simp [allTo]⟩
   rintro ⟨j, b⟩ ⟨hj, hJ⟩ _ on2
   have ncl := Sl.ok.nc (Sl.ok.at oks (show i < s.n by omega)).2
   refine Md ((j : Int) < (((s.at i).line.n : Nat) : Int)) (fun h6 => ?_) fun h6 => ?_
   · refine Mda 33 [] [] [] Try_mixed ?_
     refine Mb b (fun h7 => ?_) fun h7 => ?_
     rotate_left
     · exfalso; rw [h7] at hJ; simp at hJ
     refine Mi ?_ (pR ((j : Int) + 1))
     exact on2 ⟨j + 1, true⟩ ⟨by omega, by simp only [allTo, hp]; simp_all⟩ (by show (s.at i).line.n - (j + 1) < (s.at i).line.n - j; omega)
   refine Mb b (fun h8 => ?_) fun h8 => ?_
   rotate_left
   · exfalso; rw [h8] at hJ; simp at hJ
   refine Mt [vi 4] fun bs w hS => ?_
   clear on1 on2
   refine ⟨?_, hS.kp⟩
   simp only [retOf, den, List.map_cons, List.map_nil]
   have hf : lockF (s.xs.map CLock.abs) i = 4 := by
     have hor : mName (s.at i).name = false ∨ (s.at i).holder < 0 ∨ 9 < (s.at i).holder ∨ lineOk (s.at i).abs = false := by
       first | exact .inl (by assumption) | exact .inr ((show (s.at i).holder < 0 ∨ 9 < (s.at i).holder by omega).elim .inl (fun h => .inr (.inl h))) | exact .inr (.inr (.inr (lineOk_false (.inr (.inl (by show 3 < (s.at i).line.n; omega)))))) | exact .inr (.inr (.inr (lineOk_false (.inr (.inr ⟨by show (s.at i).holder = 0; omega, by show 0 < (s.at i).line.n; omega⟩))))) | exact .inr (.inr (.inr (lineOk_false (.inl (by show allTo _ (s.at i).line.n = false; rw [show (s.at i).line.n = j by omega]; cases hq : allTo (posOk (s.at i).abs) j <;> simp_all)))))
     grind [lockF]
   rw [hI, firstF_here (by omega) hf (by omega)]
 refine Md ((s.at i).holder = 0) (fun h9 => ?_) fun h9 => ?_
 rotate_left
 · refine Ml (σ := Nat × Bool) (fun ⟨j, b⟩ => j ≤ (s.at i).line.n ∧ b = (false || !(allTo (posOk (s.at i).abs) j))) (fun ⟨j, b⟩ => (s.at i).line.n - j) (fun _ => []) [6, 5, 4, 3, 0] (fun ⟨j, b⟩ => [(6, vI (j : Int)), (5, vB b)]) (fun _ => []) ?_ (⟨0, false⟩) ⟨Nat.zero_le _, by simp [allTo]⟩
   rintro ⟨j, b⟩ ⟨hj, hJ⟩ _ on5
   have ncl := Sl.ok.nc (Sl.ok.at oks (show i < s.n by omega)).2
   refine Md ((j : Int) < (((s.at i).line.n : Nat) : Int)) (fun h22 => ?_) fun h22 => ?_
   · refine Mda 33 [] [] [] Try_mixed ?_
     refine Mb b (fun h23 => ?_) fun h23 => ?_
     · refine Mi ?_ (pR ((j : Int) + 1))
       exact on5 ⟨j + 1, true⟩ ⟨by omega, by simp only [allTo, hp]; simp_all⟩ (by show (s.at i).line.n - (j + 1) < (s.at i).line.n - j; omega)
     refine Mih ?_ (pA 59 60 (j : Int) j (s := (s.at i).line) (fun w hk hr => (Sl.rd.sub (s := s) (i := i) (Sl.rd.kp hs hk) (by omega)).2))
     refine Mp ?_ Try.call56 (fun bs w hS => ref_In ((s.at i).line.at j) 1 9 w)
     refine Mbn (inB ((s.at i).line.at j) 1 9) (fun h24 => ?_) fun h24 => ?_
     rotate_left
     · refine Mi ?_ (pR ((j : Int) + 1))
       exact on5 ⟨j + 1, true⟩ ⟨by omega, by simp only [allTo, hp]; simp_all⟩ (by show (s.at i).line.n - (j + 1) < (s.at i).line.n - j; omega)
     refine Mih ?_ (pA 68 69 (j : Int) j (s := (s.at i).line) (fun w hk hr => (Sl.rd.sub (s := s) (i := i) (Sl.rd.kp hs hk) (by omega)).2))
     refine Md (((s.at i).line.at j) = (s.at i).holder) (fun h25 => ?_) fun h25 => ?_
     · refine Mi ?_ (pR ((j : Int) + 1))
       exact on5 ⟨j + 1, true⟩ ⟨by omega, by simp only [allTo, hp]; simp_all⟩ (by show (s.at i).line.n - (j + 1) < (s.at i).line.n - j; omega)
     refine Mih ?_ (pc (pG [(78, .sl 0 j)] (oc (rfl : 0 = 0) (oc (rfl : (j : Int) = (j : Int)) (oc ((by omega) : j ≤ (s.at i).line.c) on)))) (pA 82 83 (j : Int) j (s := (s.at i).line) (fun w hk hr => (Sl.rd.sub (s := s) (i := i) (Sl.rd.kp hs hk) (by omega)).2)))
     refine Mp ?_ Try.call69 (fun bs w hS => ref_has (s.at i).line j ((s.at i).line.at j) w (Sl.rd.sub (s := s) (i := i) (Sl.rd.kp hs hS.kp) (by omega)).2 (by omega))
     refine Mi ?_ (pR ((j : Int) + 1))
     exact on5 ⟨j + 1, ((s.at i).line.xs.take j).any fun z => decide (z = ((s.at i).line.at j))⟩ ⟨by omega, by simp only [allTo, hp]; simp_all⟩ (by show (s.at i).line.n - (j + 1) < (s.at i).line.n - j; omega)
   refine Mb b (fun h26 => ?_) fun h26 => ?_
   · refine Mt [vi 4] fun bs w hS => ?_
     clear on1 on5
     refine ⟨?_, hS.kp⟩
     simp only [retOf, den, List.map_cons, List.map_nil]
     have hf : lockF (s.xs.map CLock.abs) i = 4 := by
       have hor : mName (s.at i).name = false ∨ (s.at i).holder < 0 ∨ 9 < (s.at i).holder ∨ lineOk (s.at i).abs = false := by
         first | exact .inl (by assumption) | exact .inr ((show (s.at i).holder < 0 ∨ 9 < (s.at i).holder by omega).elim .inl (fun h => .inr (.inl h))) | exact .inr (.inr (.inr (lineOk_false (.inr (.inl (by show 3 < (s.at i).line.n; omega)))))) | exact .inr (.inr (.inr (lineOk_false (.inr (.inr ⟨by show (s.at i).holder = 0; omega, by show 0 < (s.at i).line.n; omega⟩))))) | exact .inr (.inr (.inr (lineOk_false (.inl (by show allTo _ (s.at i).line.n = false; rw [show (s.at i).line.n = j by omega]; cases hq : allTo (posOk (s.at i).abs) j <;> simp_all)))))
       grind [lockF]
     rw [hI, firstF_here (by omega) hf (by omega)]
   refine Mp ?_ Try.call56 (fun bs w hS => ref_In (s.at i).fence 1 1073741824 w)
   refine Mbn (inB (s.at i).fence 1 1073741824) (fun h27 => ?_) fun h27 => ?_
   rotate_left
   · simp only [iT, iF] at h27
     refine Mt [vi 2] fun bs w hS => ?_
     clear on1 on5
     refine ⟨?_, hS.kp⟩
     simp only [retOf, den, List.map_cons, List.map_nil]
     have hf : lockF (s.xs.map CLock.abs) i = 2 := by
       have hjn : (s.at i).line.n = j := by omega
       have hall : allTo (posOk (s.at i).abs) (s.at i).line.n = true := by rw [hjn]; cases hq : allTo (posOk (s.at i).abs) j <;> simp_all
       have hlo : lineOk (s.at i).abs = true := lineOk_true hall (by show (s.at i).line.n ≤ 3; omega) (by show ¬ (s.at i).holder = 0 ∨ (s.at i).line.n = 0; omega)
       grind [lockF]
     rw [hI, firstF_here (by omega) hf (by omega)]
   simp only [iT, iF] at h27
   refine Mda 13 [] [] [] Try_mixed ?_
   refine Md ((0 : Int) < (i : Int)) (fun h28 => ?_) fun h28 => ?_
   rotate_left
   · refine Mi ?_ (pR ((i : Int) + 1))
     have hf0 : lockF (s.xs.map CLock.abs) i = 0 := by
       have hjn : (s.at i).line.n = j := by omega
       have hall : allTo (posOk (s.at i).abs) (s.at i).line.n = true := by rw [hjn]; cases hq : allTo (posOk (s.at i).abs) j <;> simp_all
       have hlo : lineOk (s.at i).abs = true := lineOk_true hall (by show (s.at i).line.n ≤ 3; omega) (by show ¬ (s.at i).holder = 0 ∨ (s.at i).line.n = 0; omega)
       grind [lockF]
     exact on1 (i + 1) ⟨by omega, by rw [hI]; exact firstF_step (by omega) hf0⟩ (by omega)
   refine Mih ?_ (pc (pR ((i : Int) - 1)) (pc (pI 99 ((i : Int) - 1) (i - 1) (rdk hs)) (pF 101 (i - 1) 0 1 (rdk hs))))
   refine Mb (Op.bytesLess ((s.at i).name).toList ((s.at (i - 1)).name).toList || decide ((s.at i).name = (s.at (i - 1)).name)) (fun h29 => ?_) fun h29 => ?_
   rotate_left
   · rw [bytes_total] at h29
     simp only [Bool.not_eq_true', Bool.not_eq_false', Bool.not_eq_true, Bool.not_eq_false] at h29
     refine Mi ?_ (pR ((i : Int) + 1))
     have hf0 : lockF (s.xs.map CLock.abs) i = 0 := by
       have hjn : (s.at i).line.n = j := by omega
       have hall : allTo (posOk (s.at i).abs) (s.at i).line.n = true := by rw [hjn]; cases hq : allTo (posOk (s.at i).abs) j <;> simp_all
       have hlo : lineOk (s.at i).abs = true := lineOk_true hall (by show (s.at i).line.n ≤ 3; omega) (by show ¬ (s.at i).holder = 0 ∨ (s.at i).line.n = 0; omega)
       grind [lockF]
     exact on1 (i + 1) ⟨by omega, by rw [hI]; exact firstF_step (by omega) hf0⟩ (by omega)
   rw [bytes_total] at h29
   simp only [Bool.not_eq_true', Bool.not_eq_false', Bool.not_eq_true, Bool.not_eq_false] at h29
   refine Mt [vi 14] fun bs w hS => ?_
   clear on1 on5
   refine ⟨?_, hS.kp⟩
   simp only [retOf, den, List.map_cons, List.map_nil]
   have hf : lockF (s.xs.map CLock.abs) i = 14 := by
     have hjn : (s.at i).line.n = j := by omega
     have hall : allTo (posOk (s.at i).abs) (s.at i).line.n = true := by rw [hjn]; cases hq : allTo (posOk (s.at i).abs) j <;> simp_all
     have hlo : lineOk (s.at i).abs = true := lineOk_true hall (by show (s.at i).line.n ≤ 3; omega) (by show ¬ (s.at i).holder = 0 ∨ (s.at i).line.n = 0; omega)
     grind [lockF]
   rw [hI, firstF_here (by omega) hf (by omega)]
 by_cases h10 : (0 : Int) < (((s.at i).line.n : Nat) : Int)
 · refine Mq 5 true ?_ (dT h10)
   refine Ml (σ := Nat × Bool) (fun ⟨j, b⟩ => j ≤ (s.at i).line.n ∧ b = (true || !(allTo (posOk (s.at i).abs) j))) (fun ⟨j, b⟩ => (s.at i).line.n - j) (fun _ => []) [6, 5, 4, 3, 0] (fun ⟨j, b⟩ => [(6, vI (j : Int)), (5, vB b)]) (fun _ => []) ?_ (⟨0, true⟩) ⟨Nat.zero_le _, by simp [allTo]⟩
   rintro ⟨j, b⟩ ⟨hj, hJ⟩ _ on3
   have ncl := Sl.ok.nc (Sl.ok.at oks (show i < s.n by omega)).2
   refine Md ((j : Int) < (((s.at i).line.n : Nat) : Int)) (fun h11 => ?_) fun h11 => ?_
   · refine Mda 33 [] [] [] Try_mixed ?_
     refine Mb b (fun h12 => ?_) fun h12 => ?_
     rotate_left
     · exfalso; rw [h12] at hJ; simp at hJ
     refine Mi ?_ (pR ((j : Int) + 1))
     exact on3 ⟨j + 1, true⟩ ⟨by omega, by simp only [allTo, hp]; simp_all⟩ (by show (s.at i).line.n - (j + 1) < (s.at i).line.n - j; omega)
   refine Mb b (fun h13 => ?_) fun h13 => ?_
   rotate_left
   · exfalso; rw [h13] at hJ; simp at hJ
   refine Mt [vi 4] fun bs w hS => ?_
   clear on1 on3
   refine ⟨?_, hS.kp⟩
   simp only [retOf, den, List.map_cons, List.map_nil]
   have hf : lockF (s.xs.map CLock.abs) i = 4 := by
     have hor : mName (s.at i).name = false ∨ (s.at i).holder < 0 ∨ 9 < (s.at i).holder ∨ lineOk (s.at i).abs = false := by
       first | exact .inl (by assumption) | exact .inr ((show (s.at i).holder < 0 ∨ 9 < (s.at i).holder by omega).elim .inl (fun h => .inr (.inl h))) | exact .inr (.inr (.inr (lineOk_false (.inr (.inl (by show 3 < (s.at i).line.n; omega)))))) | exact .inr (.inr (.inr (lineOk_false (.inr (.inr ⟨by show (s.at i).holder = 0; omega, by show 0 < (s.at i).line.n; omega⟩))))) | exact .inr (.inr (.inr (lineOk_false (.inl (by show allTo _ (s.at i).line.n = false; rw [show (s.at i).line.n = j by omega]; cases hq : allTo (posOk (s.at i).abs) j <;> simp_all)))))
     grind [lockF]
   rw [hI, firstF_here (by omega) hf (by omega)]
 refine Mq 5 false ?_ (dF h10)
 refine Ml (σ := Nat × Bool) (fun ⟨j, b⟩ => j ≤ (s.at i).line.n ∧ b = (false || !(allTo (posOk (s.at i).abs) j))) (fun ⟨j, b⟩ => (s.at i).line.n - j) (fun _ => []) [6, 5, 4, 3, 0] (fun ⟨j, b⟩ => [(6, vI (j : Int)), (5, vB b)]) (fun _ => []) ?_ (⟨0, false⟩) ⟨Nat.zero_le _, by simp [allTo]⟩
 rintro ⟨j, b⟩ ⟨hj, hJ⟩ _ on4
 have ncl := Sl.ok.nc (Sl.ok.at oks (show i < s.n by omega)).2
 refine Md ((j : Int) < (((s.at i).line.n : Nat) : Int)) (fun h14 => ?_) fun h14 => ?_
 · refine Mda 33 [] [] [] Try_mixed ?_
   refine Mb b (fun h15 => ?_) fun h15 => ?_
   · refine Mi ?_ (pR ((j : Int) + 1))
     exact on4 ⟨j + 1, true⟩ ⟨by omega, by simp only [allTo, hp]; simp_all⟩ (by show (s.at i).line.n - (j + 1) < (s.at i).line.n - j; omega)
   refine Mih ?_ (pA 59 60 (j : Int) j (s := (s.at i).line) (fun w hk hr => (Sl.rd.sub (s := s) (i := i) (Sl.rd.kp hs hk) (by omega)).2))
   refine Mp ?_ Try.call56 (fun bs w hS => ref_In ((s.at i).line.at j) 1 9 w)
   refine Mbn (inB ((s.at i).line.at j) 1 9) (fun h16 => ?_) fun h16 => ?_
   rotate_left
   · refine Mi ?_ (pR ((j : Int) + 1))
     exact on4 ⟨j + 1, true⟩ ⟨by omega, by simp only [allTo, hp]; simp_all⟩ (by show (s.at i).line.n - (j + 1) < (s.at i).line.n - j; omega)
   refine Mih ?_ (pA 68 69 (j : Int) j (s := (s.at i).line) (fun w hk hr => (Sl.rd.sub (s := s) (i := i) (Sl.rd.kp hs hk) (by omega)).2))
   refine Md (((s.at i).line.at j) = (s.at i).holder) (fun h17 => ?_) fun h17 => ?_
   · refine Mi ?_ (pR ((j : Int) + 1))
     exact on4 ⟨j + 1, true⟩ ⟨by omega, by simp only [allTo, hp]; simp_all⟩ (by show (s.at i).line.n - (j + 1) < (s.at i).line.n - j; omega)
   refine Mih ?_ (pc (pG [(78, .sl 0 j)] (oc (rfl : 0 = 0) (oc (rfl : (j : Int) = (j : Int)) (oc ((by omega) : j ≤ (s.at i).line.c) on)))) (pA 82 83 (j : Int) j (s := (s.at i).line) (fun w hk hr => (Sl.rd.sub (s := s) (i := i) (Sl.rd.kp hs hk) (by omega)).2)))
   refine Mp ?_ Try.call69 (fun bs w hS => ref_has (s.at i).line j ((s.at i).line.at j) w (Sl.rd.sub (s := s) (i := i) (Sl.rd.kp hs hS.kp) (by omega)).2 (by omega))
   refine Mi ?_ (pR ((j : Int) + 1))
   exact on4 ⟨j + 1, ((s.at i).line.xs.take j).any fun z => decide (z = ((s.at i).line.at j))⟩ ⟨by omega, by simp only [allTo, hp]; simp_all⟩ (by show (s.at i).line.n - (j + 1) < (s.at i).line.n - j; omega)
 refine Mb b (fun h18 => ?_) fun h18 => ?_
 · refine Mt [vi 4] fun bs w hS => ?_
   clear on1 on4
   refine ⟨?_, hS.kp⟩
   simp only [retOf, den, List.map_cons, List.map_nil]
   have hf : lockF (s.xs.map CLock.abs) i = 4 := by
     have hor : mName (s.at i).name = false ∨ (s.at i).holder < 0 ∨ 9 < (s.at i).holder ∨ lineOk (s.at i).abs = false := by
       first | exact .inl (by assumption) | exact .inr ((show (s.at i).holder < 0 ∨ 9 < (s.at i).holder by omega).elim .inl (fun h => .inr (.inl h))) | exact .inr (.inr (.inr (lineOk_false (.inr (.inl (by show 3 < (s.at i).line.n; omega)))))) | exact .inr (.inr (.inr (lineOk_false (.inr (.inr ⟨by show (s.at i).holder = 0; omega, by show 0 < (s.at i).line.n; omega⟩))))) | exact .inr (.inr (.inr (lineOk_false (.inl (by show allTo _ (s.at i).line.n = false; rw [show (s.at i).line.n = j by omega]; cases hq : allTo (posOk (s.at i).abs) j <;> simp_all)))))
     grind [lockF]
   rw [hI, firstF_here (by omega) hf (by omega)]
 refine Mp ?_ Try.call56 (fun bs w hS => ref_In (s.at i).fence 1 1073741824 w)
 refine Mbn (inB (s.at i).fence 1 1073741824) (fun h19 => ?_) fun h19 => ?_
 rotate_left
 · simp only [iT, iF] at h19
   refine Mt [vi 2] fun bs w hS => ?_
   clear on1 on4
   refine ⟨?_, hS.kp⟩
   simp only [retOf, den, List.map_cons, List.map_nil]
   have hf : lockF (s.xs.map CLock.abs) i = 2 := by
     have hjn : (s.at i).line.n = j := by omega
     have hall : allTo (posOk (s.at i).abs) (s.at i).line.n = true := by rw [hjn]; cases hq : allTo (posOk (s.at i).abs) j <;> simp_all
     have hlo : lineOk (s.at i).abs = true := lineOk_true hall (by show (s.at i).line.n ≤ 3; omega) (by show ¬ (s.at i).holder = 0 ∨ (s.at i).line.n = 0; omega)
     grind [lockF]
   rw [hI, firstF_here (by omega) hf (by omega)]
 simp only [iT, iF] at h19
 refine Mda 13 [] [] [] Try_mixed ?_
 refine Md ((0 : Int) < (i : Int)) (fun h20 => ?_) fun h20 => ?_
 rotate_left
 · refine Mi ?_ (pR ((i : Int) + 1))
   have hf0 : lockF (s.xs.map CLock.abs) i = 0 := by
     have hjn : (s.at i).line.n = j := by omega
     have hall : allTo (posOk (s.at i).abs) (s.at i).line.n = true := by rw [hjn]; cases hq : allTo (posOk (s.at i).abs) j <;> simp_all
     have hlo : lineOk (s.at i).abs = true := lineOk_true hall (by show (s.at i).line.n ≤ 3; omega) (by show ¬ (s.at i).holder = 0 ∨ (s.at i).line.n = 0; omega)
     grind [lockF]
   exact on1 (i + 1) ⟨by omega, by rw [hI]; exact firstF_step (by omega) hf0⟩ (by omega)
 refine Mih ?_ (pc (pR ((i : Int) - 1)) (pc (pI 99 ((i : Int) - 1) (i - 1) (rdk hs)) (pF 101 (i - 1) 0 1 (rdk hs))))
 refine Mb (Op.bytesLess ((s.at i).name).toList ((s.at (i - 1)).name).toList || decide ((s.at i).name = (s.at (i - 1)).name)) (fun h21 => ?_) fun h21 => ?_
 rotate_left
 · rw [bytes_total] at h21
   simp only [Bool.not_eq_true', Bool.not_eq_false', Bool.not_eq_true, Bool.not_eq_false] at h21
   refine Mi ?_ (pR ((i : Int) + 1))
   have hf0 : lockF (s.xs.map CLock.abs) i = 0 := by
     have hjn : (s.at i).line.n = j := by omega
     have hall : allTo (posOk (s.at i).abs) (s.at i).line.n = true := by rw [hjn]; cases hq : allTo (posOk (s.at i).abs) j <;> simp_all
     have hlo : lineOk (s.at i).abs = true := lineOk_true hall (by show (s.at i).line.n ≤ 3; omega) (by show ¬ (s.at i).holder = 0 ∨ (s.at i).line.n = 0; omega)
     grind [lockF]
   exact on1 (i + 1) ⟨by omega, by rw [hI]; exact firstF_step (by omega) hf0⟩ (by omega)
 rw [bytes_total] at h21
 simp only [Bool.not_eq_true', Bool.not_eq_false', Bool.not_eq_true, Bool.not_eq_false] at h21
 refine Mt [vi 14] fun bs w hS => ?_
 clear on1 on4
 refine ⟨?_, hS.kp⟩
 simp only [retOf, den, List.map_cons, List.map_nil]
 have hf : lockF (s.xs.map CLock.abs) i = 14 := by
   have hjn : (s.at i).line.n = j := by omega
   have hall : allTo (posOk (s.at i).abs) (s.at i).line.n = true := by rw [hjn]; cases hq : allTo (posOk (s.at i).abs) j <;> simp_all
   have hlo : lineOk (s.at i).abs = true := lineOk_true hall (by show (s.at i).line.n ≤ 3; omega) (by show ¬ (s.at i).holder = 0 ∨ (s.at i).line.n = 0; omega)
   grind [lockF]
 rw [hI, firstF_here (by omega) hf (by omega)]

theorem bytealg_CompareString (a b : ByteArray) (w : World) : Calls Try.prog 138 #[vs a, vs b] w fun e w' => e = .returned (vi (cmpS a b)) ∧ Kp [] w w' := by
 refine M0 ?_ Try.func138
 refine Mx ?_ (vs := fun bs => [vs a, vs b]) (v := vi (cmpS a b)) (fun bs w hS => by rw [run_callFunc_extern Try.func158 (by kernel_rfl) (by kernel_rfl) (by kernel_rfl) (e := Extern.BytealgCompare.compare) (by kernel_rfl)]; show ((Extern.BytealgCompare.compare #[vs a, vs b]).run _ w).andThen _ = _; rw [Lib.run_compareString]; rfl)
 exact Mt [vi (cmpS a b)] fun bs w hS => ⟨rfl, hS.kp⟩

theorem strings_Compare (a b : ByteArray) (w : World) : Calls Try.prog 100 #[vs a, vs b] w fun e w' => e = .returned (vi (cmpS a b)) ∧ Kp [] w w' := by
 refine M0 ?_ Try.func100
 refine Mp ?_ Try.call138 (fun bs w hS => bytealg_CompareString a b w)
 exact Mt [vi (cmpS a b)] fun bs w hS => ⟨rfl, hS.kp⟩

theorem clone_Int {B : Nat → Prop} (s : Sl Int) (w : World) (hs : s.rd B w) (hb : s.n * 8 ≤ 140737488355328) : Calls Try.prog 143 #[s.val] w fun e w' => ∃ y : Sl Int, e = .returned y.val ∧ y.xs = s.xs ∧ Kp [] w w' ∧ Fresh w w' (rowA 3 y.A y.c y.xs) := by
 have oks := Sl.rd.ok hs
 have ncs := Sl.ok.nc oks
 have hns : s.n = s.xs.length := rfl
 refine M0 ?_ Try.func143
 refine Mi ?_ (pG [(4, .val (.bool s.A.isNone))] (oc ((eq_nil Try.underlying92) : ∀ w, (do eqGuard .eql 92 (.tmp 3) (.const vn) s.val vn; binOp .eql 92 s.val vn : Sem Value).run Try.prog w = .ok (.bool s.A.isNone) w) on))
 refine Mb s.A.isNone (fun h1 => ?_) fun h1 => ?_
 · refine Mt [vn] fun bs w hS => ?_
   have hnil : s.xs = [] := Sl.ok.empty oks (by cases h : s.A <;> simp_all)
   exact ⟨Sl.nil, rfl, hnil.symm, hS.kp, rowA_nil 3 w⟩
 refine Mlz ?_ (α := Int) (e := 3)
 intro A1
 refine Ma ?_ (α := Int) (L2 := s.xs) 8 (fun bs w hS => Sl.rd.src (s := s) (Sl.rd.kp hs hS.kp))
 intro A2 c2
 exact Mt [.slice A2 ([] ++ s.xs).length c2] fun bs w hS => ⟨⟨A2, c2, [] ++ s.xs⟩, rfl, by simp, hS.kp, hS.out1⟩

theorem lock_Copy {B : Nat → Prop} (s : Sl CLock) (w : World) (hs : s.rd B w) (hsm : Rds.small s) : Calls Try.prog 114 #[s.val] w fun e w' => ∃ y : Sl CLock, e = .returned y.val ∧ y.xs.map CLock.abs = s.xs.map CLock.abs ∧ Kp [] w w' ∧ Fresh w w' (locksR 94 3 y) := by
 have oks := Sl.rd.ok hs
 have ncs := Sl.ok.nc oks
 refine M0 ?_ Try.func114
 refine m_rowA (α := CLock) 94 ?_
 refine m_nores (ownL (lineR 3) []) rfl (fun w x hx => by cases hx) ?_
 refine Ml (σ := Nat × Option Addr × Nat × List CLock) (fun ⟨i, A, c, L⟩ => i ≤ s.n ∧ L.length = i ∧ L.map CLock.abs = (s.xs.take i).map CLock.abs) (fun ⟨i, A, c, L⟩ => s.n - i) (fun ⟨i, A, c, L⟩ => [ownL (lineR 3) L, rowA 94 A c (L : List CLock)]) [8, 7, 6, 3] (fun ⟨i, A, c, L⟩ => [(8, vI (i : Int)), (3, .v (.slice A L.length c))]) (fun _ => []) ?_ (⟨0, none, 0, []⟩) ⟨Nat.zero_le _, rfl, by simp⟩
 rintro ⟨i, A, c, L⟩ ⟨hi, hL, hI⟩ _ on1
 have hsn : s.n * 56 ≤ 140737488355328 := hsm.1
 refine Md ((i : Int) < (s.n : Int)) (fun h1 => ?_) fun h1 => ?_
 rotate_left
 · refine Mt [.slice A L.length c] fun bs w hS => ?_
   have hn : L.length = s.n := by omega
   exact ⟨⟨A, c, L⟩, rfl, by rw [hI, take_all (by omega)], hS.kp, hS.out⟩
 refine Mi ?_ (pA 10 11 (i : Int) i (rdk hs))
 refine Mf ?_ Try.call143 (fun bs w hS => clone_Int (s.at i).line w (Sl.rd.sub (s := s) (i := i) (Sl.rd.kp hs hS.kp) (by omega)).2 (hsm.2 i (by omega)).1)
 rintro y1 hF1
 refine M1 ?_
 refine m_f2 ?_
 refine Mal (α := CLock) 56 ([(⟨(s.at i).name, (s.at i).holder, (s.at i).fence, y1⟩ : CLock)]) ?_
 intro A3 c3
 refine Mi ?_ (pR ((i : Int) + 1))
 refine m_perm (R' := [rowA 3 y1.A y1.c (y1.xs : List Int), ownL (lineR 3) L, rowA 94 A3 c3 (L ++ [(⟨(s.at i).name, (s.at i).holder, (s.at i).fence, y1⟩ : CLock)] : List CLock)]) (by exact perm3 0 _ _ _) ?_
 refine m_join (ownL (lineR 3) (L ++ [(⟨(s.at i).name, (s.at i).holder, (s.at i).fence, y1⟩ : CLock)])) (ownL_app_fp (lineR 3) L (⟨(s.at i).name, (s.at i).holder, (s.at i).fence, y1⟩ : CLock)) (fun w => ownL_app_p (lineR 3) L (⟨(s.at i).name, (s.at i).holder, (s.at i).fence, y1⟩ : CLock) w) ?_
 exact on1 ⟨i + 1, A3, c3, L ++ [(⟨(s.at i).name, (s.at i).holder, (s.at i).fence, y1⟩ : CLock)]⟩ ⟨by omega, by rw [List.length_append]; simp [hL], map_take_snoc (by omega) hI (by first | simp [CLock.abs, hF1] | simp [CLock.abs])⟩ (by show s.n - (i + 1) < s.n - i; omega)
theorem lock_CopyS {B : Nat → Prop} (s : Sl CLock) (w : World) (hs : s.rd B w) (hsm : Rds.small s) : Calls Try.prog 114 #[s.val] w fun e w' => ∃ y : Sl CLock, e = .returned y.val ∧ y.xs.map CLock.abs = s.xs.map CLock.abs ∧ FreshS w w' y :=
  (lock_Copy s w hs hsm).mono fun e w' ⟨y, h1, h2, h3, h4⟩ => ⟨y, h1, h2, h3, h4.sub fun hp => locksR_rd hp (locks_names hs h2)⟩

theorem ref_LocksCopy {B : Nat → Prop} (s : Sl CLock) (w : World) (hs : s.rd B w) (hsm : Rds.small s) : Calls Try.prog 22 #[s.val] w fun e w' => ∃ y : Sl CLock, e = .returned y.val ∧ y.xs.map CLock.abs = s.xs.map CLock.abs ∧ Kp [] w w' ∧ Fresh w w' (locksR 94 3 y) := by
 have oks := Sl.rd.ok hs
 have ncs := Sl.ok.nc oks
 refine M0 ?_ Try.func22
 refine m_rowA (α := CLock) 94 ?_
 refine m_nores (ownL (lineR 3) []) rfl (fun w x hx => by cases hx) ?_
 refine Ml (σ := Nat × Option Addr × Nat × List CLock) (fun ⟨i, A, c, L⟩ => i ≤ s.n ∧ L.length = i ∧ L.map CLock.abs = (s.xs.take i).map CLock.abs) (fun ⟨i, A, c, L⟩ => s.n - i) (fun ⟨i, A, c, L⟩ => [ownL (lineR 3) L, rowA 94 A c (L : List CLock)]) [4, 3, 0] (fun ⟨i, A, c, L⟩ => [(4, vI (i : Int)), (3, .v (.slice A L.length c))]) (fun _ => []) ?_ (⟨0, none, 0, []⟩) ⟨Nat.zero_le _, rfl, by simp⟩
 rintro ⟨i, A, c, L⟩ ⟨hi, hL, hI⟩ _ on1
 have hsn : s.n * 56 ≤ 140737488355328 := hsm.1
 refine Md ((i : Int) < (s.n : Int)) (fun h1 => ?_) fun h1 => ?_
 rotate_left
 · refine Mt [.slice A L.length c] fun bs w hS => ?_
   have hn : L.length = s.n := by omega
   exact ⟨⟨A, c, L⟩, rfl, by rw [hI, take_all (by omega)], hS.kp, hS.out⟩
 refine Mdr 24 ?_ Try_mixed
 refine Mih ?_ (pc (pI 14 (i : Int) i (rdk hs)) (pc (pF 16 i 0 1 (rdk hs)) (pc (pI 19 (i : Int) i (rdk hs)) (pc (pF 21 i 1 1 (rdk hs)) (pc (pI 24 (i : Int) i (rdk hs)) (pc (pF 26 i 2 1 (rdk hs)) (pc (pI 29 (i : Int) i (rdk hs)) (pF 31 i 3 1 (rdk hs)))))))))
 refine m_rowA (α := Int) 3 ?_
 refine Ma ?_ (α := Int) (L2 := (s.at i).line.xs) 8 (fun bs w hS => Sl.rd.src (s := (s.at i).line) (Sl.rd.sub (s := s) (i := i) (Sl.rd.kp hs hS.kp) (by omega)).2) (h63 := (by first | omega | (simp only [List.length_nil, List.length_cons, List.length_append]; omega) | (have hq : _ * (8 : Nat) ≤ 140737488355328 := (hsm.2 i (by omega)).1; simp only [Sl.n, List.length_nil] at hq ⊢; omega))) (hb := (by first | omega | (simp only [List.length_nil, List.length_cons, List.length_append]; omega) | (have hq : _ * (8 : Nat) ≤ 140737488355328 := (hsm.2 i (by omega)).1; simp only [Sl.n, List.length_nil] at hq ⊢; omega)))
 intro A1 c1
 refine M1 ?_ (hR := (.cons _ (List.Sublist.refl _)))
 refine Mz ?_
 refine m_f2 ?_
 refine Mal (α := CLock) 56 ([(⟨(s.at i).name, (s.at i).holder, (s.at i).fence, ⟨A1, c1, [] ++ (s.at i).line.xs⟩⟩ : CLock)]) ?_
 intro A2 c2
 refine Mi ?_ (pR ((i : Int) + 1))
 refine m_perm (R' := [rowA 3 A1 c1 ([] ++ (s.at i).line.xs : List Int), ownL (lineR 3) L, rowA 94 A2 c2 (L ++ [(⟨(s.at i).name, (s.at i).holder, (s.at i).fence, ⟨A1, c1, [] ++ (s.at i).line.xs⟩⟩ : CLock)] : List CLock)]) (by exact perm3 0 _ _ _) ?_
 refine m_join (ownL (lineR 3) (L ++ [(⟨(s.at i).name, (s.at i).holder, (s.at i).fence, ⟨A1, c1, [] ++ (s.at i).line.xs⟩⟩ : CLock)])) (ownL_app_fp (lineR 3) L (⟨(s.at i).name, (s.at i).holder, (s.at i).fence, ⟨A1, c1, [] ++ (s.at i).line.xs⟩⟩ : CLock)) (fun w => ownL_app_p (lineR 3) L (⟨(s.at i).name, (s.at i).holder, (s.at i).fence, ⟨A1, c1, [] ++ (s.at i).line.xs⟩⟩ : CLock) w) ?_
 exact on1 ⟨i + 1, A2, c2, L ++ [(⟨(s.at i).name, (s.at i).holder, (s.at i).fence, ⟨A1, c1, [] ++ (s.at i).line.xs⟩⟩ : CLock)]⟩ ⟨by omega, by rw [List.length_append]; simp [hL], map_take_snoc (by omega) hI (by first | simp [CLock.abs, hF1] | simp [CLock.abs])⟩ (by show s.n - (i + 1) < s.n - i; omega)
theorem ref_LocksCopyS {B : Nat → Prop} (s : Sl CLock) (w : World) (hs : s.rd B w) (hsm : Rds.small s) : Calls Try.prog 22 #[s.val] w fun e w' => ∃ y : Sl CLock, e = .returned y.val ∧ y.xs.map CLock.abs = s.xs.map CLock.abs ∧ FreshS w w' y :=
  (ref_LocksCopy s w hs hsm).mono fun e w' ⟨y, h1, h2, h3, h4⟩ => ⟨y, h1, h2, h3, h4.sub fun hp => locksR_rd hp (locks_names hs h2)⟩

theorem same_ints {B B' : Nat → Prop} (a b : Sl Int) (w : World) (ha : a.rd B w) (hb : b.rd B' w) (he : a.xs = b.xs) : Calls Try.prog 70 #[a.val, b.val] w fun e w' => e = .returned (vb true) ∧ Kp [] w w' := by
 have oka := Sl.rd.ok ha
 have okb := Sl.rd.ok hb
 have hn := xs_n he
 have nca := Sl.ok.nc oka
 refine M0 ?_ Try.func70
 refine Mdn ((a.n : Int) = (b.n : Int)) (fun h1 => ?_) fun h1 => ?_
 rotate_left
 · exfalso; first | omega | exact h1 (xs_at he i)
 refine Ml (σ := Nat) (fun i => True) (fun i => a.n - i) (fun _ => []) [5, 0, 1] (fun i => [(5, vI (i : Int))]) (fun _ => []) ?_ 0 trivial
 rintro i _ _ on1
 have hat := xs_at he i
 refine Md ((i : Int) < (a.n : Int)) (fun h2 => ?_) fun h2 => ?_
 rotate_left
 · exact Mt [vb true] fun bs w hS => ⟨rfl, hS.kp⟩
 refine Mda 9 [] [] [] Try_mixed ?_
 refine Mih ?_ (pc (pA 19 20 (i : Int) i (rdk ha)) (pA 23 24 (i : Int) i (rdk hb)))
 refine Mdn ((a.at i) = (b.at i)) (fun h3 => ?_) fun h3 => ?_
 rotate_left
 · exfalso; first | omega | exact h3 (xs_at he i)
 refine Mi ?_ (pR ((i : Int) + 1))
 exact on1 (i + 1) trivial (by omega)

theorem same_locks {B B' : Nat → Prop} (a b : Sl CLock) (w : World) (ha : a.rd B w) (hb : b.rd B' w) (he : a.xs.map CLock.abs = b.xs.map CLock.abs) : Calls Try.prog 25 #[a.val, b.val] w fun e w' => e = .returned (vb true) ∧ Kp [] w w' := by
 have oka := Sl.rd.ok ha
 have okb := Sl.rd.ok hb
 have hn := map_n he
 have nca := Sl.ok.nc oka
 refine M0 ?_ Try.func25
 refine Mdn ((a.n : Int) = (b.n : Int)) (fun h1 => ?_) fun h1 => ?_
 rotate_left
 · exfalso; first | omega | exact h1 q1
 refine Ml (σ := Nat) (fun i => True) (fun i => a.n - i) (fun _ => []) [5, 0, 1] (fun i => [(5, vI (i : Int))]) (fun _ => []) ?_ 0 trivial
 rintro i _ _ on1
 have hat := map_at (f := CLock.abs) (g := CLock.abs) rfl he i
 have q1 : (a.at i).name = (b.at i).name := congrArg DLock.name hat
 have q2 : (a.at i).holder = (b.at i).holder := congrArg DLock.holder hat
 have q3 : (a.at i).fence = (b.at i).fence := congrArg DLock.fence hat
 have q4 : (a.at i).line.xs = (b.at i).line.xs := congrArg DLock.line hat
 refine Md ((i : Int) < (a.n : Int)) (fun h2 => ?_) fun h2 => ?_
 rotate_left
 · exact Mt [vb true] fun bs w hS => ⟨rfl, hS.kp⟩
 refine Mda 51 [] [] [] Try_mixed ?_
 refine Mih ?_ (pc (pI 19 (i : Int) i (rdk ha)) (pc (pF 21 i 0 1 (rdk ha)) (pc (pI 24 (i : Int) i (rdk hb)) (pF 26 i 0 1 (rdk hb)))))
 refine Mdn ((a.at i).name = (b.at i).name) (fun h3 => ?_) fun h3 => ?_
 rotate_left
 · exfalso; first | omega | exact h3 q1
 refine Mih ?_ (pc (pI 31 (i : Int) i (rdk ha)) (pc (pF 33 i 1 1 (rdk ha)) (pc (pI 36 (i : Int) i (rdk hb)) (pF 38 i 1 1 (rdk hb)))))
 refine Mdn ((a.at i).holder = (b.at i).holder) (fun h4 => ?_) fun h4 => ?_
 rotate_left
 · exfalso; first | omega | exact h4 q1
 refine Mih ?_ (pc (pI 44 (i : Int) i (rdk ha)) (pc (pF 46 i 2 1 (rdk ha)) (pc (pI 49 (i : Int) i (rdk hb)) (pF 51 i 2 1 (rdk hb)))))
 refine Mdn ((a.at i).fence = (b.at i).fence) (fun h5 => ?_) fun h5 => ?_
 rotate_left
 · exfalso; first | omega | exact h5 q1
 refine Mih ?_ (pc (pI 57 (i : Int) i (rdk ha)) (pc (pF 59 i 3 1 (rdk ha)) (pc (pI 62 (i : Int) i (rdk hb)) (pF 64 i 3 1 (rdk hb)))))
 refine Mp ?_ Try.call70 (fun bs w hS => same_ints _ _ w (Sl.rd.sub (s := a) (i := i) (Sl.rd.kp ha hS.kp) (by omega)).2 (Sl.rd.sub (s := b) (i := i) (Sl.rd.kp hb hS.kp) (by omega)).2 q4)
 refine Mq 67 false ?_ rfl
 refine Mi ?_ (pR ((i : Int) + 1))
 exact on1 (i + 1) trivial (by omega)

theorem lock_begin_1 (x : CLock) (t : ByteArray) (w : World) : Calls Try.prog 113 #[x.val, vs t] w fun e w' => e = .returned (vi (cmpS x.name t)) ∧ Kp [] w w' := by
 refine M0 ?_ Try.func113
 refine Mp ?_ Try.call100 (fun bs w hS => strings_Compare x.name t w)
 exact Mt [vi (cmpS x.name t)] fun bs w hS => ⟨rfl, hS.kp⟩

theorem bs_lock_begin_1 {B : Nat → Prop} (s : Sl CLock) (t : ByteArray) (w : World) (hs : s.rd B w) (hn : s.n ≤ 1048576) : Calls Try.prog 112 #[s.val, vs t, .func (.func 113) #[] #[]] w fun e w' => e = .returned (.tuple #[vi (mBS (fun x : CLock => cmpS x.name t) s.xs : Nat), vb (mBSf (fun x : CLock => cmpS x.name t) s.xs)]) ∧ Kp [] w w' := by
 have oks := Sl.rd.ok hs
 have ncs := Sl.ok.nc oks
 have hns : s.n = s.xs.length := rfl
 refine Mj ?_ Try.func112 (WS.start w)
 refine Ml (σ := Nat × Nat × Nat) (fun ⟨i, j, f⟩ => i ≤ j ∧ j ≤ s.n ∧ j - i ≤ f ∧ mBS (fun x : CLock => cmpS x.name t) s.xs = bsGo (fun j => decide (cmpS (s.at j).name t < 0)) f i j) (fun ⟨i, j, f⟩ => f) (fun _ => []) [10, 9, 8, 0, 1, 2] (fun ⟨i, j, f⟩ => [(10, vI (j : Int)), (9, vI (i : Int))]) (fun _ => []) ?_ (⟨0, s.n, s.n⟩) ⟨Nat.zero_le _, Nat.le_refl _, Nat.le_refl _, rfl⟩
 rintro ⟨i, j, f⟩ ⟨h1, h2, h3, hI⟩ _ on1
 have hdiv : ((i : Int) + (j : Int)) / 2 = (((i + j) / 2 : Nat) : Int) := by omega
 refine Md ((i : Int) < (j : Int)) (fun h1 => ?_) fun h1 => ?_
 rotate_left
 · refine Md ((i : Int) < (s.n : Int)) (fun h3 => ?_) fun h3 => ?_
   rotate_left
   · refine Mt [vi (i : Int), vb false] fun bs w hS => ?_
     have hij : i = j := by omega
     subst hij
     have hr : mBS (fun x : CLock => cmpS x.name t) s.xs = i := by rw [hI]; exact bsGo_end _ _ _ _ (Nat.le_refl _)
     refine ⟨?_, hS.kp⟩
     have hr2 : mBSf (fun x : CLock => cmpS x.name t) s.xs = false := by
       unfold mBSf; rw [hr]
       rw [decide_eq_false (show ¬ i < s.xs.length by omega)]; rfl
     rw [hr, hr2]
     rfl
   refine Mi ?_ (pA 43 44 (i : Int) i (rdk hs))
   refine Mp ?_ Try.call113 (fun bs w hS => lock_begin_1 (s.at i) t w)
   refine Mt [vi (i : Int), vb (decide (cmpS (s.at i).name t = 0))] fun bs w hS => ?_
   have hij : i = j := by omega
   subst hij
   have hr : mBS (fun x : CLock => cmpS x.name t) s.xs = i := by rw [hI]; exact bsGo_end _ _ _ _ (Nat.le_refl _)
   refine ⟨?_, hS.kp⟩
   have hr2 : mBSf (fun x : CLock => cmpS x.name t) s.xs = (decide (cmpS (s.at i).name t = 0)) := by
     unfold mBSf; rw [hr]
     rw [decide_eq_true (show i < s.xs.length by omega)]; rfl
   rw [hr, hr2]
   rfl
 refine Mi ?_ (pc (pR ((i : Int) + (j : Int))) (pc (pG [(21, .val (.int .u64 ((i : Int) + (j : Int))))] (oc ((conv_i64_u64 Try.underlying3 Try.underlying138 (by omega) (by omega)) : ∀ w, (convert 3 138 (vi ((i : Int) + (j : Int))) : Sem Value).run Try.prog w = .ok (.int .u64 ((i : Int) + (j : Int))) w) on)) (pc (pG [(22, .val (.int .u64 (((i : Int) + (j : Int)) / 2)))] (oc (shr_u64 : ∀ w, (do eqGuard .shr 138 (.tmp 21) (.const (.int .u64 1)) (.int .u64 ((i : Int) + (j : Int))) (.int .u64 1); binOp .shr 138 (.int .u64 ((i : Int) + (j : Int))) (.int .u64 1) : Sem Value).run Try.prog w = .ok (.int .u64 (((i : Int) + (j : Int)) / 2)) w) on)) (pc (pG [(23, .val (vi (((i : Int) + (j : Int)) / 2)))] (oc ((conv_u64_i64 Try.underlying138 Try.underlying3 (by omega) (by omega)) : ∀ w, (convert 138 3 (.int .u64 (((i : Int) + (j : Int)) / 2)) : Sem Value).run Try.prog w = .ok (vi (((i : Int) + (j : Int)) / 2)) w) on)) (pA 27 28 (((i : Int) + (j : Int)) / 2) (((i : Int) + (j : Int)) / 2).toNat (rdk hs))))))
 refine Mp ?_ Try.call113 (fun bs w hS => lock_begin_1 (s.at (((i : Int) + (j : Int)) / 2).toNat) t w)
 refine Md (cmpS (s.at (((i : Int) + (j : Int)) / 2).toNat).name t < 0) (fun h2 => ?_) fun h2 => ?_
 rotate_left
 · have hf1 : f = (f - 1) + 1 := by omega
   rw [hf1] at hI
   have hI2 := hI.trans (bsGo_down (by omega) (decide_eq_false (by assumption)))
   exact on1 ⟨i, (i + j) / 2, f - 1⟩ ⟨by omega, by omega, by omega, hI2⟩ (by show f - 1 < f; omega)
 refine Mi ?_ (pR ((((i : Int) + (j : Int)) / 2) + 1))
 have hf1 : f = (f - 1) + 1 := by omega
 rw [hf1] at hI
 have hI2 := hI.trans (bsGo_up (by omega) (decide_eq_true (by assumption)))
 exact on1 ⟨(i + j) / 2 + 1, j, f - 1⟩ ⟨by omega, by omega, by omega, hI2⟩ (by show f - 1 < f; omega)

theorem tackroomref_lockAt {B : Nat → Prop} (s : Sl CLock) (t : ByteArray) (w : World) (hs : s.rd B w) : Calls Try.prog 67 #[s.val, vs t] w fun e w' => e = .returned (vi (mIdx (fun x : CLock => decide (x.name = t)) s.xs)) ∧ Kp [] w w' := by
 have oks := Sl.rd.ok hs
 have ncs := Sl.ok.nc oks
 have hns : s.n = s.xs.length := rfl
 refine M0 ?_ Try.func67
 refine Ml (σ := Nat) (fun i => i ≤ s.n ∧ ∀ j, j < i → decide ((s.at j).name = t) = false) (fun i => s.n - i) (fun _ => []) [5, 0, 1] (fun i => [(5, vI (i : Int))]) (fun _ => []) ?_ 0 ⟨Nat.zero_le _, fun j hj => absurd hj (Nat.not_lt_zero _)⟩
 rintro i ⟨hi, hI⟩ _ on1
 refine Md ((i : Int) < (s.n : Int)) (fun h1 => ?_) fun h1 => ?_
 rotate_left
 · exact Me0 (-1) (by rw [mIdx_none (p := (fun x : CLock => decide (x.name = t))) fun j hj => hI j (by omega)])
 refine Mi ?_ (pc (pI 14 (i : Int) i (rdk hs)) (pF 16 i 0 1 (rdk hs)))
 refine Md ((s.at i).name = t) (fun h2 => ?_) fun h2 => ?_
 · exact Me0 (i : Int) (by rw [mIdx_here (p := (fun x : CLock => decide (x.name = t))) (i := i) (by omega) (decide_eq_true (by assumption)) hI])
 refine Mi ?_ (pR ((i : Int) + 1))
 exact on1 (i + 1) ⟨by omega, fun j hj => by rcases Nat.lt_succ_iff_lt_or_eq.1 hj with h | h; exact hI j h; subst h; exact decide_eq_false (by assumption)⟩ (by omega)

theorem ref_asked {B : Nat → Prop} (s : Sl CLock) (t : ByteArray) (who : Int) (w : World) (hs : s.rd B w) (ht : t.size ≤ 9223372036854775807) : Calls Try.prog 66 #[s.val, vs t, vi who] w fun e w' => e = .returned (vi (mAsk (s.xs.map CLock.abs) t who)) ∧ Kp [] w w' := by
 have oks := Sl.rd.ok hs
 have ncs := Sl.ok.nc oks
 have hns : s.n = s.xs.length := rfl
 refine M0 ?_ Try.func66
 refine Mp ?_ Try.call117 (fun bs w hS => ref_LocksFault s w (Sl.rd.kp hs hS.kp))
 refine Md (mLocks (s.xs.map CLock.abs) = 0) (fun h1 => ?_) fun h1 => ?_
 rotate_left
 · refine My false false ?_ (df h1)
   refine Me0 (mLocks (s.xs.map CLock.abs)) ?_
   have hm : mAsk (s.xs.map CLock.abs) t who = mLocks (s.xs.map CLock.abs) := by
     unfold mAsk
     repeat (first | rw [if_pos (by first | assumption | omega)] | rw [if_neg (by first | assumption | omega | (simp_all; done))])
     try rfl
     try omega
   rw [hm] <;> rfl
 refine Mp ?_ Try.call48 (fun bs w hS => ref_NameMay _ w (by first | assumption | omega | (simp only [emp_size]; omega)))
 refine Mbn (mName t) (fun h2 => ?_) fun h2 => ?_
 rotate_left
 · refine Mq 19 false ?_ rfl
   refine Me0 4 ?_
   have hm : mAsk (s.xs.map CLock.abs) t who = 4 := by
     unfold mAsk
     repeat (first | rw [if_pos (by first | assumption | omega)] | rw [if_neg (by first | assumption | omega | (simp_all; done))])
     try rfl
     try omega
   rw [hm] <;> rfl
 refine My true false ?_ (dt h1)
 refine Mp ?_ Try.call56 (fun bs w hS => ref_In who 1 9 w)
 refine Mbn (inB who 1 9) (fun h4 => ?_) fun h4 => ?_
 rotate_left
 · simp only [iT, iF] at h4
   refine Me0 2 ?_
   have hm : mAsk (s.xs.map CLock.abs) t who = 2 := by
     unfold mAsk
     repeat (first | rw [if_pos (by first | assumption | omega)] | rw [if_neg (by first | assumption | omega | (simp_all; done))])
     try rfl
     try omega
   rw [hm] <;> rfl
 simp only [iT, iF] at h4
 refine Me0 (mLocks (s.xs.map CLock.abs)) ?_
 have hm : mAsk (s.xs.map CLock.abs) t who = mLocks (s.xs.map CLock.abs) := by
   unfold mAsk
   repeat (first | rw [if_pos (by first | assumption | omega)] | rw [if_neg (by first | assumption | omega | (simp_all; done))])
   try rfl
   try omega
 rw [hm] <;> rfl

theorem lock_begin {B : Nat → Prop} (s : Sl CLock) (t : ByteArray) (who : Int) (w : World) (hs : s.rd B w) (ht : t.size ≤ 9223372036854775807) : Calls Try.prog 63 #[s.val, vs t, vi who] w fun e w' => (¬ mAsk (s.xs.map CLock.abs) t who = 0 ∧ e = .returned (.tuple #[vn, vi 0, vb false, vi (mAsk (s.xs.map CLock.abs) t who)]) ∧ Kp [] w w') ∨ (mAsk (s.xs.map CLock.abs) t who = 0 ∧ ∃ y : Sl CLock, e = .returned (.tuple #[y.val, vi ((mBS (fun x : CLock => cmpS x.name t) s.xs : Nat) : Int), vb (mBSf (fun x : CLock => cmpS x.name t) s.xs), vi 0]) ∧ y.xs.map CLock.abs = s.xs.map CLock.abs ∧ Kp [] w w' ∧ Fresh w w' (locksR 94 3 y)) := by
 have oks := Sl.rd.ok hs
 have ncs := Sl.ok.nc oks
 have hns : s.n = s.xs.length := rfl
 refine M0 ?_ Try.func63
 refine Mp ?_ Try.call110 (fun bs w hS => lock_Check s w (Sl.rd.kp hs hS.kp))
 refine Mdn (mLocks (s.xs.map CLock.abs) = 0) (fun h1 => ?_) fun h1 => ?_
 rotate_left
 · refine Mt [vn, vi 0, vb false, vi (mLocks (s.xs.map CLock.abs))] fun bs w hS => ?_
   have hm : mAsk (s.xs.map CLock.abs) t who = mLocks (s.xs.map CLock.abs) := by
     unfold mAsk
     repeat (first | rw [if_pos (by first | assumption | omega)] | rw [if_neg (by first | assumption | omega | (simp_all; done))])
     try rfl
     try omega
   refine .inl ⟨?_, ?_, hS.kp⟩
   · rw [hm]; first | assumption | omega
   · rw [hm] <;> rfl
 have hln := (mLocks_bd h1).1
 have hln2 : s.xs.length ≤ 5 := by simpa using hln
 refine Mp ?_ Try.call43 (fun bs w hS => lock_Name _ w (by first | assumption | omega | (simp only [emp_size]; omega)))
 refine Mbn (mName t) (fun h2 => ?_) fun h2 => ?_
 rotate_left
 · refine Mt [vn, vi 0, vb false, vi 4] fun bs w hS => ?_
   have hm : mAsk (s.xs.map CLock.abs) t who = 4 := by
     unfold mAsk
     repeat (first | rw [if_pos (by first | assumption | omega)] | rw [if_neg (by first | assumption | omega | (simp_all; done))])
     try rfl
     try omega
   refine .inl ⟨?_, ?_, hS.kp⟩
   · rw [hm]; first | assumption | omega
   · rw [hm] <;> rfl
 refine Mp ?_ Try.call111 (fun bs w hS => lock_client who w)
 refine Mbn (inB who 1 9) (fun h3 => ?_) fun h3 => ?_
 rotate_left
 · simp only [iT, iF] at h3
   refine Mt [vn, vi 0, vb false, vi 2] fun bs w hS => ?_
   have hm : mAsk (s.xs.map CLock.abs) t who = 2 := by
     unfold mAsk
     repeat (first | rw [if_pos (by first | assumption | omega)] | rw [if_neg (by first | assumption | omega | (simp_all; done))])
     try rfl
     try omega
   refine .inl ⟨?_, ?_, hS.kp⟩
   · rw [hm]; first | assumption | omega
   · rw [hm] <;> rfl
 simp only [iT, iF] at h3
 refine Mp ?_ Try.call112 (fun bs w hS => bs_lock_begin_1 s t w (Sl.rd.kp hs hS.kp) (show s.xs.length ≤ 1048576 by omega))
 refine Mf ?_ Try.call114 (fun bs w hS => lock_Copy s w (Sl.rd.kp hs hS.kp) (small_locks (by assumption)))
 rintro y1 hF1
 refine Mt [y1.val, vi ((mBS (fun x : CLock => cmpS x.name t) s.xs : Nat) : Int), vb (mBSf (fun x : CLock => cmpS x.name t) s.xs), vi 0] fun bs w hS => ?_
 have hm : mAsk (s.xs.map CLock.abs) t who = 0 := by
   unfold mAsk
   repeat (first | rw [if_pos (by first | assumption | omega)] | rw [if_neg (by first | assumption | omega | (simp_all; done))])
   try rfl
   try omega
 exact .inr ⟨hm, y1, rfl, hF1, hS.kp, hS.out1⟩

theorem ref_unlined {B : Nat → Prop} (s : Sl Int) (who : Int) (w : World) (hs : s.rd B w) (hb : s.n ≤ 1048576) : Calls Try.prog 75 #[s.val, vi who] w fun e w' => ∃ y : Sl Int, e = .returned y.val ∧ y.xs = unline s.xs who ∧ FreshS w w' y := by
 have oks := Sl.rd.ok hs
 have ncs := Sl.ok.nc oks
 have hns : s.n = s.xs.length := rfl
 refine M0 ?_ Try.func75
 refine m_rowA (α := Int) 3 ?_
 refine Ml (σ := Nat × Option Addr × Nat × List Int) (fun ⟨i, A, c, L⟩ => i ≤ s.n ∧ L = (s.xs.take i).filter (fun z => !decide (z = who))) (fun ⟨i, A, c, L⟩ => s.n - i) (fun ⟨i, A, c, L⟩ => [rowA 3 A c (L : List Int)]) [6, 5, 0, 1] (fun ⟨i, A, c, L⟩ => [(6, vI (i : Int)), (5, .v (.slice A L.length c))]) (fun _ => []) ?_ (⟨0, none, 0, []⟩) ⟨Nat.zero_le _, rfl⟩
 rintro ⟨i, A, c, L⟩ ⟨hi, hI⟩ _ on1
 have hLn : L.length ≤ i := by rw [hI]; exact Nat.le_trans (List.length_filter_le _ _) (by rw [List.length_take]; omega)
 refine Md ((i : Int) < (s.n : Int)) (fun h1 => ?_) fun h1 => ?_
 rotate_left
 · exact Mt [.slice A L.length c] fun bs w hS => ⟨⟨A, c, L⟩, rfl, by show L = _; rw [hI, take_all (by omega)]; rfl, hS.outS (y := (⟨A, c, L⟩ : Sl Int)) (allR_row i0 (hS.res _ i0) (fun _ _ => trivial))⟩
 refine Mi ?_ (pA 15 16 (i : Int) i (rdk hs))
 refine Mdn ((s.at i) = who) (fun h2 => ?_) fun h2 => ?_
 · refine Mi ?_ (pR ((i : Int) + 1))
   exact on1 ⟨i + 1, A, c, L⟩ ⟨by omega, by first | exact filtS_in (p := fun z => decide (z = who)) hI (by omega) (decide_eq_false (by assumption)) | exact filtS_out (p := fun z => decide (z = who)) hI (by omega) (decide_eq_true (by assumption))⟩ (by show s.n - (i + 1) < s.n - i; omega)
 refine Mi ?_ (pA 22 23 (i : Int) i (rdk hs))
 refine M1 ?_
 refine Mal (α := Int) 8 ([(s.at i)]) ?_
 intro A1 c1
 refine Mi ?_ (pR ((i : Int) + 1))
 exact on1 ⟨i + 1, A1, c1, L ++ [(s.at i)]⟩ ⟨by omega, by first | exact filtS_in (p := fun z => decide (z = who)) hI (by omega) (decide_eq_false (by assumption)) | exact filtS_out (p := fun z => decide (z = who)) hI (by omega) (decide_eq_true (by assumption))⟩ (by show s.n - (i + 1) < s.n - i; omega)

theorem ref_passed {B : Nat → Prop} (x : CLock) (w : World) (hx : Rds.sub B w x) (hf : 1 ≤ x.fence ∧ x.fence ≤ 1073741824) (hl : x.line.n ≤ 1048576) : Calls Try.prog 74 #[x.val] w fun e w' => ∃ y : CLock, e = .returned y.val ∧ y.abs = mPass x.abs ∧ FreshS w w' y := by
 have okx := Rds.okof hx
 have ncx := Sl.ok.nc okx.2
 have hnx : x.line.n = x.line.xs.length := rfl
 have hq1 : x.abs.line = x.line.xs := rfl
 have hq2 : x.abs.fence = x.fence := rfl
 refine M0 ?_ Try.func74
 refine Md ((x.line.n : Int) = 0) (fun h1 => ?_) fun h1 => ?_
 · refine Mt [.agg #[vs x.name, vi 0, vi x.fence, vn]] fun bs w hS => ?_
   have hp : mPass x.abs = ⟨x.name, 0, x.fence, []⟩ := by unfold mPass; rw [hq1, hq2, if_neg (by omega)]; rfl
   exact ⟨⟨x.name, 0, x.fence, Sl.nil⟩, rfl, hp.symm, hS.outS (y := (⟨x.name, 0, x.fence, Sl.nil⟩ : CLock)) ⟨okx.1, Sl.rd_nil _ _⟩⟩
 refine Md ((1073741824 : Int) ≤ x.fence) (fun h2 => ?_) fun h2 => ?_
 · refine Mt [.agg #[vs x.name, vi 0, vi x.fence, vn]] fun bs w hS => ?_
   have hp : mPass x.abs = ⟨x.name, 0, x.fence, []⟩ := by unfold mPass; rw [hq1, hq2, if_neg (by omega)]; rfl
   exact ⟨⟨x.name, 0, x.fence, Sl.nil⟩, rfl, hp.symm, hS.outS (y := (⟨x.name, 0, x.fence, Sl.nil⟩ : CLock)) ⟨okx.1, Sl.rd_nil _ _⟩⟩
 refine Mda 14 [] [] [] Try_mixed ?_
 refine Mih ?_ (pc (pA 21 22 0 0 (s := x.line) (fun w hk hr => (Rds.kp hx hk).2)) (pc (pR (x.fence + 1)) (pG [(28, .sl 1 x.line.n)] (oc (rfl : (1 : Int) = ((1 : Nat) : Int)) (oc (rfl : x.line.n = x.line.n) (oc ((by omega) : 1 ≤ x.line.n) on))))))
 refine m_rowA (α := Int) 3 ?_
 refine Ma ?_ (α := Int) (L2 := x.line.xs.drop 1) 8 (fun bs w hS => Sl.rd.srcDrop (s := x.line) (Rds.kp hx hS.kp).2 (by omega)) (hn2 := (List.length_drop ..))
 intro A1 c1
 refine m_weak (rowA 3 A1 c1 (x.line.xs.drop 1 : List Int)) (List.Sublist.refl _) (fun w h => h) ?_
 refine Mt [.agg #[vs x.name, vi (x.line.at 0), vi (x.fence + 1), .slice A1 (x.line.xs.drop 1).length c1]] fun bs w hS => ?_
 have hp : mPass x.abs = ⟨x.name, x.line.at 0, x.fence + 1, x.line.xs.drop 1⟩ := by unfold mPass; rw [hq1, hq2, if_pos (by omega)]; rfl
 exact ⟨⟨x.name, x.line.at 0, x.fence + 1, ⟨A1, c1, x.line.xs.drop 1⟩⟩, rfl, hp.symm, hS.outS (y := (⟨x.name, x.line.at 0, x.fence + 1, ⟨A1, c1, x.line.xs.drop 1⟩⟩ : CLock)) ⟨okx.1, allR_row i0 (hS.res _ i0) (fun _ _ => trivial)⟩⟩

theorem lock_pass {B : Nat → Prop} (A : Option Addr) (c : Nat) (L : List CLock) (k : Nat) (w : World) (hrow : (rowA 94 A c L).p w) (hlt : ∀ b, b ∈ (rowA 94 A c L).fp → b < w.heap.size) (hk : k < L.length) (hx : Rds.sub B w (L.getD k default)) (hB : ∀ b, B b → b ∉ (rowA 94 A c L).fp) (hf : 1 ≤ (L.getD k default).fence ∧ (L.getD k default).fence ≤ 1073741824) : Calls Try.prog 72 #[.pointer (some ((oad A).add (k * 4)))] w fun e w' => ∃ _ : Unit, e = .returned (.tuple #[]) ∧ True ∧ Turned (rowA 94 A c L) w w' (rowA 94 A c (L.set k (passC (L.getD k default)))) := by
 have hrok := rowA_rok hrow
 have nc := hrok.2
 have okx := Rds.okof hx
 have ncx := Sl.ok.nc okx.2
 have hnx : (L.getD k default).line.n = (L.getD k default).line.xs.length := rfl
 have hst : ∀ w', Kp (rowA 94 A c L).fp w w' → Rds.sub B w' (L.getD k default) := fun w' hk => Rds.stay (fun b hb hlt => hk.block b hlt (hB b hb)) hx
 refine Mj ?_ Try.func72 (WS.start1 w _ hrow (by cases A <;> simp [rowA, rowR]) hlt)
 refine Ms k 1 (⟨(L.getD k default).name, 0, (L.getD k default).fence, (L.getD k default).line⟩ : CLock) ?_ (by omega)
 intro L1 hL1 hlL1
 have hgL1 : L1.getD k default = (⟨(L.getD k default).name, 0, (L.getD k default).fence, (L.getD k default).line⟩ : CLock) := by rw [hL1]; exact getD_set (by omega)
 have hbL1 : L1 = List.set L k (⟨(L.getD k default).name, 0, (L.getD k default).fence, (L.getD k default).line⟩ : CLock) := by rw [hL1]
 refine Mi ?_ (pFk 8 k 3 1 hgL1 i0)
 refine Md ((0 : Int) < (((L.getD k default).line.n : Nat) : Int)) (fun h1 => ?_) fun h1 => ?_
 rotate_left
 · refine Ms k 3 (⟨(L.getD k default).name, 0, (L.getD k default).fence, Sl.nil⟩ : CLock) ?_ (by omega) (hg := hgL1)
   intro L6 hL6 hlL6
   have hgL6 : L6.getD k default = (⟨(L.getD k default).name, 0, (L.getD k default).fence, Sl.nil⟩ : CLock) := by rw [hL6]; exact getD_set (by omega)
   have hbL6 : L6 = List.set L k (⟨(L.getD k default).name, 0, (L.getD k default).fence, Sl.nil⟩ : CLock) := by rw [hL6, hbL1, List.set_set]
   refine Mt [] fun bs w hS => ?_
   have hp : passC (L.getD k default) = (⟨(L.getD k default).name, 0, (L.getD k default).fence, Sl.nil⟩ : CLock) := by grind [passC]
   have hL : L6 = L.set k (passC (L.getD k default)) := by rw [hp]; exact hbL6
   subst hL
   exact ⟨(), rfl, trivial, hS.turned⟩
 refine Mi ?_ (pFk 15 k 2 1 hgL1 i0)
 refine Md ((L.getD k default).fence < 1073741824) (fun h2 => ?_) fun h2 => ?_
 rotate_left
 · refine Ms k 3 (⟨(L.getD k default).name, 0, (L.getD k default).fence, Sl.nil⟩ : CLock) ?_ (by omega) (hg := hgL1)
   intro L5 hL5 hlL5
   have hgL5 : L5.getD k default = (⟨(L.getD k default).name, 0, (L.getD k default).fence, Sl.nil⟩ : CLock) := by rw [hL5]; exact getD_set (by omega)
   have hbL5 : L5 = List.set L k (⟨(L.getD k default).name, 0, (L.getD k default).fence, Sl.nil⟩ : CLock) := by rw [hL5, hbL1, List.set_set]
   refine Mt [] fun bs w hS => ?_
   have hp : passC (L.getD k default) = (⟨(L.getD k default).name, 0, (L.getD k default).fence, Sl.nil⟩ : CLock) := by grind [passC]
   have hL : L5 = L.set k (passC (L.getD k default)) := by rw [hp]; exact hbL5
   subst hL
   exact ⟨(), rfl, trivial, hS.turned⟩
 refine Mda 27 [21] [] [rowA 94 A c (L1 : List CLock)] Try_mixed ?_
 refine Mih ?_ (pc (pFk 24 k 3 1 hgL1 i0) (pc (pA 25 26 0 0 (s := (L.getD k default).line) (fun w hk hr => (hst _ hk).2)) (pc (pFk 30 k 2 1 hgL1 i0) (pc (pR ((L.getD k default).fence + 1)) (pc (pFk 35 k 3 1 hgL1 i0) (pG [(36, .sl 1 (L.getD k default).line.n)] (oc (rfl : (1 : Int) = ((1 : Nat) : Int)) (oc (rfl : (L.getD k default).line.n = (L.getD k default).line.n) (oc ((by omega) : 1 ≤ (L.getD k default).line.n) on)))))))))
 refine MsX [] k 1 (⟨(L.getD k default).name, ((L.getD k default).line.at 0), (L.getD k default).fence, (L.getD k default).line⟩ : CLock) ?_ (by omega) (hg := hgL1)
 intro L2 hL2 hlL2
 have hgL2 : L2.getD k default = (⟨(L.getD k default).name, ((L.getD k default).line.at 0), (L.getD k default).fence, (L.getD k default).line⟩ : CLock) := by rw [hL2]; exact getD_set (by omega)
 have hbL2 : L2 = List.set L k (⟨(L.getD k default).name, ((L.getD k default).line.at 0), (L.getD k default).fence, (L.getD k default).line⟩ : CLock) := by rw [hL2, hbL1, List.set_set]
 refine Ms k 2 (⟨(L.getD k default).name, ((L.getD k default).line.at 0), (L.getD k default).fence + 1, (L.getD k default).line⟩ : CLock) ?_ (by omega) (hg := hgL2)
 intro L3 hL3 hlL3
 have hgL3 : L3.getD k default = (⟨(L.getD k default).name, ((L.getD k default).line.at 0), (L.getD k default).fence + 1, (L.getD k default).line⟩ : CLock) := by rw [hL3]; exact getD_set (by omega)
 have hbL3 : L3 = List.set L k (⟨(L.getD k default).name, ((L.getD k default).line.at 0), (L.getD k default).fence + 1, (L.getD k default).line⟩ : CLock) := by rw [hL3, hbL2, List.set_set]
 refine Ms k 3 (⟨(L.getD k default).name, ((L.getD k default).line.at 0), (L.getD k default).fence + 1, ⟨offA (L.getD k default).line.A (L.getD k default).line.c 1 1, (L.getD k default).line.c - 1, (L.getD k default).line.xs.drop 1⟩⟩ : CLock) ?_ (by omega) (hg := hgL3) (hcell := (Eq.trans (by kernel_rfl) (congrArg (fun q => [Value.string (L.getD k default).name, vi ((L.getD k default).line.at 0), vi ((L.getD k default).fence + 1), .slice (offA (L.getD k default).line.A (L.getD k default).line.c 1 1) q ((L.getD k default).line.c - 1)]) (List.length_drop ..).symm)))
 intro L4 hL4 hlL4
 have hgL4 : L4.getD k default = (⟨(L.getD k default).name, ((L.getD k default).line.at 0), (L.getD k default).fence + 1, ⟨offA (L.getD k default).line.A (L.getD k default).line.c 1 1, (L.getD k default).line.c - 1, (L.getD k default).line.xs.drop 1⟩⟩ : CLock) := by rw [hL4]; exact getD_set (by omega)
 have hbL4 : L4 = List.set L k (⟨(L.getD k default).name, ((L.getD k default).line.at 0), (L.getD k default).fence + 1, ⟨offA (L.getD k default).line.A (L.getD k default).line.c 1 1, (L.getD k default).line.c - 1, (L.getD k default).line.xs.drop 1⟩⟩ : CLock) := by rw [hL4, hbL3, List.set_set]
 refine Mt [] fun bs w hS => ?_
 have hp : passC (L.getD k default) = (⟨(L.getD k default).name, ((L.getD k default).line.at 0), (L.getD k default).fence + 1, ⟨offA (L.getD k default).line.A (L.getD k default).line.c 1 1, (L.getD k default).line.c - 1, (L.getD k default).line.xs.drop 1⟩⟩ : CLock) := by grind [passC]
 have hL : L4 = L.set k (passC (L.getD k default)) := by rw [hp]; exact hbL4
 subst hL
 exact ⟨(), rfl, trivial, hS.turned⟩

theorem delR_Int (A : Option Addr) (c : Nat) (L : List Int) (i j : Nat) (ii jj : Int) (w : World) (hrow : (rowA 3 A c L).p w) (hlt : ∀ b, b ∈ (rowA 3 A c L).fp → b < w.heap.size) (ei : ii = (i : Int)) (ej : jj = (j : Int)) (hij : i ≤ j) (hj : j ≤ L.length) :
    Calls Try.prog 73 #[.slice A L.length c, vi ii, vi jj] w fun e w' => e = .returned (.slice A (L.take i ++ L.drop j).length c) ∧ Turned (rowA 3 A c L) w w' (rowA 3 A c (L.take i ++ L.drop j)) := by
 subst ei ej
 have hrok := rowA_rok hrow
 have nc := hrok.2
 refine Mj ?_ Try.func73 (WS.start1 w _ hrow (by cases A <;> simp [rowA, rowR]) hlt)
 refine Ms3 (e := 3) (A := A) (n := L.length) (il := (i : Int)) (ih := (j : Int)) (im := (L.length : Int)) (c := c) i j L.length ?_ rfl rfl rfl (by omega) (by omega) (by omega)
 refine Md ((i : Int) = (j : Int)) (fun h1 => ?_) fun h1 => ?_
 · refine Mt [.slice A L.length c] fun bs w hS => ?_
   have hij2 : i = j := by omega
   subst hij2
   rw [List.take_append_drop]
   exact ⟨rfl, hS.turned⟩
 refine Mdr 6 ?_ Try_mixed
 refine Mih ?_ (pc (pG [(22, .sl 0 i)] (oc (rfl : 0 = 0) (oc (rfl : (i : Int) = (i : Int)) (oc ((by omega) : i ≤ c) on)))) (pG [(25, .sl j L.length)] (oc (rfl : (j : Int) = (j : Int)) (oc (rfl : L.length = L.length) (oc ((by omega) : j ≤ L.length) on)))))
 refine Mz ?_
 refine Mad 8 i j ?_ hij hj
 refine Mi ?_ (pG [(31, .sl (i + (L.length - j)) L.length)] (oc (rfl : ((i + (L.length - j) : Nat) : Int) = (((i + (L.length - j)) : Nat) : Int)) (oc (rfl : (L.length : Int) = (L.length : Int)) (oc ((by omega) : (i + (L.length - j)) ≤ L.length) (oc ((by omega) : L.length ≤ c) on)))))
 refine Mcl (i + (L.length - j)) (L.length - (i + (L.length - j))) ?_ (by simp only [List.length_append, List.length_take, List.length_drop]; omega) (by omega)
 refine Mt [.slice A (i + (L.length - j)) c] fun bs w hS => ?_
 have hlen : (L.take i ++ L.drop j).length = i + (L.length - j) := by simp only [List.length_append, List.length_take, List.length_drop]; omega
 have hS2 := hS
 rw [← hlen, List.take_length] at hS2
 refine ⟨?_, hS2.turned⟩
 rw [hlen]
 rfl

theorem lock_Free {B : Nat → Prop} (s : Sl CLock) (t : ByteArray) (who : Int) (w : World) (hs : s.rd B w) (ht : t.size ≤ 9223372036854775807) : Calls Try.prog 26 #[s.val, vs t, vi who] w fun e w' => ∃ y : Sl CLock, e = .returned (.tuple #[y.val, ((mFree (s.xs.map CLock.abs) t who).2.1).val, vi (mFree (s.xs.map CLock.abs) t who).2.2]) ∧ y.xs.map CLock.abs = (mFree (s.xs.map CLock.abs) t who).1 ∧ FreshS w w' y := by
 have oks := Sl.rd.ok hs
 have ncs := Sl.ok.nc oks
 have hns : s.n = s.xs.length := rfl
 refine M0 ?_ Try.func26
 by_cases h1 : mAsk (s.xs.map CLock.abs) t who = 0
 rotate_left
 · refine Mp ?_ Try.call63 (fun bs w hS => (lock_begin s t who w (Sl.rd.kp hs hS.kp) (by first | assumption | omega | (simp only [emp_size]; omega))).mono (fun e w' h => (h.resolve_right (fun h9 => h1 h9.1)).2))
   refine My false true ?_ (df h1)
   refine Mt [vn, vz 0, vi (mAsk (s.xs.map CLock.abs) t who)] fun bs w hS => ?_
   have hm : mFree (s.xs.map CLock.abs) t who = ([], zRep, mAsk (s.xs.map CLock.abs) t who) := by
     grind [mFree]
   refine ⟨Sl.nil, ?_, ?_, hS.outS (Sl.rd_nil _ _)⟩
   · rw [hm] <;> rfl
   · rw [hm] <;> rfl
 refine Mf ?_ Try.call63 (fun bs w hS => (lock_begin s t who w (Sl.rd.kp hs hS.kp) (by first | assumption | omega | (simp only [emp_size]; omega))).mono (fun e w' h => (h.resolve_left (fun h9 => h9.1 h1)).2))
 rintro y1 hF1
 refine m_split2 ?_
 obtain ⟨A1, c1, S1⟩ := y1
 have hF1 : S1.map CLock.abs = s.xs.map CLock.abs := hF1
 refine m_perm (R' := [ownL (lineR 3) S1, rowA 94 A1 c1 (S1 : List CLock)]) (List.Perm.refl _) ?_
 have hnm1 := locks_names (y := (⟨A1, c1, S1⟩ : Sl CLock)) hs hF1
 have hlen1 : S1.length = s.xs.length := by simpa using congrArg List.length hF1
 refine m_know (F := ∀ i, i < S1.length → Rds.ok (S1.getD i default)) (fun bs w hS i hi => Rds.okof (B := anyB) (w := w) (own_eltL (hS.res _ i0) hnm1 (mem_of_getD hi))) fun okown1 => ?_
 refine m_know (F := RowOk A1 c1 (S1 : List CLock)) (fun bs w hS => rowA_rok (hS.res _ i1)) fun hrow1 => ?_
 have nchrow1 := hrow1.2
 have hask := mAsk_ok h1
 have hm1 : mLocks (S1.map CLock.abs) = 0 := by rw [hF1]; exact hask.1
 have hw1 := hask.2.2.1
 have hw2 := hask.2.2.2
 have hln5 : S1.length ≤ 5 := by have h9 := (mLocks_bd hm1).1; simpa using h9
 have hbsS : mBS (fun x : CLock => cmpS x.name t) s.xs = mBS (fun x : CLock => cmpS x.name t) S1 := mBS_abs (L := s.xs) (L2 := S1) (f := CLock.abs) (c := fun x : DLock => cmpS x.name t) rfl hF1.symm
 have hbfS : mBSf (fun x : CLock => cmpS x.name t) s.xs = mBSf (fun x : CLock => cmpS x.name t) S1 := mBSf_abs (L := s.xs) (L2 := S1) (f := CLock.abs) (c := fun x : DLock => cmpS x.name t) rfl hF1.symm
 rw [hbsS, hbfS]
 have hbs := bsf_lock (L := S1) hm1 t
 have hJb := mIdx_bd (fun x : DLock => decide (x.name = t)) (S1.map CLock.abs)
 rw [List.length_map] at hJb
 generalize hJ : mIdx (fun x : DLock => decide (x.name = t)) (S1.map CLock.abs) = J at hbs hJb
 have hkl := mBS_le (fun x : CLock => cmpS x.name t) S1
 generalize hk : mBS (fun x : CLock => cmpS x.name t) S1 = k at hbs hkl ⊢
 generalize hf : mBSf (fun x : CLock => cmpS x.name t) S1 = fb at hbs ⊢
 refine Mq 24 false ?_ rfl
 refine Mbn fb (fun h2 => ?_) fun h2 => ?_
 rotate_left
 · have h0J := of_decide_eq_false (hbs.1.symm.trans h2)
   refine Mt [.slice A1 S1.length c1, vz 6, vi 0] fun bs w hS => ?_
   have hask0 : mAsk (S1.map CLock.abs) t who = 0 := by rw [hF1]; assumption
   rw [← hF1]
   have hq1 : (S1.getD k default).abs.holder = (S1.getD k default).holder := rfl
   have hq2 : (S1.getD k default).abs.fence = (S1.getD k default).fence := rfl
   have hq3 : (S1.getD k default).abs.line = (S1.getD k default).line.xs := rfl
   have hq4 : (S1.getD k default).abs.name = (S1.getD k default).name := rfl
   have hm : mFree (S1.map CLock.abs) t who = (S1.map CLock.abs, ⟨6, 0, emp⟩, 0) := by
     grind [mFree, lIdx]
   refine ⟨⟨A1, c1, S1⟩, ?_, ?_, hS.outS (y := (⟨A1, c1, S1⟩ : Sl CLock)) (out_locksG i1 hS.res (fun x hx => ?_))⟩
   · rw [hm] <;> rfl
   · exact (congrArg Prod.fst hm).symm
   · exact ⟨hnm1 x hx, own_inL i0 hS.res hx⟩
 have hkJ := hbs.2 h2
 subst hkJ
 have hk5 := lock_all hm1 (k := k) (by omega)
 obtain ⟨hk51, hk52, hk53, hk54, hk55, hk56⟩ := hk5
 have hk7 : (S1.getD k default).line.n = (S1.getD k default).line.xs.length := rfl
 refine Mi ?_ (pc (pIo 33 (k : Int) k S1.length i1) (pFo 37 k 3 1 i1))
 refine Mp ?_ Try.call71 (fun bs w hS => idx_ints (S1.getD k default).line (S1.getD k default).line.n who w (own_eltL (hS.res _ i0) hnm1 (mem_of_getD (i := k) (by omega))).2 (by omega))
 have hix : mIdx (fun z => decide (z = who)) ((S1.getD k default).line.xs.take (S1.getD k default).line.n) = mIdx (fun z => decide (z = who)) (S1.getD k default).line.xs := by rw [take_all (Nat.le_refl _)]
 rw [hix]
 have hIb := mIdx_bd (fun z => decide (z = who)) (S1.getD k default).line.xs
 generalize hI : mIdx (fun z => decide (z = who)) (S1.getD k default).line.xs = I at hIb ⊢
 refine Mi ?_ (pFo 50 k 1 1 i1)
 refine Md ((S1.getD k default).holder = who) (fun h3 => ?_) fun h3 => ?_
 · refine m_f1 ?_
   refine Mtu ?_ Try.call72 (fun bs w hS => lock_pass (B := (· ∈ (lineR 3 (S1.getD k default)).fp)) A1 c1 S1 k w (hS.res _ i0) hS.head1.2.2 (by omega) ⟨hnm1 _ (mem_of_getD (L := S1) (by omega)), Rr (hS.res _ i1 (S1.getD k default) (mem_of_getD (L := S1) (by omega))) (fun b hb => hb) (fun _ _ => trivial)⟩ (fun b hb => hS.disj (r2 := ownL (lineR 3) S1) i0 b (List.mem_flatMap.2 ⟨(S1.getD k default), mem_of_getD (L := S1) (by omega), hb⟩)) ⟨by omega, by omega⟩)
   rintro _ _
   obtain ⟨L4, hL4⟩ : ∃ M : List CLock, M = S1.set k (passC (S1.getD k default)) := ⟨_, rfl⟩
   rw [← hL4]
   have hlL4 : L4.length = S1.length := by rw [hL4, List.length_set]
   have hgL4 : L4.getD k default = passC (S1.getD k default) := by rw [hL4]; exact getD_set (by omega)
   refine Mda 9 [] [0] [rowA 94 A1 c1 (L4 : List CLock), ownL (lineR 3) S1] Try_mixed ?_
   refine Mih ?_ (pFk 73 k 1 1 hgL4 i0)
   refine Mz ?_
   refine Mt [.slice A1 S1.length c1, .agg #[vi 0, vi (passC (S1.getD k default)).holder, ve], vi 0] fun bs w hS => ?_
   have hask0 : mAsk (S1.map CLock.abs) t who = 0 := by rw [hF1]; assumption
   rw [← hF1]
   have hq1 : (S1.getD k default).abs.holder = (S1.getD k default).holder := rfl
   have hq2 : (S1.getD k default).abs.fence = (S1.getD k default).fence := rfl
   have hq3 : (S1.getD k default).abs.line = (S1.getD k default).line.xs := rfl
   have hq4 : (S1.getD k default).abs.name = (S1.getD k default).name := rfl
   have hvx := setL_map hL4
   have hpa := passC_abs (S1.getD k default)
   rw [hpa] at hvx
   have hlt : lFree (S1.getD k default).abs who = ((mPass (S1.getD k default).abs), ⟨0, (passC (S1.getD k default)).holder, emp⟩) := by
     unfold lFree
     simp only [hq1, hq2, hq3, hq4]
     repeat (first | rw [if_pos (by first | assumption | omega)] | rw [if_neg (by first | assumption | omega | (rw [hlh]; simp; done) | (intro h0; simp_all; done))])
     all_goals first | rfl | exact congrArg (fun h : Int => (mPass (S1.getD k default).abs, (⟨0, h, emp⟩ : DReply))) (congrArg DLock.holder hpa).symm
   have hm : mFree (S1.map CLock.abs) t who = ((S1.map CLock.abs).set k (mPass (S1.getD k default).abs), ⟨0, (passC (S1.getD k default)).holder, emp⟩, 0) := by
     unfold mFree lIdx
     simp only [hJ, Int.toNat_natCast, lgetD, List.length_map]
     rw [hlt]
     repeat (first | rw [if_pos (by first | assumption | omega)] | rw [if_neg (by first | assumption | omega | (intro h0; first | exact absurd h0 (by assumption) | (simp_all; done)))])
     all_goals rfl
   refine ⟨⟨A1, c1, L4⟩, ?_, ?_, hS.outS (y := (⟨A1, c1, L4⟩ : Sl CLock)) (out_locksG i0 hS.res (fun x hx => ?_))⟩
   · have hll : S1.length = L4.length := by rw [hL4, List.length_set]
     rw [hm]
     exact congrArg (fun q => Ending.returned (.tuple #[.slice A1 q c1, .agg #[vi 0, vi (passC (S1.getD k default)).holder, ve], vi 0])) hll
   · exact Eq.trans hvx (congrArg Prod.fst hm).symm
   · rw [hL4] at hx
     rcases mem_set hx with hx | hx
     · subst hx; have hP := passC_in i1 hS.res (x := (S1.getD k default)) (mem_of_getD (L := S1) (i := k) (by omega)); exact ⟨by rw [hP.1]; exact hnm1 (S1.getD k default) (mem_of_getD (L := S1) (i := k) (by omega)), hP.2⟩
     · exact ⟨hnm1 x hx, own_inL i1 hS.res hx⟩
 refine Md ((0 : Int) ≤ I) (fun h4 => ?_) fun h4 => ?_
 rotate_left
 · refine Mda 9 [] [0] [ownL (lineR 3) S1, rowA 94 A1 c1 (S1 : List CLock)] Try_mixed ?_
   refine Mih ?_ (pFo 44 k 1 1 i1)
   refine Mz ?_
   refine Mt [.slice A1 S1.length c1, .agg #[vi 10, vi (S1.getD k default).holder, ve], vi 0] fun bs w hS => ?_
   have hask0 : mAsk (S1.map CLock.abs) t who = 0 := by rw [hF1]; assumption
   rw [← hF1]
   have hq1 : (S1.getD k default).abs.holder = (S1.getD k default).holder := rfl
   have hq2 : (S1.getD k default).abs.fence = (S1.getD k default).fence := rfl
   have hq3 : (S1.getD k default).abs.line = (S1.getD k default).line.xs := rfl
   have hq4 : (S1.getD k default).abs.name = (S1.getD k default).name := rfl
   have hlh : lHas (S1.getD k default).abs who = false := by rw [has_idx]; show decide (0 ≤ mIdx _ (S1.getD k default).line.xs) = _; rw [hI]; exact decide_eq_false h4
   have hlt : lFree (S1.getD k default).abs who = ((S1.getD k default).abs, ⟨10, (S1.getD k default).holder, emp⟩) := by
     grind [lFree]
   have hm : mFree (S1.map CLock.abs) t who = (S1.map CLock.abs, ⟨10, (S1.getD k default).holder, emp⟩, 0) := by
     unfold mFree lIdx
     simp only [hJ, Int.toNat_natCast, lgetD, List.length_map]
     rw [hlt]
     repeat (first | rw [if_pos (by first | assumption | omega)] | rw [if_neg (by first | assumption | omega | (intro h0; first | exact absurd h0 (by assumption) | (simp_all; done)))])
     all_goals (show ((S1.map CLock.abs).set k (S1.getD k default).abs, _, _) = _; rw [← lgetD, set_getD (by rw [List.length_map]; omega)])
   refine ⟨⟨A1, c1, S1⟩, ?_, ?_, hS.outS (y := (⟨A1, c1, S1⟩ : Sl CLock)) (out_locksG i1 hS.res (fun x hx => ?_))⟩
   · rw [hm] <;> rfl
   · exact (congrArg Prod.fst hm).symm
   · exact ⟨hnm1 x hx, own_inL i0 hS.res hx⟩
 refine m_part2 (rowA 3 (S1.getD k default).line.A (S1.getD k default).line.c ((S1.getD k default).line.xs : List Int)) (ownL (lineR 3) (List.eraseIdx S1 k)) (ownL_get_fp (lineR 3) (i := k) (by omega)) (fun w h => ownL_get_p (lineR 3) (i := k) (by omega) w h) ?_
 refine Mi ?_ (pc (pFo 62 k 3 1 i2) (pR (I + 1)))
 refine Mtu ?_ (σ := Unit) (v := fun _ => .slice (S1.getD k default).line.A ((S1.getD k default).line.xs.take I.toNat ++ (S1.getD k default).line.xs.drop (I.toNat + 1)).length (S1.getD k default).line.c) (F := fun _ => True) (r := fun _ => rowA 3 (S1.getD k default).line.A (S1.getD k default).line.c ((S1.getD k default).line.xs.take I.toNat ++ (S1.getD k default).line.xs.drop (I.toNat + 1) : List Int)) (vs := fun bs => [.slice (S1.getD k default).line.A (S1.getD k default).line.n (S1.getD k default).line.c, vi I, vi (I + 1)]) Try.call73 (fun bs w hS => (delR_Int (S1.getD k default).line.A (S1.getD k default).line.c (S1.getD k default).line.xs I.toNat (I.toNat + 1) _ _ w (hS.res _ i0) hS.head1.2.2 (by omega) (by omega) (by first | omega | (simp only [Sl.n] at *; omega)) (by first | omega | (simp only [Sl.n] at *; omega))).mono (fun e w' ⟨h1, h2⟩ => ⟨(), h1, trivial, h2⟩))
 rintro _ _
 refine m_f2 ?_
 refine Ms k 3 (⟨(S1.getD k default).name, (S1.getD k default).holder, (S1.getD k default).fence, ⟨(S1.getD k default).line.A, (S1.getD k default).line.c, (S1.getD k default).line.xs.take I.toNat ++ (S1.getD k default).line.xs.drop (I.toNat + 1)⟩⟩ : CLock) ?_ (by omega)
 intro L6 hL6 hlL6
 have hgL6 : L6.getD k default = (⟨(S1.getD k default).name, (S1.getD k default).holder, (S1.getD k default).fence, ⟨(S1.getD k default).line.A, (S1.getD k default).line.c, (S1.getD k default).line.xs.take I.toNat ++ (S1.getD k default).line.xs.drop (I.toNat + 1)⟩⟩ : CLock) := by rw [hL6]; exact getD_set (by omega)
 have hbL6 : L6 = List.set S1 k (⟨(S1.getD k default).name, (S1.getD k default).holder, (S1.getD k default).fence, ⟨(S1.getD k default).line.A, (S1.getD k default).line.c, (S1.getD k default).line.xs.take I.toNat ++ (S1.getD k default).line.xs.drop (I.toNat + 1)⟩⟩ : CLock) := by rw [hL6]
 refine Mda 9 [] [0] [rowA 94 A1 c1 (L6 : List CLock), rowA 3 (S1.getD k default).line.A (S1.getD k default).line.c ((S1.getD k default).line.xs.take I.toNat ++ (S1.getD k default).line.xs.drop (I.toNat + 1) : List Int), ownL (lineR 3) (List.eraseIdx S1 k)] Try_mixed ?_
 refine Mih ?_ (pFk 73 k 1 1 hgL6 i0)
 refine Mz ?_
 refine Mt [.slice A1 S1.length c1, .agg #[vi 0, vi (S1.getD k default).holder, ve], vi 0] fun bs w hS => ?_
 have hask0 : mAsk (S1.map CLock.abs) t who = 0 := by rw [hF1]; assumption
 rw [← hF1]
 have hq1 : (S1.getD k default).abs.holder = (S1.getD k default).holder := rfl
 have hq2 : (S1.getD k default).abs.fence = (S1.getD k default).fence := rfl
 have hq3 : (S1.getD k default).abs.line = (S1.getD k default).line.xs := rfl
 have hq4 : (S1.getD k default).abs.name = (S1.getD k default).name := rfl
 have hvx := setL_map hbL6
 have hlh : lHas (S1.getD k default).abs who = true := by rw [has_idx]; show decide (0 ≤ mIdx _ (S1.getD k default).line.xs) = _; rw [hI]; exact decide_eq_true h4
 have hul : (S1.getD k default).line.xs.take I.toNat ++ (S1.getD k default).line.xs.drop (I.toNat + 1) = unline (S1.getD k default).line.xs who := line_one' (d := (S1.getD k default).abs) hk53 (i := I.toNat) (by show mIdx _ (S1.getD k default).line.xs = _; rw [hI]; omega) rfl
 rw [show ((⟨(S1.getD k default).name, (S1.getD k default).holder, (S1.getD k default).fence, ⟨(S1.getD k default).line.A, (S1.getD k default).line.c, (S1.getD k default).line.xs.take I.toNat ++ (S1.getD k default).line.xs.drop (I.toNat + 1)⟩⟩ : CLock)).abs = (⟨(S1.getD k default).name, (S1.getD k default).holder, (S1.getD k default).fence, unline (S1.getD k default).line.xs who⟩ : DLock) from congrArg (fun l => (⟨(S1.getD k default).name, (S1.getD k default).holder, (S1.getD k default).fence, l⟩ : DLock)) hul] at hvx
 have hlt : lFree (S1.getD k default).abs who = (⟨(S1.getD k default).name, (S1.getD k default).holder, (S1.getD k default).fence, unline (S1.getD k default).line.xs who⟩, ⟨0, (S1.getD k default).holder, emp⟩) := by
   grind [lFree]
 have hm : mFree (S1.map CLock.abs) t who = ((S1.map CLock.abs).set k ⟨(S1.getD k default).name, (S1.getD k default).holder, (S1.getD k default).fence, unline (S1.getD k default).line.xs who⟩, ⟨0, (S1.getD k default).holder, emp⟩, 0) := by
   unfold mFree lIdx
   simp only [hJ, Int.toNat_natCast, lgetD, List.length_map]
   rw [hlt]
   repeat (first | rw [if_pos (by first | assumption | omega)] | rw [if_neg (by first | assumption | omega | (intro h0; first | exact absurd h0 (by assumption) | (simp_all; done)))])
   all_goals rfl
 refine ⟨⟨A1, c1, L6⟩, ?_, ?_, hS.outS (y := (⟨A1, c1, L6⟩ : Sl CLock)) (out_locksG i0 hS.res (fun x hx => ?_))⟩
 · have hll : S1.length = L6.length := by rw [hbL6, List.length_set]
   rw [hm]
   exact congrArg (fun q => Ending.returned (.tuple #[.slice A1 q c1, .agg #[vi 0, vi (S1.getD k default).holder, ve], vi 0])) hll
 · exact Eq.trans hvx (congrArg Prod.fst hm).symm
 · rw [hbL6] at hx
   rcases mem_set_ne hx with hx | hx
   · subst hx; exact ⟨hnm1 (S1.getD k default) (mem_of_getD (L := S1) (i := k) (by omega)), allR_row i1 (hS.res _ i1) (fun _ _ => trivial)⟩
   · exact ⟨hnm1 x (List.mem_of_mem_eraseIdx hx), own_inL i2 hS.res hx⟩

theorem ref_FreedOf {B : Nat → Prop} (s : Sl CLock) (t : ByteArray) (who : Int) (w : World) (hs : s.rd B w) (ht : t.size ≤ 9223372036854775807) : Calls Try.prog 27 #[s.val, vs t, vi who] w fun e w' => ∃ y : Sl CLock, e = .returned (.tuple #[y.val, ((mFree (s.xs.map CLock.abs) t who).2.1).val, vi (mFree (s.xs.map CLock.abs) t who).2.2]) ∧ y.xs.map CLock.abs = (mFree (s.xs.map CLock.abs) t who).1 ∧ FreshS w w' y := by
 have oks := Sl.rd.ok hs
 have ncs := Sl.ok.nc oks
 have hns : s.n = s.xs.length := rfl
 refine M0 ?_ Try.func27
 refine Mp ?_ Try.call66 (fun bs w hS => ref_asked s t who w (Sl.rd.kp hs hS.kp) (by first | assumption | omega | (simp only [emp_size]; omega)))
 refine Mdn (mAsk (s.xs.map CLock.abs) t who = 0) (fun h1 => ?_) fun h1 => ?_
 rotate_left
 · refine Mt [vn, vz 0, vi (mAsk (s.xs.map CLock.abs) t who)] fun bs w hS => ?_
   have hm : mFree (s.xs.map CLock.abs) t who = ([], zRep, mAsk (s.xs.map CLock.abs) t who) := by
     grind [mFree]
   refine ⟨Sl.nil, ?_, ?_, hS.outS (Sl.rd_nil _ _)⟩
   · rw [hm] <;> rfl
   · rw [hm] <;> rfl
 refine Mf ?_ Try.call22 (fun bs w hS => ref_LocksCopy s w (Sl.rd.kp hs hS.kp) (small_locks (mAsk_ok (by assumption)).1))
 rintro y1 hF1
 refine m_split2 ?_
 obtain ⟨A1, c1, S1⟩ := y1
 have hF1 : S1.map CLock.abs = s.xs.map CLock.abs := hF1
 refine m_perm (R' := [ownL (lineR 3) S1, rowA 94 A1 c1 (S1 : List CLock)]) (List.Perm.refl _) ?_
 have hnm1 := locks_names (y := (⟨A1, c1, S1⟩ : Sl CLock)) (hs) hF1
 have hlen1 : S1.length = s.xs.length := by simpa using congrArg List.length hF1
 refine m_know (F := ∀ i, i < S1.length → Rds.ok (S1.getD i default)) (fun bs w hS i hi => Rds.okof (B := anyB) (w := w) (own_eltL (hS.res _ i0) hnm1 (mem_of_getD hi))) fun okown1 => ?_
 refine m_know (F := RowOk A1 c1 (S1 : List CLock)) (fun bs w hS => rowA_rok (hS.res _ i1)) fun hrow1 => ?_
 have nchrow1 := hrow1.2
 have hask := mAsk_ok h1
 have hm1 : mLocks (S1.map CLock.abs) = 0 := by rw [hF1]; exact hask.1
 have hw1 := hask.2.2.1
 have hw2 := hask.2.2.2
 have hln5 : S1.length ≤ 5 := by have h9 := (mLocks_bd hm1).1; simpa using h9
 refine Mp ?_ Try.call67 (fun bs w hS => tackroomref_lockAt (⟨A1, c1, S1⟩ : Sl CLock) t w (own_locks (hS.res _ i0) (hS.res _ i1) hnm1))
 have hJe : mIdx (fun x : CLock => decide (x.name = t)) S1 = mIdx (fun x : DLock => decide (x.name = t)) (S1.map CLock.abs) := mIdx_map CLock.abs (fun x : DLock => decide (x.name = t)) S1
 rw [hJe]
 have hJb := mIdx_bd (fun x : DLock => decide (x.name = t)) (S1.map CLock.abs)
 generalize hJ : mIdx (fun x : DLock => decide (x.name = t)) (S1.map CLock.abs) = J at hJb ⊢
 rw [List.length_map] at hJb
 refine Md (J < 0) (fun h2 => ?_) fun h2 => ?_
 · have h0J : ¬ 0 ≤ J := by omega
   refine Mt [.slice A1 S1.length c1, vz 6, vi 0] fun bs w hS => ?_
   have hask0 : mAsk (S1.map CLock.abs) t who = 0 := by rw [hF1]; assumption
   rw [← hF1]
   have hq1 : (S1.getD J.toNat default).abs.holder = (S1.getD J.toNat default).holder := rfl
   have hq2 : (S1.getD J.toNat default).abs.fence = (S1.getD J.toNat default).fence := rfl
   have hq3 : (S1.getD J.toNat default).abs.line = (S1.getD J.toNat default).line.xs := rfl
   have hq4 : (S1.getD J.toNat default).abs.name = (S1.getD J.toNat default).name := rfl
   have hm : mFree (S1.map CLock.abs) t who = (S1.map CLock.abs, ⟨6, 0, emp⟩, 0) := by
     grind [mFree, lIdx]
   refine ⟨⟨A1, c1, S1⟩, ?_, ?_, hS.outS (y := (⟨A1, c1, S1⟩ : Sl CLock)) (out_locksG i1 hS.res (fun x hx => ?_))⟩
   · rw [hm] <;> rfl
   · exact (congrArg Prod.fst hm).symm
   · exact ⟨hnm1 x hx, own_inL i0 hS.res hx⟩
 have h0J : 0 ≤ J := by omega
 have hk5 := lock_all hm1 (k := J.toNat) (by omega)
 obtain ⟨hk51, hk52, hk53, hk54, hk55, hk56⟩ := hk5
 have hk7 : (S1.getD J.toNat default).line.n = (S1.getD J.toNat default).line.xs.length := rfl
 refine Mi ?_ (pc (pIo 31 J J.toNat S1.length i1) (pFo 33 J.toNat 1 1 i1))
 refine Md ((S1.getD J.toNat default).holder = who) (fun h3 => ?_) fun h3 => ?_
 · refine Mi ?_ (pc (pIo 40 J J.toNat S1.length i1) (pEo 41 J.toNat i1))
   refine Mu ?_ Try.call74 (fun bs w hS => ref_passed (S1.getD J.toNat default) w (own_eltL (hS.res _ i0) hnm1 (mem_of_getD (i := J.toNat) (by omega))) ⟨by omega, by omega⟩ (by omega))
   rintro fp3 y3 hF3 hok3
   refine Mi ?_ (pIo 43 J J.toNat S1.length i2)
   refine m_f2 ?_
   refine Ms J.toNat 0 (⟨y3.name, y3.holder, y3.fence, y3.line⟩ : CLock) ?_ (by omega)
   intro L4 hL4 hlL4
   have hgL4 : L4.getD J.toNat default = (⟨y3.name, y3.holder, y3.fence, y3.line⟩ : CLock) := by rw [hL4]; exact getD_set (by omega)
   have hbL4 : L4 = List.set S1 J.toNat (⟨y3.name, y3.holder, y3.fence, y3.line⟩ : CLock) := by rw [hL4]
   refine Mda 10 [] [0] [rowA 94 A1 c1 (L4 : List CLock), subR fp3 y3, ownL (lineR 3) S1] Try_mixed ?_
   refine Mih ?_ (pc (pIo 72 J J.toNat S1.length i0) (pFk 74 J.toNat 1 1 hgL4 i0))
   refine Mz ?_
   refine Mt [.slice A1 S1.length c1, .agg #[vi 0, vi y3.holder, ve], vi 0] fun bs w hS => ?_
   have hask0 : mAsk (S1.map CLock.abs) t who = 0 := by rw [hF1]; assumption
   rw [← hF1]
   have hq1 : (S1.getD J.toNat default).abs.holder = (S1.getD J.toNat default).holder := rfl
   have hq2 : (S1.getD J.toNat default).abs.fence = (S1.getD J.toNat default).fence := rfl
   have hq3 : (S1.getD J.toNat default).abs.line = (S1.getD J.toNat default).line.xs := rfl
   have hq4 : (S1.getD J.toNat default).abs.name = (S1.getD J.toNat default).name := rfl
   have hvx := setL_map hbL4
   rw [show ((⟨y3.name, y3.holder, y3.fence, y3.line⟩ : CLock)).abs = mPass (S1.getD J.toNat default).abs from hF3] at hvx
   have hpa := hF3
   have hlt : lFree (S1.getD J.toNat default).abs who = ((mPass (S1.getD J.toNat default).abs), ⟨0, y3.holder, emp⟩) := by
     unfold lFree
     simp only [hq1, hq2, hq3, hq4]
     repeat (first | rw [if_pos (by first | assumption | omega)] | rw [if_neg (by first | assumption | omega | (rw [hlh]; simp; done) | (intro h0; simp_all; done))])
     all_goals first | rfl | exact congrArg (fun h : Int => (mPass (S1.getD J.toNat default).abs, (⟨0, h, emp⟩ : DReply))) (congrArg DLock.holder hpa).symm
   have hm : mFree (S1.map CLock.abs) t who = ((S1.map CLock.abs).set J.toNat (mPass (S1.getD J.toNat default).abs), ⟨0, y3.holder, emp⟩, 0) := by
     unfold mFree lIdx
     simp only [hJ, lgetD, List.length_map]
     rw [hlt]
     repeat (first | rw [if_pos (by first | assumption | omega)] | rw [if_neg (by first | assumption | omega | (intro h0; first | exact absurd h0 (by assumption) | (simp_all; done)))])
     all_goals rfl
   refine ⟨⟨A1, c1, L4⟩, ?_, ?_, hS.outS (y := (⟨A1, c1, L4⟩ : Sl CLock)) (out_locksG i0 hS.res (fun x hx => ?_))⟩
   · have hll : S1.length = L4.length := by rw [hbL4, List.length_set]
     rw [hm]
     exact congrArg (fun q => Ending.returned (.tuple #[.slice A1 q c1, .agg #[vi 0, vi y3.holder, ve], vi 0])) hll
   · exact Eq.trans hvx (congrArg Prod.fst hm).symm
   · rw [hbL4] at hx
     rcases mem_set hx with hx | hx
     · subst hx; exact allR_sub (y := y3) i1 (hS.res _ i1)
     · exact ⟨hnm1 x hx, own_inL i2 hS.res hx⟩
 refine Mi ?_ (pc (pIo 46 J J.toNat S1.length i1) (pFo 48 J.toNat 3 1 i1))
 refine Mp ?_ Try.call69 (fun bs w hS => ref_has (S1.getD J.toNat default).line (S1.getD J.toNat default).line.n who w (own_eltL (hS.res _ i0) hnm1 (mem_of_getD (i := J.toNat) (by omega))).2 (by omega))
 have hlh : (((S1.getD J.toNat default).line.xs.take (S1.getD J.toNat default).line.n).any fun z => decide (z = who)) = lHas (S1.getD J.toNat default).abs who := by rw [take_all (Nat.le_refl _)]; rfl
 rw [hlh]
 refine Mb (lHas (S1.getD J.toNat default).abs who) (fun h4 => ?_) fun h4 => ?_
 rotate_left
 · refine Mda 10 [] [0] [ownL (lineR 3) S1, rowA 94 A1 c1 (S1 : List CLock)] Try_mixed ?_
   refine Mih ?_ (pc (pIo 65 J J.toNat S1.length i1) (pFo 67 J.toNat 1 1 i1))
   refine Mz ?_
   refine Mt [.slice A1 S1.length c1, .agg #[vi 10, vi (S1.getD J.toNat default).holder, ve], vi 0] fun bs w hS => ?_
   have hask0 : mAsk (S1.map CLock.abs) t who = 0 := by rw [hF1]; assumption
   rw [← hF1]
   have hq1 : (S1.getD J.toNat default).abs.holder = (S1.getD J.toNat default).holder := rfl
   have hq2 : (S1.getD J.toNat default).abs.fence = (S1.getD J.toNat default).fence := rfl
   have hq3 : (S1.getD J.toNat default).abs.line = (S1.getD J.toNat default).line.xs := rfl
   have hq4 : (S1.getD J.toNat default).abs.name = (S1.getD J.toNat default).name := rfl
   have hlt : lFree (S1.getD J.toNat default).abs who = ((S1.getD J.toNat default).abs, ⟨10, (S1.getD J.toNat default).holder, emp⟩) := by
     grind [lFree]
   have hm : mFree (S1.map CLock.abs) t who = (S1.map CLock.abs, ⟨10, (S1.getD J.toNat default).holder, emp⟩, 0) := by
     unfold mFree lIdx
     simp only [hJ, lgetD, List.length_map]
     rw [hlt]
     repeat (first | rw [if_pos (by first | assumption | omega)] | rw [if_neg (by first | assumption | omega | (intro h0; first | exact absurd h0 (by assumption) | (simp_all; done)))])
     all_goals (show ((S1.map CLock.abs).set J.toNat (S1.getD J.toNat default).abs, _, _) = _; rw [← lgetD, set_getD (by rw [List.length_map]; omega)])
   refine ⟨⟨A1, c1, S1⟩, ?_, ?_, hS.outS (y := (⟨A1, c1, S1⟩ : Sl CLock)) (out_locksG i1 hS.res (fun x hx => ?_))⟩
   · rw [hm] <;> rfl
   · exact (congrArg Prod.fst hm).symm
   · exact ⟨hnm1 x hx, own_inL i0 hS.res hx⟩
 refine Mi ?_ (pc (pIo 55 J J.toNat S1.length i1) (pFo 57 J.toNat 3 1 i1))
 refine Mu ?_ Try.call75 (fun bs w hS => ref_unlined (S1.getD J.toNat default).line who w (own_eltL (hS.res _ i0) hnm1 (mem_of_getD (i := J.toNat) (by omega))).2 (by omega))
 rintro fp5 y5 hF5 hok5
 refine Mi ?_ (pIo 60 J J.toNat S1.length i2)
 refine m_f2 ?_
 refine Ms J.toNat 3 (⟨(S1.getD J.toNat default).name, (S1.getD J.toNat default).holder, (S1.getD J.toNat default).fence, y5⟩ : CLock) ?_ (by omega)
 intro L6 hL6 hlL6
 have hgL6 : L6.getD J.toNat default = (⟨(S1.getD J.toNat default).name, (S1.getD J.toNat default).holder, (S1.getD J.toNat default).fence, y5⟩ : CLock) := by rw [hL6]; exact getD_set (by omega)
 have hbL6 : L6 = List.set S1 J.toNat (⟨(S1.getD J.toNat default).name, (S1.getD J.toNat default).holder, (S1.getD J.toNat default).fence, y5⟩ : CLock) := by rw [hL6]
 refine Mda 10 [] [0] [rowA 94 A1 c1 (L6 : List CLock), subR fp5 y5, ownL (lineR 3) S1] Try_mixed ?_
 refine Mih ?_ (pc (pIo 72 J J.toNat S1.length i0) (pFk 74 J.toNat 1 1 hgL6 i0))
 refine Mz ?_
 refine Mt [.slice A1 S1.length c1, .agg #[vi 0, vi (S1.getD J.toNat default).holder, ve], vi 0] fun bs w hS => ?_
 have hask0 : mAsk (S1.map CLock.abs) t who = 0 := by rw [hF1]; assumption
 rw [← hF1]
 have hq1 : (S1.getD J.toNat default).abs.holder = (S1.getD J.toNat default).holder := rfl
 have hq2 : (S1.getD J.toNat default).abs.fence = (S1.getD J.toNat default).fence := rfl
 have hq3 : (S1.getD J.toNat default).abs.line = (S1.getD J.toNat default).line.xs := rfl
 have hq4 : (S1.getD J.toNat default).abs.name = (S1.getD J.toNat default).name := rfl
 have hvx := setL_map hbL6
 rw [show ((⟨(S1.getD J.toNat default).name, (S1.getD J.toNat default).holder, (S1.getD J.toNat default).fence, y5⟩ : CLock)).abs = ⟨(S1.getD J.toNat default).name, (S1.getD J.toNat default).holder, (S1.getD J.toNat default).fence, unline (S1.getD J.toNat default).line.xs who⟩ from congrArg (fun l => (⟨(S1.getD J.toNat default).name, (S1.getD J.toNat default).holder, (S1.getD J.toNat default).fence, l⟩ : DLock)) hF5] at hvx
 have hlt : lFree (S1.getD J.toNat default).abs who = (⟨(S1.getD J.toNat default).name, (S1.getD J.toNat default).holder, (S1.getD J.toNat default).fence, unline (S1.getD J.toNat default).line.xs who⟩, ⟨0, (S1.getD J.toNat default).holder, emp⟩) := by
   grind [lFree]
 have hm : mFree (S1.map CLock.abs) t who = ((S1.map CLock.abs).set J.toNat ⟨(S1.getD J.toNat default).name, (S1.getD J.toNat default).holder, (S1.getD J.toNat default).fence, unline (S1.getD J.toNat default).line.xs who⟩, ⟨0, (S1.getD J.toNat default).holder, emp⟩, 0) := by
   unfold mFree lIdx
   simp only [hJ, lgetD, List.length_map]
   rw [hlt]
   repeat (first | rw [if_pos (by first | assumption | omega)] | rw [if_neg (by first | assumption | omega | (intro h0; first | exact absurd h0 (by assumption) | (simp_all; done)))])
   all_goals rfl
 refine ⟨⟨A1, c1, L6⟩, ?_, ?_, hS.outS (y := (⟨A1, c1, L6⟩ : Sl CLock)) (out_locksG i0 hS.res (fun x hx => ?_))⟩
 · have hll : S1.length = L6.length := by rw [hbL6, List.length_set]
   rw [hm]
   exact congrArg (fun q => Ending.returned (.tuple #[.slice A1 q c1, .agg #[vi 0, vi (S1.getD J.toNat default).holder, ve], vi 0])) hll
 · exact Eq.trans hvx (congrArg Prod.fst hm).symm
 · rw [hbL6] at hx
   rcases mem_set hx with hx | hx
   · subst hx; exact ⟨hnm1 (S1.getD J.toNat default) (mem_of_getD (L := S1) (i := J.toNat) (by omega)), allR_sub (y := y5) i1 (hS.res _ i1)⟩
   · exact ⟨hnm1 x hx, own_inL i2 hS.res hx⟩

theorem law_LockFrees {B : Nat → Prop} (s : Sl CLock) (t : ByteArray) (who : Int) (w : World) (hs : s.rd B w) (ht : t.size ≤ 9223372036854775807) (hsm : Rds.small s) : Calls Try.prog 7 #[s.val, vs t, vi who] w fun e w' => e = .returned (vb true) ∧ Kp [] w w' := by
 have oks := Sl.rd.ok hs
 have ncs := Sl.ok.nc oks
 have hns : s.n = s.xs.length := rfl
 refine M0 ?_ Try.func7
 refine Mu ?_ Try.call22 (fun bs w hS => ref_LocksCopyS s w (Sl.rd.kp hs hS.kp) hsm)
 rintro fp1 y1 hF1 hok1
 refine Mu ?_ Try.call26 (fun bs w hS => lock_Free y1 t who w (hS.res _ i0) (by first | assumption | omega | (simp only [emp_size]; omega)))
 rintro fp2 y2 hF2 hok2
 refine Mu ?_ Try.call27 (fun bs w hS => ref_FreedOf s t who w (Sl.rd.kp hs hS.kp) (by first | assumption | omega | (simp only [emp_size]; omega)))
 rintro fp3 y3 hF3 hok3
 refine Mi ?_ (pG [(34, .val (vb ((decide (((mFree (y1.xs.map CLock.abs) t who).2.1).code = ((mFree (s.xs.map CLock.abs) t who).2.1).code)) && ((decide (((mFree (y1.xs.map CLock.abs) t who).2.1).n = ((mFree (s.xs.map CLock.abs) t who).2.1).n)) && ((decide (((mFree (y1.xs.map CLock.abs) t who).2.1).text = ((mFree (s.xs.map CLock.abs) t who).2.1).text)) && true)))))] (oc ((eq_agg (by kernel_rfl) (by kernel_rfl)) : ∀ w, (do eqGuard .eql 25 (.tmp 32) (.tmp 33) ((mFree (y1.xs.map CLock.abs) t who).2.1).val ((mFree (s.xs.map CLock.abs) t who).2.1).val; binOp .eql 25 ((mFree (y1.xs.map CLock.abs) t who).2.1).val ((mFree (s.xs.map CLock.abs) t who).2.1).val : Sem Value).run Try.prog w = .ok (vb ((decide (((mFree (y1.xs.map CLock.abs) t who).2.1).code = ((mFree (s.xs.map CLock.abs) t who).2.1).code)) && ((decide (((mFree (y1.xs.map CLock.abs) t who).2.1).n = ((mFree (s.xs.map CLock.abs) t who).2.1).n)) && ((decide (((mFree (y1.xs.map CLock.abs) t who).2.1).text = ((mFree (s.xs.map CLock.abs) t who).2.1).text)) && true)))) w) on))
 refine Mb ((decide (((mFree (y1.xs.map CLock.abs) t who).2.1).code = ((mFree (s.xs.map CLock.abs) t who).2.1).code)) && ((decide (((mFree (y1.xs.map CLock.abs) t who).2.1).n = ((mFree (s.xs.map CLock.abs) t who).2.1).n)) && ((decide (((mFree (y1.xs.map CLock.abs) t who).2.1).text = ((mFree (s.xs.map CLock.abs) t who).2.1).text)) && true))) (fun h1 => ?_) fun h1 => ?_
 rotate_left
 · exfalso; first | (simp at h1; done) | (rw [hF1] at h1; simp at h1; done)
 refine Md ((mFree (y1.xs.map CLock.abs) t who).2.2 = (mFree (s.xs.map CLock.abs) t who).2.2) (fun h2 => ?_) fun h2 => ?_
 rotate_left
 · exfalso; first | (simp at h2; done) | (rw [hF1] at h2; simp at h2; done)
 refine Mp ?_ Try.call25 (fun bs w hS => same_locks _ _ w (hS.res _ i1) (hS.res _ i0) (by rw [hF2, hF3, hF1]))
 refine Mq 45 true ?_ rfl
 refine Mp ?_ Try.call25 (fun bs w hS => same_locks _ _ w (hS.res _ i2) (Sl.rd.kp hs hS.kp) hF1)
 exact Meb true (by simp [retOf, den])

end Go.Proofs.Ytakdjdfkdbofoab.W
