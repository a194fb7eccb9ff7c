/-
  The functions that the law CustomerStarts reaches, walked: each returns what its model says.
  Conditions: those that each theorem states.
-/
import Derived.Test.YtakdjdfkdbofoaaFe
import Derived.Test.YtakdjdfkdbofoaaChecked
set_option linter.unusedVariables false
set_option linter.unusedSimpArgs false
set_option maxRecDepth 100000
set_option maxHeartbeats 2000000
namespace Go.Proofs.Ytakdjdfkdbofoaa.W
open Go.Proofs.Ytakdjdfkdbofoaa.Fw Go.RowKit
attribute [local irreducible] JM nx

theorem Try_mixed : Try.prog.follows .mixedOrders = true := by kernel_rfl
theorem laid : laidOutB Try.prog = true := by kernel_rfl

theorem ref_In (n lo hi : Int) (w : World) : Calls Try.prog 64 #[vi n, vi lo, vi hi] w fun e w' => e = .returned (vb (inB n lo hi)) ∧ Kp [] w w' := by
 refine M0 ?_ Try.func64
 refine Md (lo ≤ n) (fun h1 => ?_) fun h1 => ?_
 rotate_left
 · exact Mt [vb false] fun bs w hS => ⟨by simp [retOf, den, inB, h1], hS.kp⟩
 exact Mt [vb (decide (n ≤ hi))] fun bs w hS => ⟨by simp [retOf, den, inB, h1], hS.kp⟩

theorem lock_Name1 (c : UInt8) (w : World) : Calls Try.prog 90 #[.int .u8 (c.toNat : Int)] w fun e w' => e = .returned (vb (nameBad c)) ∧ Kp [] w w' := by
 refine M0 ?_ Try.func90
 refine Md ((c.toNat : Int) < 97) (fun h1 => ?_) fun h1 => ?_
 · exact Mt [vb true] fun bs w hS => ⟨by simp [retOf, den, nameBad, h1], hS.kp⟩
 exact Mt [vb (decide ((122 : Int) < (c.toNat : Int)))] fun bs w hS => ⟨by simp [retOf, den, nameBad, h1], hS.kp⟩

theorem idx_bytes {B : Nat → Prop} (s : Sl UInt8) (w : World) (hs : s.rd B w) : Calls Try.prog 92 #[s.val, .func (.func 90) #[] #[]] w fun e w' => e = .returned (vi (mIdx nameBad s.xs)) ∧ Kp [] w w' := by
 have oks := Sl.rd.ok hs
 have ncs := Sl.ok.nc oks
 have hns : s.n = s.xs.length := rfl
 refine Mj ?_ Try.func92 (WS.start w)
 refine Ml (σ := Nat) (fun i => i ≤ s.n ∧ ∀ j, j < i → nameBad (s.at j) = false) (fun i => s.n - i) (fun _ => []) [8, 7, 0, 1] (fun i => [(8, vI (i : Int))]) (fun _ => []) ?_ 0 ⟨Nat.zero_le _, fun j hj => absurd hj (Nat.not_lt_zero _)⟩
 rintro i ⟨hi, hI⟩ _ on1
 refine Md ((i : Int) < (s.n : Int)) (fun h1 => ?_) fun h1 => ?_
 rotate_left
 · exact Me0 (-1) (by rw [mIdx_none fun j hj => hI j (by omega)])
 refine Mi ?_ (pA 14 15 (i : Int) i (rdk hs))
 refine Mp ?_ Try.call90 (fun bs w hS => lock_Name1 (s.at i) w)
 refine Mb (nameBad (s.at i)) (fun h2 => ?_) fun h2 => ?_
 · exact Me0 (i : Int) (by rw [mIdx_here (by omega) (by assumption) hI])
 refine Mi ?_ (pR ((i : Int) + 1))
 exact on1 (i + 1) ⟨by omega, fun j hj => by rcases Nat.lt_succ_iff_lt_or_eq.1 hj with h | h; exact hI j h; subst h; assumption⟩ (by omega)

theorem has_bytes {B : Nat → Prop} (s : Sl UInt8) (w : World) (hs : s.rd B w) : Calls Try.prog 89 #[s.val, .func (.func 90) #[] #[]] w fun e w' => e = .returned (vb (s.xs.any nameBad)) ∧ Kp [] w w' := by
 have oks := Sl.rd.ok hs
 have ncs := Sl.ok.nc oks
 have hns : s.n = s.xs.length := rfl
 refine Mj ?_ Try.func89 (WS.start w)
 refine Mp ?_ Try.call92 (fun bs w hS => idx_bytes _ w (Sl.rd.kp hs hS.kp))
 exact Meb (decide ((0 : Int) ≤ mIdx nameBad s.xs)) (by simp only [retOf, den, List.map_cons, List.map_nil, mIdx_nonneg])

theorem lock_Name (s : ByteArray) (w : World) (hs : s.size ≤ 9223372036854775807) : Calls Try.prog 83 #[vs s] w fun e w' => e = .returned (vb (mName s)) ∧ Kp [] w w' := by
 refine M0 ?_ Try.func83
 refine Mdn (s = emp) (fun h1 => ?_) fun h1 => ?_
 · exact Meb false (by simp [retOf, den, mName, *])
 refine Md ((s.size : Int) ≤ 6) (fun h2 => ?_) fun h2 => ?_
 rotate_left
 · exact Meb false (by simp [retOf, den, mName, *])
 refine Msy ?_ (e := 5) (by unfold maxLen; omega)
 rintro fp1 y1 hF1 hok1
 refine Mp ?_ Try.call89 (fun bs w hS => has_bytes _ w (hS.res _ i0))
 exact Meb (!(y1.xs.any nameBad)) (by simp [retOf, den, mName, *])

theorem ref_NameMay (s : ByteArray) (w : World) (hs : s.size ≤ 9223372036854775807) : Calls Try.prog 84 #[vs s] w fun e w' => e = .returned (vb (mName s)) ∧ Kp [] w w' := by
 refine M0 ?_ Try.func84
 refine Ml (σ := Nat) (fun i => i ≤ s.size ∧ ∀ j, j < i → nameBad (s.data.getD j 0) = false) (fun i => s.size - i) (fun _ => []) [3, 0] (fun i => [(3, vI (i : Int))]) (fun _ => []) ?_ 0 ⟨Nat.zero_le _, fun j hj => absurd hj (Nat.not_lt_zero _)⟩
 rintro i ⟨hi, hI⟩ _ on1
 have hu := (s.data.getD i 0).toNat_lt
 refine Md ((i : Int) < (s.size : Int)) (fun h1 => ?_) fun h1 => ?_
 rotate_left
 · refine Mp ?_ Try.call64 (fun bs w hS => ref_In (s.size : Int) 1 6 w)
   exact Meb (inB (s.size : Int) 1 6) (by simp only [retOf, den, List.map_cons, List.map_nil, mName_good fun j hj => hI j (by omega)])
 refine Mi ?_ (pc (pG [(12, .sidx i)] (oc (rfl : (i : Int) = (i : Int)) (oc ((by omega) : i < s.size) on))) (pc (pP (0 ≤ ((s.data.getD i 0).toNat : Int))) (pP (((s.data.getD i 0).toNat : Int) ≤ 255))))
 refine Mp ?_ Try.call64 (fun bs w hS => ref_In ((s.data.getD i 0).toNat : Int) 97 122 w)
 refine Mbn (inB ((s.data.getD i 0).toNat : Int) 97 122) (fun h2 => ?_) fun h2 => ?_
 rotate_left
 · refine Mt [vb false] fun bs w hS => ?_
   clear on1
   refine ⟨?_, hS.kp⟩
   rw [mName_bad (i := i) (by omega) (by simp only [inB, nameBad, Bool.and_eq_false_iff, Bool.or_eq_true, decide_eq_true_eq, decide_eq_false_iff_not] at *; omega)]
   rfl
 refine Mi ?_ (pR ((i : Int) + 1))
 exact on1 (i + 1) ⟨by omega, fun j hj => by rcases Nat.lt_succ_iff_lt_or_eq.1 hj with h | h; exact hI j h; subst h; simp only [inB, nameBad, Bool.and_eq_true, Bool.or_eq_false_iff, decide_eq_true_eq, decide_eq_false_iff_not] at *; omega⟩ (by omega)

theorem command_CheckOp {B : Nat → Prop} (x : DOp) (w : World) (hx : Rds.sub B w x) : Calls Try.prog 56 #[x.val] w fun e w' => e = .returned (vi (mOp x)) ∧ Kp [] w w' := by
 have okx := Rds.okof hx
 refine M0 ?_ Try.func56
 refine Md (x.kind < 1) (fun h1 => ?_) fun h1 => ?_
 · exact Me0 3 (by grind [mOp])
 refine Md ((6 : Int) < x.kind) (fun h2 => ?_) fun h2 => ?_
 · exact Me0 3 (by grind [mOp])
 refine Mp ?_ Try.call83 (fun bs w hS => lock_Name _ w okx.1)
 refine Mbn (mName x.a) (fun h3 => ?_) fun h3 => ?_
 rotate_left
 · exact Me0 4 (by grind [mOp])
 refine Mdn (x.kind = 5) (fun h4 => ?_) fun h4 => ?_
 · refine Md ((12 : Int) < (x.b.size : Int)) (fun h5 => ?_) fun h5 => ?_
   · exact Me0 1 (by grind [mOp])
   refine My true false ?_ (dt h4)
   refine Md (x.n < 1) (fun h7 => ?_) fun h7 => ?_
   · exact Me0 2 (by grind [mOp])
   refine Md ((1073741824 : Int) < x.n) (fun h8 => ?_) fun h8 => ?_
   · exact Me0 2 (by grind [mOp])
   refine My true true ?_ (dt h4)
   exact Me0 0 (by grind [mOp])
 refine Mdn (x.b = emp) (fun h10 => ?_) fun h10 => ?_
 rotate_left
 · exact Me0 4 (by grind [mOp])
 have hzh10 : x.b.size = 0 := by rw [h10]; rfl
 refine Md ((12 : Int) < (x.b.size : Int)) (fun h11 => ?_) fun h11 => ?_
 · exact Me0 1 (by grind [mOp])
 refine My false false ?_ (df h4)
 refine My false true ?_ (df h4)
 refine Mdn (x.n = 0) (fun h14 => ?_) fun h14 => ?_
 · exact Me0 0 (by grind [mOp])
 exact Me0 2 (by grind [mOp])

theorem ref_OpFault {B : Nat → Prop} (x : DOp) (w : World) (hx : Rds.sub B w x) : Calls Try.prog 59 #[x.val] w fun e w' => e = .returned (vi (mOp x)) ∧ Kp [] w w' := by
 have okx := Rds.okof hx
 refine M0 ?_ Try.func59
 refine Mp ?_ Try.call64 (fun bs w hS => ref_In x.kind 1 6 w)
 refine Mbn (inB x.kind 1 6) (fun h1 => ?_) fun h1 => ?_
 rotate_left
 · simp only [iT, iF] at h1
   exact Me0 3 (by grind [mOp])
 simp only [iT, iF] at h1
 refine Mp ?_ Try.call84 (fun bs w hS => ref_NameMay _ w okx.1)
 refine Mbn (mName x.a) (fun h2 => ?_) fun h2 => ?_
 rotate_left
 · exact Me0 4 (by grind [mOp])
 refine Mdn (x.b = emp) (fun h3 => ?_) fun h3 => ?_
 rotate_left
 · refine Mdn (x.kind = 5) (fun h8 => ?_) fun h8 => ?_
   rotate_left
   · exact Me0 4 (by grind [mOp])
   refine Md ((12 : Int) < (x.b.size : Int)) (fun h9 => ?_) fun h9 => ?_
   · exact Me0 1 (by grind [mOp])
   refine My true false ?_ (dt h8)
   refine Mp ?_ Try.call64 (fun bs w hS => ref_In x.n 1 1073741824 w)
   refine Mbn (inB x.n 1 1073741824) (fun h11 => ?_) fun h11 => ?_
   · simp only [iT, iF] at h11
     exact Me0 0 (by grind [mOp])
   simp only [iT, iF] at h11
   exact Me0 2 (by grind [mOp])
 have hzh3 : x.b.size = 0 := by rw [h3]; rfl
 refine Md ((12 : Int) < (x.b.size : Int)) (fun h4 => ?_) fun h4 => ?_
 · exact Me0 1 (by grind [mOp])
 refine Md (x.kind = 5) (fun h5 => ?_) fun h5 => ?_
 rotate_left
 · refine Mdn (x.n = 0) (fun h7 => ?_) fun h7 => ?_
   · exact Me0 0 (by grind [mOp])
   exact Me0 2 (by grind [mOp])
 refine Mp ?_ Try.call64 (fun bs w hS => ref_In x.n 1 1073741824 w)
 refine Mbn (inB x.n 1 1073741824) (fun h6 => ?_) fun h6 => ?_
 · simp only [iT, iF] at h6
   exact Me0 0 (by grind [mOp])
 simp only [iT, iF] at h6
 exact Me0 2 (by grind [mOp])

theorem customer_Check {B : Nat → Prop} (x : CCustomer) (w : World) (hx : Rds.sub B w x) : Calls Try.prog 55 #[x.val] w fun e w' => e = .returned (vi (mCust x.abs)) ∧ Kp [] w w' := by
 have okx := Rds.okof hx
 have ncx := Sl.ok.nc okx
 have hns : x.waits.n = x.waits.xs.length := rfl
 have hat : ∀ q, x.abs.waits.getD q default = x.waits.at q := fun _ => rfl
 have ha1 : x.abs.id = x.id := rfl
 have ha2 : x.abs.session = x.session := rfl
 have ha3 : x.abs.next = x.next := rfl
 have ha4 : x.abs.waits.length = x.waits.n := rfl
 refine M0 ?_ Try.func55
 refine Md (x.id < 1) (fun h1 => ?_) fun h1 => ?_
 · have hm : mCust x.abs = 2 := by
     grind [mCust]
   exact Me0 2 hm
 refine Md ((9 : Int) < x.id) (fun h2 => ?_) fun h2 => ?_
 · have hm : mCust x.abs = 2 := by
     grind [mCust]
   exact Me0 2 hm
 refine Md (x.session < 0) (fun h3 => ?_) fun h3 => ?_
 · have hm : mCust x.abs = 2 := by
     grind [mCust]
   exact Me0 2 hm
 refine Md ((1073741824 : Int) < x.session) (fun h4 => ?_) fun h4 => ?_
 · have hm : mCust x.abs = 2 := by
     grind [mCust]
   exact Me0 2 hm
 refine Md (x.next < 1) (fun h5 => ?_) fun h5 => ?_
 · have hm : mCust x.abs = 2 := by
     grind [mCust]
   exact Me0 2 hm
 refine Md ((1048577 : Int) < x.next) (fun h6 => ?_) fun h6 => ?_
 · have hm : mCust x.abs = 2 := by
     grind [mCust]
   exact Me0 2 hm
 refine Md ((4 : Int) < (x.waits.n : Int)) (fun h7 => ?_) fun h7 => ?_
 · have hm : mCust x.abs = 9 := by
     grind [mCust]
   exact Me0 9 hm
 refine Md (x.session = 0) (fun h8 => ?_) fun h8 => ?_
 rotate_left
 · refine Ml (σ := Nat) (fun i => i ≤ x.waits.n ∧ mCust x.abs = firstF (custF x.abs) (x.waits.n - i) i ∧ (0 < i → 1 ≤ (x.waits.at 0).seq ∧ (x.waits.at 0).seq < x.next)) (fun i => x.waits.n - i) (fun _ => []) [52, 51, 50, 1] (fun i => [(52, vI (i : Int))]) (fun _ => []) ?_ 0 ⟨Nat.zero_le _, by unfold mCust; simp only [ha1, ha2, ha3, ha4]; rw [if_neg (by omega), if_neg (by omega)], fun h => absurd h (by omega)⟩
   rintro i ⟨hi, hI, h0⟩ _ on2
   have hz : i = 0 ∨ (0 < i ∧ 1 ≤ (x.waits.at 0).seq ∧ (x.waits.at 0).seq < x.next) := by rcases Nat.eq_zero_or_pos i with h | h; exact .inl h; exact .inr ⟨h, h0 h⟩
   have hz2 : i = 0 → (x.waits.at i).seq = (x.waits.at 0).seq := fun h => by rw [h]
   refine Md ((i : Int) < (x.waits.n : Int)) (fun h19 => ?_) fun h19 => ?_
   rotate_left
   · exact Me0 0 (by rw [hI, firstF_end (by omega)])
   refine Mi ?_ (pA 55 56 (i : Int) i (s := x.waits) (fun w hk hr => (Rds.kp hx hk)))
   refine Mda 38 [] [] [] Try_mixed ?_
   refine Md ((x.waits.at i).seq < 1) (fun h20 => ?_) fun h20 => ?_
   · refine Me0 9 ?_
     have hf : custF x.abs i = 9 := by
       grind [custF]
     rw [hI, firstF_here (by omega) hf (by first | assumption | omega)]
   refine Md (x.next ≤ (x.waits.at i).seq) (fun h21 => ?_) fun h21 => ?_
   · refine Me0 9 ?_
     have hf : custF x.abs i = 9 := by
       grind [custF]
     rw [hI, firstF_here (by omega) hf (by first | assumption | omega)]
   refine Md ((0 : Int) < (i : Int)) (fun h22 => ?_) fun h22 => ?_
   rotate_left
   · refine Mih ?_ (pc (pI 88 0 0 (s := x.waits) (fun w hk hr => (Rds.kp hx hk))) (pc (pF 90 0 0 1 (s := x.waits) (fun w hk hr => (Rds.kp hx hk))) (pc (pR ((x.waits.at 0).seq + 4)) (pR (((x.waits.at 0).seq + 4) - 1)))))
     refine Md (((x.waits.at 0).seq + 4) - 1 < (x.waits.at i).seq) (fun h26 => ?_) fun h26 => ?_
     · refine Me0 9 ?_
       have hf : custF x.abs i = 9 := by
         grind [custF]
       rw [hI, firstF_here (by omega) hf (by first | assumption | omega)]
     refine Mp ?_ Try.call56 (fun bs w hS => command_CheckOp (B := anyB) (x.waits.at i).op w ⟨(Sl.ok.at (s := x.waits) (i := i) okx (by omega)).1, (Sl.ok.at (s := x.waits) (i := i) okx (by omega)).2⟩)
     refine Mdn (mOp (x.waits.at i).op = 0) (fun h27 => ?_) fun h27 => ?_
     · refine Mi ?_ (pR ((i : Int) + 1))
       have hf0 : custF x.abs i = 0 := by
         grind [custF]
       exact on2 (i + 1) ⟨by omega, by rw [hI]; exact firstF_step (by omega) hf0, fun _ => by omega⟩ (by omega)
     refine Me0 (mOp (x.waits.at i).op) ?_
     have hf : custF x.abs i = mOp (x.waits.at i).op := by
       grind [custF]
     rw [hI, firstF_here (by omega) hf (by first | assumption | omega)]
   refine Mih ?_ (pc (pR ((i : Int) - 1)) (pc (pI 75 ((i : Int) - 1) (i - 1) (s := x.waits) (fun w hk hr => (Rds.kp hx hk))) (pF 77 (i - 1) 0 1 (s := x.waits) (fun w hk hr => (Rds.kp hx hk)))))
   refine Md ((x.waits.at i).seq ≤ (x.waits.at (i - 1)).seq) (fun h23 => ?_) fun h23 => ?_
   · refine Me0 9 ?_
     have hf : custF x.abs i = 9 := by
       grind [custF]
     rw [hI, firstF_here (by omega) hf (by first | assumption | omega)]
   refine Mih ?_ (pc (pI 88 0 0 (s := x.waits) (fun w hk hr => (Rds.kp hx hk))) (pc (pF 90 0 0 1 (s := x.waits) (fun w hk hr => (Rds.kp hx hk))) (pc (pR ((x.waits.at 0).seq + 4)) (pR (((x.waits.at 0).seq + 4) - 1)))))
   refine Md (((x.waits.at 0).seq + 4) - 1 < (x.waits.at i).seq) (fun h24 => ?_) fun h24 => ?_
   · refine Me0 9 ?_
     have hf : custF x.abs i = 9 := by
       grind [custF]
     rw [hI, firstF_here (by omega) hf (by first | assumption | omega)]
   refine Mp ?_ Try.call56 (fun bs w hS => command_CheckOp (B := anyB) (x.waits.at i).op w ⟨(Sl.ok.at (s := x.waits) (i := i) okx (by omega)).1, (Sl.ok.at (s := x.waits) (i := i) okx (by omega)).2⟩)
   refine Mdn (mOp (x.waits.at i).op = 0) (fun h25 => ?_) fun h25 => ?_
   · refine Mi ?_ (pR ((i : Int) + 1))
     have hf0 : custF x.abs i = 0 := by
       grind [custF]
     exact on2 (i + 1) ⟨by omega, by rw [hI]; exact firstF_step (by omega) hf0, fun _ => by omega⟩ (by omega)
   refine Me0 (mOp (x.waits.at i).op) ?_
   have hf : custF x.abs i = mOp (x.waits.at i).op := by
     grind [custF]
   rw [hI, firstF_here (by omega) hf (by first | assumption | omega)]
 refine Md ((0 : Int) < (x.waits.n : Int)) (fun h9 => ?_) fun h9 => ?_
 · have hm : mCust x.abs = 9 := by
     grind [mCust]
   exact Me0 9 hm
 refine Ml (σ := Nat) (fun i => i ≤ x.waits.n ∧ mCust x.abs = firstF (custF x.abs) (x.waits.n - i) i ∧ (0 < i → 1 ≤ (x.waits.at 0).seq ∧ (x.waits.at 0).seq < x.next)) (fun i => x.waits.n - i) (fun _ => []) [52, 51, 50, 1] (fun i => [(52, vI (i : Int))]) (fun _ => []) ?_ 0 ⟨Nat.zero_le _, by unfold mCust; simp only [ha1, ha2, ha3, ha4]; rw [if_neg (by omega), if_neg (by omega)], fun h => absurd h (by omega)⟩
 rintro i ⟨hi, hI, h0⟩ _ on1
 have hz : i = 0 ∨ (0 < i ∧ 1 ≤ (x.waits.at 0).seq ∧ (x.waits.at 0).seq < x.next) := by rcases Nat.eq_zero_or_pos i with h | h; exact .inl h; exact .inr ⟨h, h0 h⟩
 have hz2 : i = 0 → (x.waits.at i).seq = (x.waits.at 0).seq := fun h => by rw [h]
 refine Md ((i : Int) < (x.waits.n : Int)) (fun h10 => ?_) fun h10 => ?_
 rotate_left
 · exact Me0 0 (by rw [hI, firstF_end (by omega)])
 refine Mi ?_ (pA 55 56 (i : Int) i (s := x.waits) (fun w hk hr => (Rds.kp hx hk)))
 refine Mda 38 [] [] [] Try_mixed ?_
 refine Md ((x.waits.at i).seq < 1) (fun h11 => ?_) fun h11 => ?_
 · refine Me0 9 ?_
   have hf : custF x.abs i = 9 := by
     grind [custF]
   rw [hI, firstF_here (by omega) hf (by first | assumption | omega)]
 refine Md (x.next ≤ (x.waits.at i).seq) (fun h12 => ?_) fun h12 => ?_
 · refine Me0 9 ?_
   have hf : custF x.abs i = 9 := by
     grind [custF]
   rw [hI, firstF_here (by omega) hf (by first | assumption | omega)]
 refine Md ((0 : Int) < (i : Int)) (fun h13 => ?_) fun h13 => ?_
 rotate_left
 · refine Mih ?_ (pc (pI 88 0 0 (s := x.waits) (fun w hk hr => (Rds.kp hx hk))) (pc (pF 90 0 0 1 (s := x.waits) (fun w hk hr => (Rds.kp hx hk))) (pc (pR ((x.waits.at 0).seq + 4)) (pR (((x.waits.at 0).seq + 4) - 1)))))
   refine Md (((x.waits.at 0).seq + 4) - 1 < (x.waits.at i).seq) (fun h17 => ?_) fun h17 => ?_
   · refine Me0 9 ?_
     have hf : custF x.abs i = 9 := by
       grind [custF]
     rw [hI, firstF_here (by omega) hf (by first | assumption | omega)]
   refine Mp ?_ Try.call56 (fun bs w hS => command_CheckOp (B := anyB) (x.waits.at i).op w ⟨(Sl.ok.at (s := x.waits) (i := i) okx (by omega)).1, (Sl.ok.at (s := x.waits) (i := i) okx (by omega)).2⟩)
   refine Mdn (mOp (x.waits.at i).op = 0) (fun h18 => ?_) fun h18 => ?_
   · refine Mi ?_ (pR ((i : Int) + 1))
     have hf0 : custF x.abs i = 0 := by
       grind [custF]
     exact on1 (i + 1) ⟨by omega, by rw [hI]; exact firstF_step (by omega) hf0, fun _ => by omega⟩ (by omega)
   refine Me0 (mOp (x.waits.at i).op) ?_
   have hf : custF x.abs i = mOp (x.waits.at i).op := by
     grind [custF]
   rw [hI, firstF_here (by omega) hf (by first | assumption | omega)]
 refine Mih ?_ (pc (pR ((i : Int) - 1)) (pc (pI 75 ((i : Int) - 1) (i - 1) (s := x.waits) (fun w hk hr => (Rds.kp hx hk))) (pF 77 (i - 1) 0 1 (s := x.waits) (fun w hk hr => (Rds.kp hx hk)))))
 refine Md ((x.waits.at i).seq ≤ (x.waits.at (i - 1)).seq) (fun h14 => ?_) fun h14 => ?_
 · refine Me0 9 ?_
   have hf : custF x.abs i = 9 := by
     grind [custF]
   rw [hI, firstF_here (by omega) hf (by first | assumption | omega)]
 refine Mih ?_ (pc (pI 88 0 0 (s := x.waits) (fun w hk hr => (Rds.kp hx hk))) (pc (pF 90 0 0 1 (s := x.waits) (fun w hk hr => (Rds.kp hx hk))) (pc (pR ((x.waits.at 0).seq + 4)) (pR (((x.waits.at 0).seq + 4) - 1)))))
 refine Md (((x.waits.at 0).seq + 4) - 1 < (x.waits.at i).seq) (fun h15 => ?_) fun h15 => ?_
 · refine Me0 9 ?_
   have hf : custF x.abs i = 9 := by
     grind [custF]
   rw [hI, firstF_here (by omega) hf (by first | assumption | omega)]
 refine Mp ?_ Try.call56 (fun bs w hS => command_CheckOp (B := anyB) (x.waits.at i).op w ⟨(Sl.ok.at (s := x.waits) (i := i) okx (by omega)).1, (Sl.ok.at (s := x.waits) (i := i) okx (by omega)).2⟩)
 refine Mdn (mOp (x.waits.at i).op = 0) (fun h16 => ?_) fun h16 => ?_
 · refine Mi ?_ (pR ((i : Int) + 1))
   have hf0 : custF x.abs i = 0 := by
     grind [custF]
   exact on1 (i + 1) ⟨by omega, by rw [hI]; exact firstF_step (by omega) hf0, fun _ => by omega⟩ (by omega)
 refine Me0 (mOp (x.waits.at i).op) ?_
 have hf : custF x.abs i = mOp (x.waits.at i).op := by
   grind [custF]
 rw [hI, firstF_here (by omega) hf (by first | assumption | omega)]

theorem ref_CustomerFault {B : Nat → Prop} (x : CCustomer) (w : World) (hx : Rds.sub B w x) : Calls Try.prog 58 #[x.val] w fun e w' => e = .returned (vi (mCust x.abs)) ∧ Kp [] w w' := by
 have okx := Rds.okof hx
 have ncx := Sl.ok.nc okx
 have hns : x.waits.n = x.waits.xs.length := rfl
 have hat : ∀ q, x.abs.waits.getD q default = x.waits.at q := fun _ => rfl
 have ha1 : x.abs.id = x.id := rfl
 have ha2 : x.abs.session = x.session := rfl
 have ha3 : x.abs.next = x.next := rfl
 have ha4 : x.abs.waits.length = x.waits.n := rfl
 refine M0 ?_ Try.func58
 refine Mp ?_ Try.call64 (fun bs w hS => ref_In x.id 1 9 w)
 refine Mbn (inB x.id 1 9) (fun h1 => ?_) fun h1 => ?_
 rotate_left
 · simp only [iT, iF] at h1
   have hm : mCust x.abs = 2 := by
     grind [mCust]
   exact Me0 2 hm
 simp only [iT, iF] at h1
 refine Mp ?_ Try.call64 (fun bs w hS => ref_In x.session 0 1073741824 w)
 refine Mbn (inB x.session 0 1073741824) (fun h2 => ?_) fun h2 => ?_
 rotate_left
 · simp only [iT, iF] at h2
   have hm : mCust x.abs = 2 := by
     grind [mCust]
   exact Me0 2 hm
 simp only [iT, iF] at h2
 refine Mp ?_ Try.call64 (fun bs w hS => ref_In x.next 1 1048577 w)
 refine Mbn (inB x.next 1 1048577) (fun h3 => ?_) fun h3 => ?_
 rotate_left
 · simp only [iT, iF] at h3
   have hm : mCust x.abs = 2 := by
     grind [mCust]
   exact Me0 2 hm
 simp only [iT, iF] at h3
 refine Md ((4 : Int) < (x.waits.n : Int)) (fun h4 => ?_) fun h4 => ?_
 · have hm : mCust x.abs = 9 := by
     grind [mCust]
   exact Me0 9 hm
 refine Md ((0 : Int) < (x.waits.n : Int)) (fun h5 => ?_) fun h5 => ?_
 rotate_left
 · refine Ml (σ := Nat) (fun i => i ≤ x.waits.n ∧ mCust x.abs = firstF (custF x.abs) (x.waits.n - i) i ∧ (0 < i → 1 ≤ (x.waits.at 0).seq ∧ (x.waits.at 0).seq < x.next)) (fun i => x.waits.n - i) (fun _ => []) [3, 1] (fun i => [(3, vI (i : Int))]) (fun _ => []) ?_ 0 ⟨Nat.zero_le _, by unfold mCust; simp only [ha1, ha2, ha3, ha4]; rw [if_neg (by omega), if_neg (by omega)], fun h => absurd h (by omega)⟩
   rintro i ⟨hi, hI, h0⟩ _ on2
   have hz : i = 0 ∨ (0 < i ∧ 1 ≤ (x.waits.at 0).seq ∧ (x.waits.at 0).seq < x.next) := by rcases Nat.eq_zero_or_pos i with h | h; exact .inl h; exact .inr ⟨h, h0 h⟩
   have hz2 : i = 0 → (x.waits.at i).seq = (x.waits.at 0).seq := fun h => by rw [h]
   refine Md ((i : Int) < (x.waits.n : Int)) (fun h14 => ?_) fun h14 => ?_
   rotate_left
   · exact Me0 0 (by rw [hI, firstF_end (by omega)])
   refine Mi ?_ (pA 47 48 (i : Int) i (s := x.waits) (fun w hk hr => (Rds.kp hx hk)))
   refine Mda 34 [] [] [] Try_mixed ?_
   refine Mih ?_ (pR (x.next - 1))
   refine Mp ?_ Try.call64 (fun bs w hS => ref_In (x.waits.at i).seq 1 (x.next - 1) w)
   refine Mbn (inB (x.waits.at i).seq 1 (x.next - 1)) (fun h15 => ?_) fun h15 => ?_
   rotate_left
   · simp only [iT, iF] at h15
     refine Me0 9 ?_
     have hf : custF x.abs i = 9 := by
       grind [custF]
     rw [hI, firstF_here (by omega) hf (by first | assumption | omega)]
   simp only [iT, iF] at h15
   refine Mih ?_ (pc (pI 61 0 0 (s := x.waits) (fun w hk hr => (Rds.kp hx hk))) (pc (pF 63 0 0 1 (s := x.waits) (fun w hk hr => (Rds.kp hx hk))) (pR ((x.waits.at i).seq - (x.waits.at 0).seq))))
   refine Md ((3 : Int) < (x.waits.at i).seq - (x.waits.at 0).seq) (fun h16 => ?_) fun h16 => ?_
   · refine Me0 9 ?_
     have hf : custF x.abs i = 9 := by
       grind [custF]
     rw [hI, firstF_here (by omega) hf (by first | assumption | omega)]
   refine Md ((0 : Int) < (i : Int)) (fun h17 => ?_) fun h17 => ?_
   rotate_left
   · refine Mp ?_ Try.call59 (fun bs w hS => ref_OpFault (B := anyB) (x.waits.at i).op w ⟨(Sl.ok.at (s := x.waits) (i := i) okx (by omega)).1, (Sl.ok.at (s := x.waits) (i := i) okx (by omega)).2⟩)
     refine Mdn (mOp (x.waits.at i).op = 0) (fun h20 => ?_) fun h20 => ?_
     · refine Mi ?_ (pR ((i : Int) + 1))
       have hf0 : custF x.abs i = 0 := by
         grind [custF]
       exact on2 (i + 1) ⟨by omega, by rw [hI]; exact firstF_step (by omega) hf0, fun _ => by omega⟩ (by omega)
     refine Me0 (mOp (x.waits.at i).op) ?_
     have hf : custF x.abs i = mOp (x.waits.at i).op := by
       grind [custF]
     rw [hI, firstF_here (by omega) hf (by first | assumption | omega)]
   refine Mih ?_ (pc (pR ((i : Int) - 1)) (pc (pI 77 ((i : Int) - 1) (i - 1) (s := x.waits) (fun w hk hr => (Rds.kp hx hk))) (pF 79 (i - 1) 0 1 (s := x.waits) (fun w hk hr => (Rds.kp hx hk)))))
   refine Md ((x.waits.at i).seq ≤ (x.waits.at (i - 1)).seq) (fun h18 => ?_) fun h18 => ?_
   · refine Me0 9 ?_
     have hf : custF x.abs i = 9 := by
       grind [custF]
     rw [hI, firstF_here (by omega) hf (by first | assumption | omega)]
   refine Mp ?_ Try.call59 (fun bs w hS => ref_OpFault (B := anyB) (x.waits.at i).op w ⟨(Sl.ok.at (s := x.waits) (i := i) okx (by omega)).1, (Sl.ok.at (s := x.waits) (i := i) okx (by omega)).2⟩)
   refine Mdn (mOp (x.waits.at i).op = 0) (fun h19 => ?_) fun h19 => ?_
   · refine Mi ?_ (pR ((i : Int) + 1))
     have hf0 : custF x.abs i = 0 := by
       grind [custF]
     exact on2 (i + 1) ⟨by omega, by rw [hI]; exact firstF_step (by omega) hf0, fun _ => by omega⟩ (by omega)
   refine Me0 (mOp (x.waits.at i).op) ?_
   have hf : custF x.abs i = mOp (x.waits.at i).op := by
     grind [custF]
   rw [hI, firstF_here (by omega) hf (by first | assumption | omega)]
 refine Md (x.session = 0) (fun h6 => ?_) fun h6 => ?_
 · have hm : mCust x.abs = 9 := by
     grind [mCust]
   exact Me0 9 hm
 refine Ml (σ := Nat) (fun i => i ≤ x.waits.n ∧ mCust x.abs = firstF (custF x.abs) (x.waits.n - i) i ∧ (0 < i → 1 ≤ (x.waits.at 0).seq ∧ (x.waits.at 0).seq < x.next)) (fun i => x.waits.n - i) (fun _ => []) [3, 1] (fun i => [(3, vI (i : Int))]) (fun _ => []) ?_ 0 ⟨Nat.zero_le _, by unfold mCust; simp only [ha1, ha2, ha3, ha4]; rw [if_neg (by omega), if_neg (by omega)], fun h => absurd h (by omega)⟩
 rintro i ⟨hi, hI, h0⟩ _ on1
 have hz : i = 0 ∨ (0 < i ∧ 1 ≤ (x.waits.at 0).seq ∧ (x.waits.at 0).seq < x.next) := by rcases Nat.eq_zero_or_pos i with h | h; exact .inl h; exact .inr ⟨h, h0 h⟩
 have hz2 : i = 0 → (x.waits.at i).seq = (x.waits.at 0).seq := fun h => by rw [h]
 refine Md ((i : Int) < (x.waits.n : Int)) (fun h7 => ?_) fun h7 => ?_
 rotate_left
 · exact Me0 0 (by rw [hI, firstF_end (by omega)])
 refine Mi ?_ (pA 47 48 (i : Int) i (s := x.waits) (fun w hk hr => (Rds.kp hx hk)))
 refine Mda 34 [] [] [] Try_mixed ?_
 refine Mih ?_ (pR (x.next - 1))
 refine Mp ?_ Try.call64 (fun bs w hS => ref_In (x.waits.at i).seq 1 (x.next - 1) w)
 refine Mbn (inB (x.waits.at i).seq 1 (x.next - 1)) (fun h8 => ?_) fun h8 => ?_
 rotate_left
 · simp only [iT, iF] at h8
   refine Me0 9 ?_
   have hf : custF x.abs i = 9 := by
     grind [custF]
   rw [hI, firstF_here (by omega) hf (by first | assumption | omega)]
 simp only [iT, iF] at h8
 refine Mih ?_ (pc (pI 61 0 0 (s := x.waits) (fun w hk hr => (Rds.kp hx hk))) (pc (pF 63 0 0 1 (s := x.waits) (fun w hk hr => (Rds.kp hx hk))) (pR ((x.waits.at i).seq - (x.waits.at 0).seq))))
 refine Md ((3 : Int) < (x.waits.at i).seq - (x.waits.at 0).seq) (fun h9 => ?_) fun h9 => ?_
 · refine Me0 9 ?_
   have hf : custF x.abs i = 9 := by
     grind [custF]
   rw [hI, firstF_here (by omega) hf (by first | assumption | omega)]
 refine Md ((0 : Int) < (i : Int)) (fun h10 => ?_) fun h10 => ?_
 rotate_left
 · refine Mp ?_ Try.call59 (fun bs w hS => ref_OpFault (B := anyB) (x.waits.at i).op w ⟨(Sl.ok.at (s := x.waits) (i := i) okx (by omega)).1, (Sl.ok.at (s := x.waits) (i := i) okx (by omega)).2⟩)
   refine Mdn (mOp (x.waits.at i).op = 0) (fun h13 => ?_) fun h13 => ?_
   · refine Mi ?_ (pR ((i : Int) + 1))
     have hf0 : custF x.abs i = 0 := by
       grind [custF]
     exact on1 (i + 1) ⟨by omega, by rw [hI]; exact firstF_step (by omega) hf0, fun _ => by omega⟩ (by omega)
   refine Me0 (mOp (x.waits.at i).op) ?_
   have hf : custF x.abs i = mOp (x.waits.at i).op := by
     grind [custF]
   rw [hI, firstF_here (by omega) hf (by first | assumption | omega)]
 refine Mih ?_ (pc (pR ((i : Int) - 1)) (pc (pI 77 ((i : Int) - 1) (i - 1) (s := x.waits) (fun w hk hr => (Rds.kp hx hk))) (pF 79 (i - 1) 0 1 (s := x.waits) (fun w hk hr => (Rds.kp hx hk)))))
 refine Md ((x.waits.at i).seq ≤ (x.waits.at (i - 1)).seq) (fun h11 => ?_) fun h11 => ?_
 · refine Me0 9 ?_
   have hf : custF x.abs i = 9 := by
     grind [custF]
   rw [hI, firstF_here (by omega) hf (by first | assumption | omega)]
 refine Mp ?_ Try.call59 (fun bs w hS => ref_OpFault (B := anyB) (x.waits.at i).op w ⟨(Sl.ok.at (s := x.waits) (i := i) okx (by omega)).1, (Sl.ok.at (s := x.waits) (i := i) okx (by omega)).2⟩)
 refine Mdn (mOp (x.waits.at i).op = 0) (fun h12 => ?_) fun h12 => ?_
 · refine Mi ?_ (pR ((i : Int) + 1))
   have hf0 : custF x.abs i = 0 := by
     grind [custF]
   exact on1 (i + 1) ⟨by omega, by rw [hI]; exact firstF_step (by omega) hf0, fun _ => by omega⟩ (by omega)
 refine Me0 (mOp (x.waits.at i).op) ?_
 have hf : custF x.abs i = mOp (x.waits.at i).op := by
   grind [custF]
 rw [hI, firstF_here (by omega) hf (by first | assumption | omega)]

theorem customer_acked {B : Nat → Prop} (x : CCustomer) (w : World) (hx : Rds.sub B w x) (hb : 1 ≤ x.next ∧ x.next ≤ 1048577) (hb2 : 0 < x.waits.n → 1 ≤ (x.waits.at 0).seq ∧ (x.waits.at 0).seq ≤ 1048576) : Calls Try.prog 57 #[x.val] w fun e w' => e = .returned (vi (mAck x.abs)) ∧ Kp [] w w' := by
 have hat : ∀ q, x.abs.waits.getD q default = x.waits.at q := fun _ => rfl
 have ha1 : x.abs.id = x.id := rfl
 have ha2 : x.abs.session = x.session := rfl
 have ha3 : x.abs.next = x.next := rfl
 have ha4 : x.abs.waits.length = x.waits.n := rfl
 have okx := Rds.okof hx
 have ncx := Sl.ok.nc okx
 have hnx : x.waits.n = x.waits.xs.length := rfl
 refine M0 ?_ Try.func57
 refine Md ((0 : Int) < (x.waits.n : Int)) (fun h1 => ?_) fun h1 => ?_
 rotate_left
 · refine Mi ?_ (pR (x.next - 1))
   have hm : mAck x.abs = x.next - 1 := by
     grind [mAck]
   exact Me0 (x.next - 1) hm
 have hz := hb2 (by omega)
 refine Mi ?_ (pc (pI 9 0 0 (s := x.waits) (fun w hk hr => (Rds.kp hx hk))) (pc (pF 11 0 0 1 (s := x.waits) (fun w hk hr => (Rds.kp hx hk))) (pR ((x.waits.at 0).seq - 1))))
 have hm : mAck x.abs = (x.waits.at 0).seq - 1 := by
   grind [mAck]
 exact Me0 ((x.waits.at 0).seq - 1) hm

theorem ref_knownOf {B : Nat → Prop} (x : CCustomer) (w : World) (hx : Rds.sub B w x) (hb : 1 ≤ x.next ∧ x.next ≤ 1048577) (hb2 : 0 < x.waits.n → 1 ≤ (x.waits.at 0).seq ∧ (x.waits.at 0).seq ≤ 1048576) : Calls Try.prog 60 #[x.val] w fun e w' => e = .returned (vi (mAck x.abs)) ∧ Kp [] w w' := by
 have hat : ∀ q, x.abs.waits.getD q default = x.waits.at q := fun _ => rfl
 have ha1 : x.abs.id = x.id := rfl
 have ha2 : x.abs.session = x.session := rfl
 have ha3 : x.abs.next = x.next := rfl
 have ha4 : x.abs.waits.length = x.waits.n := rfl
 have okx := Rds.okof hx
 have ncx := Sl.ok.nc okx
 have hnx : x.waits.n = x.waits.xs.length := rfl
 refine M0 ?_ Try.func60
 refine Md ((x.waits.n : Int) = 0) (fun h1 => ?_) fun h1 => ?_
 · refine Mi ?_ (pR (x.next - 1))
   have hm : mAck x.abs = x.next - 1 := by
     grind [mAck]
   exact Me0 (x.next - 1) hm
 have hz := hb2 (by omega)
 refine Mi ?_ (pc (pI 12 0 0 (s := x.waits) (fun w hk hr => (Rds.kp hx hk))) (pc (pF 14 0 0 1 (s := x.waits) (fun w hk hr => (Rds.kp hx hk))) (pR ((x.waits.at 0).seq - 1))))
 have hm : mAck x.abs = (x.waits.at 0).seq - 1 := by
   grind [mAck]
 exact Me0 ((x.waits.at 0).seq - 1) hm

theorem clone_Wait {B : Nat → Prop} (s : Sl DWait) (w : World) (hs : s.rd B w) (hb : s.n * 56 ≤ 140737488355328) : Calls Try.prog 44 #[s.val] w fun e w' => ∃ y : Sl DWait, e = .returned y.val ∧ y.xs = s.xs ∧ Kp [] w w' ∧ Fresh w w' (rowA 83 y.A y.c y.xs) := by
 have oks := Sl.rd.ok hs
 have ncs := Sl.ok.nc oks
 have hns : s.n = s.xs.length := rfl
 refine M0 ?_ Try.func44
 refine Mi ?_ (pG [(4, .val (.bool s.A.isNone))] (oc ((eq_nil Try.underlying28) : ∀ w, (do eqGuard .eql 28 (.tmp 3) (.const vn) s.val vn; binOp .eql 28 s.val vn : Sem Value).run Try.prog w = .ok (.bool s.A.isNone) w) on))
 refine Mb s.A.isNone (fun h1 => ?_) fun h1 => ?_
 · refine Mt [vn] fun bs w hS => ?_
   have hnil : s.xs = [] := Sl.ok.empty oks (by cases h : s.A <;> simp_all)
   exact ⟨Sl.nil, rfl, hnil.symm, hS.kp, rowA_nil 83 w⟩
 refine Mlz ?_ (α := DWait) (e := 83)
 intro A1
 refine Ma ?_ (α := DWait) (L2 := s.xs) 56 (fun bs w hS => Sl.rd.src (s := s) (Sl.rd.kp hs hS.kp))
 intro A2 c2
 exact Mt [.slice A2 ([] ++ s.xs).length c2] fun bs w hS => ⟨⟨A2, c2, [] ++ s.xs⟩, rfl, by simp, hS.kp, hS.out1⟩

theorem customer_CopyR {B : Nat → Prop} (x : CCustomer) (w : World) (hx : Rds.sub B w x) (hb : x.waits.n * 56 ≤ 140737488355328) : Calls Try.prog 17 #[x.val] w fun e w' => ∃ y : Sl DWait, e = .returned (.agg #[vi x.id, vi x.session, vi x.next, y.val]) ∧ y.xs = x.waits.xs ∧ Kp [] w w' ∧ Fresh w w' (rowA 83 y.A y.c y.xs) := by
 have hat : ∀ q, x.abs.waits.getD q default = x.waits.at q := fun _ => rfl
 have ha1 : x.abs.id = x.id := rfl
 have ha2 : x.abs.session = x.session := rfl
 have ha3 : x.abs.next = x.next := rfl
 have ha4 : x.abs.waits.length = x.waits.n := rfl
 have okx := Rds.okof hx
 have ncx := Sl.ok.nc okx
 have hnx : x.waits.n = x.waits.xs.length := rfl
 refine M0 ?_ Try.func17
 refine Mf ?_ Try.call44 (fun bs w hS => clone_Wait x.waits w (Rds.kp hx hS.kp) hb)
 rintro y1 hF1
 exact Mt [.agg #[vi x.id, vi x.session, vi x.next, y1.val]] fun bs w hS => ⟨y1, rfl, hF1, hS.kp, hS.out1⟩
theorem customer_Copy {B : Nat → Prop} (x : CCustomer) (w : World) (hx : Rds.sub B w x) (hb : x.waits.n * 56 ≤ 140737488355328) : Calls Try.prog 17 #[x.val] w fun e w' => ∃ y : CCustomer, e = .returned (y.val) ∧ y.abs = x.abs ∧ FreshS w w' y :=
  (customer_CopyR x w hx hb).mono fun e w' ⟨y, h1, h2, h3, h4⟩ => ⟨⟨x.id, x.session, x.next, y⟩, h1, by simp [CCustomer.abs, h2], h3, h4.sub fun hp => Rr hp (fun b hb => hb) fun z hz => Sl.rd.mem (s := x.waits) hx z (h2 ▸ hz)⟩

theorem ref_CustomerCopyR {B : Nat → Prop} (x : CCustomer) (w : World) (hx : Rds.sub B w x) (hb : x.waits.n * 56 ≤ 140737488355328) : Calls Try.prog 30 #[x.val] w fun e w' => ∃ y : Sl DWait, e = .returned (.agg #[vi x.id, vi x.session, vi x.next, y.val]) ∧ y.xs = x.waits.xs ∧ Kp [] w w' ∧ Fresh w w' (rowA 83 y.A y.c y.xs) := by
 have hat : ∀ q, x.abs.waits.getD q default = x.waits.at q := fun _ => rfl
 have ha1 : x.abs.id = x.id := rfl
 have ha2 : x.abs.session = x.session := rfl
 have ha3 : x.abs.next = x.next := rfl
 have ha4 : x.abs.waits.length = x.waits.n := rfl
 have okx := Rds.okof hx
 have ncx := Sl.ok.nc okx
 have hnx : x.waits.n = x.waits.xs.length := rfl
 refine M0 ?_ Try.func30
 refine Mda 10 [] [] [] Try_mixed ?_
 refine m_rowA (α := DWait) 83 ?_
 refine Ma ?_ (α := DWait) (L2 := x.waits.xs) 56 (fun bs w hS => Sl.rd.src (s := x.waits) (Rds.kp hx hS.kp))
 intro A1 c1
 exact Mt [.agg #[vi x.id, vi x.session, vi x.next, .slice A1 ([] ++ x.waits.xs).length c1]] fun bs w hS => ⟨⟨A1, c1, [] ++ x.waits.xs⟩, rfl, by simp, hS.kp, hS.out1⟩
theorem ref_CustomerCopy {B : Nat → Prop} (x : CCustomer) (w : World) (hx : Rds.sub B w x) (hb : x.waits.n * 56 ≤ 140737488355328) : Calls Try.prog 30 #[x.val] w fun e w' => ∃ y : CCustomer, e = .returned (y.val) ∧ y.abs = x.abs ∧ FreshS w w' y :=
  (ref_CustomerCopyR x w hx hb).mono fun e w' ⟨y, h1, h2, h3, h4⟩ => ⟨⟨x.id, x.session, x.next, y⟩, h1, by simp [CCustomer.abs, h2], h3, h4.sub fun hp => Rr hp (fun b hb => hb) fun z hz => Sl.rd.mem (s := x.waits) hx z (h2 ▸ hz)⟩

theorem customer_Start {B : Nat → Prop} (x : CCustomer) (o : DOp) (w : World) (hx : Rds.sub B w x) (ho : Rds.sub B w o) : Calls Try.prog 31 #[x.val, o.val] w fun e w' => ∃ y : CCustomer, e = .returned (.tuple #[y.val, vi (mStart x.abs o).2]) ∧ y.abs = (mStart x.abs o).1 ∧ FreshS w w' y := by
 have hat : ∀ q, x.abs.waits.getD q default = x.waits.at q := fun _ => rfl
 have ha1 : x.abs.id = x.id := rfl
 have ha2 : x.abs.session = x.session := rfl
 have ha3 : x.abs.next = x.next := rfl
 have ha4 : x.abs.waits.length = x.waits.n := rfl
 have okx := Rds.okof hx
 have ncx := Sl.ok.nc okx
 have hnx : x.waits.n = x.waits.xs.length := rfl
 have hoo := Rds.okof ho
 refine M0 ?_ Try.func31
 refine Mp ?_ Try.call55 (fun bs w hS => customer_Check x w (Rds.kp hx hS.kp))
 refine Mdn (mCust x.abs = 0) (fun h1 => ?_) fun h1 => ?_
 rotate_left
 · have hm : mStart x.abs o = (zCust, mCust x.abs) := by
     unfold mStart; rw [ha2, ha3]; simp only [h1, ne_eq, not_true_eq_false, not_false_eq_true, if_true, if_false, reduceIte]
     try rw [if_pos (by omega)]
   exact Me2 hm ⟨0, 0, 0, Sl.nil⟩ rfl fun bs w hS => hS.outS (y := (⟨0, 0, 0, Sl.nil⟩ : CCustomer)) (Sl.rd_nil _ _)
 have hack := mAck_bd h1
 obtain ⟨hb1, hb2, hb3, hb4, hb5, hb6, hb7, hb8, hb9⟩ := mCust_bd h1
 rw [ha1] at hb1 hb2
 rw [ha2] at hb3 hb4
 rw [ha3] at hb5 hb6
 rw [ha4] at hb7 hb9
 have hseq : ∀ j, j < x.waits.n → 1 ≤ (x.waits.at j).seq ∧ (x.waits.at j).seq ≤ 1048576 := fun j hj => by have hz := custF_bd (hb9 j hj); rw [hat, ha3] at hz; omega
 refine Md (x.session = 0) (fun h2 => ?_) fun h2 => ?_
 · have hm : mStart x.abs o = (zCust, 11) := by
     unfold mStart; rw [ha2, ha3]; simp only [h1, h2, ne_eq, not_true_eq_false, not_false_eq_true, if_true, if_false, reduceIte]
     try rw [if_pos (by omega)]
   exact Me2 hm ⟨0, 0, 0, Sl.nil⟩ rfl fun bs w hS => hS.outS (y := (⟨0, 0, 0, Sl.nil⟩ : CCustomer)) (Sl.rd_nil _ _)
 refine Mp ?_ Try.call56 (fun bs w hS => command_CheckOp (B := anyB) o w ho)
 refine Mdn (mOp o = 0) (fun h3 => ?_) fun h3 => ?_
 rotate_left
 · have hm : mStart x.abs o = (zCust, mOp o) := by
     unfold mStart; rw [ha2, ha3]; simp only [h1, h2, h3, ne_eq, not_true_eq_false, not_false_eq_true, if_true, if_false, reduceIte]
     try rw [if_pos (by omega)]
   exact Me2 hm ⟨0, 0, 0, Sl.nil⟩ rfl fun bs w hS => hS.outS (y := (⟨0, 0, 0, Sl.nil⟩ : CCustomer)) (Sl.rd_nil _ _)
 refine Mda 11 [] [] [] Try_mixed ?_
 refine Md ((1048576 : Int) < x.next) (fun h4 => ?_) fun h4 => ?_
 · have hm : mStart x.abs o = (zCust, 8) := by
     unfold mStart; rw [ha2, ha3]; simp only [h1, h2, h3, ne_eq, not_true_eq_false, not_false_eq_true, if_true, if_false, reduceIte]
     try rw [if_pos (by omega)]
   exact Me2 hm ⟨0, 0, 0, Sl.nil⟩ rfl fun bs w hS => hS.outS (y := (⟨0, 0, 0, Sl.nil⟩ : CCustomer)) (Sl.rd_nil _ _)
 refine Mp ?_ Try.call57 (fun bs w hS => customer_acked x w (Rds.kp hx hS.kp) ⟨by omega, by omega⟩ (fun hz => hseq 0 hz))
 refine Mih ?_ (pR ((mAck x.abs) + 4))
 refine Md ((mAck x.abs) + 4 < x.next) (fun h5 => ?_) fun h5 => ?_
 · have hm : mStart x.abs o = (zCust, 8) := by
     unfold mStart; rw [ha2, ha3]; simp only [h1, h2, h3, ne_eq, not_true_eq_false, not_false_eq_true, if_true, if_false, reduceIte]
     try rw [if_pos (by omega)]
   exact Me2 hm ⟨0, 0, 0, Sl.nil⟩ rfl fun bs w hS => hS.outS (y := (⟨0, 0, 0, Sl.nil⟩ : CCustomer)) (Sl.rd_nil _ _)
 refine Mf ?_ Try.call17 (fun bs w hS => customer_CopyR x w (Rds.kp hx hS.kp) (by omega))
 rintro y1 hF1
 refine m_know (F := RowOk y1.A y1.c (y1.xs : List DWait)) (fun bs w hS => rowA_rok (hS.res _ i0)) fun hrow1 => ?_
 have nchrow1 := hrow1.2
 have hsz1 : ∀ z, z ∈ y1.xs → z.op.a.size ≤ 9223372036854775807 ∧ z.op.b.size ≤ 9223372036854775807 := fun z hz => Sl.rd.mem (s := x.waits) hx z (hF1 ▸ hz)
 have hnn1 := xs_n hF1
 have hnx1 : y1.n = y1.xs.length := rfl
 have hok1 : Sl.ok y1 := ⟨nchrow1.1, by unfold maxLen; exact nchrow1.2, fun i hi => ⟨hrow1.1 i hi, hsz1 _ (List.mem_of_getElem? (Sl.at_some hi))⟩⟩
 refine M1 ?_
 refine Mal (α := DWait) 56 ([(⟨x.next, ⟨o.kind, o.a, o.b, o.n⟩⟩ : DWait)]) ?_
 intro A3 c3
 refine Mi ?_ (pR (x.next + 1))
 refine Mt [.agg #[vi x.id, vi x.session, vi (x.next + 1), .slice A3 (y1.xs ++ [(⟨x.next, ⟨o.kind, o.a, o.b, o.n⟩⟩ : DWait)]).length c3], vi 0] fun bs w hS => ?_
 have hm : mStart x.abs o = (⟨x.id, x.session, x.next + 1, x.waits.xs ++ [⟨x.next, o⟩]⟩, 0) := by
   unfold mStart; rw [ha2, ha3]; simp only [h1, h2, h3, ne_eq, not_true_eq_false, not_false_eq_true, if_true, if_false, reduceIte]; rw [if_neg (by omega)]; rfl
 refine ⟨⟨x.id, x.session, x.next + 1, ⟨A3, c3, y1.xs ++ [(⟨x.next, ⟨o.kind, o.a, o.b, o.n⟩⟩ : DWait)]⟩⟩, ?_, ?_, hS.outS (y := (⟨x.id, x.session, x.next + 1, ⟨A3, c3, y1.xs ++ [(⟨x.next, ⟨o.kind, o.a, o.b, o.n⟩⟩ : DWait)]⟩⟩ : CCustomer)) (allR_row i0 (hS.res _ i0) (fun z hz => ?_))⟩
 · rw [hm]; rfl
 · rw [hm]; simp [CCustomer.abs, hF1]
 · rcases List.mem_append.1 hz with hz | hz
   · exact hsz1 z hz
   · rw [List.mem_singleton] at hz; subst hz; exact hoo

theorem ref_StartedOf {B : Nat → Prop} (x : CCustomer) (o : DOp) (w : World) (hx : Rds.sub B w x) (ho : Rds.sub B w o) : Calls Try.prog 32 #[x.val, o.val] w fun e w' => ∃ y : CCustomer, e = .returned (.tuple #[y.val, vi (mStart x.abs o).2]) ∧ y.abs = (mStart x.abs o).1 ∧ FreshS w w' y := by
 have hat : ∀ q, x.abs.waits.getD q default = x.waits.at q := fun _ => rfl
 have ha1 : x.abs.id = x.id := rfl
 have ha2 : x.abs.session = x.session := rfl
 have ha3 : x.abs.next = x.next := rfl
 have ha4 : x.abs.waits.length = x.waits.n := rfl
 have okx := Rds.okof hx
 have ncx := Sl.ok.nc okx
 have hnx : x.waits.n = x.waits.xs.length := rfl
 have hoo := Rds.okof ho
 refine M0 ?_ Try.func32
 refine Mp ?_ Try.call58 (fun bs w hS => ref_CustomerFault x w (Rds.kp hx hS.kp))
 refine Md (mCust x.abs = 0) (fun h1 => ?_) fun h1 => ?_
 rotate_left
 · refine My false false ?_ (df h1)
   refine Mda 15 [] [] [] Try_mixed ?_
   refine My false false ?_ (df h1)
   refine My false true ?_ (df h1)
   have hm : mStart x.abs o = (zCust, mCust x.abs) := by
     unfold mStart; rw [ha2, ha3]; simp only [h1, ne_eq, not_true_eq_false, not_false_eq_true, if_true, if_false, reduceIte]
     try rw [if_pos (by omega)]
   exact Me2 hm ⟨0, 0, 0, Sl.nil⟩ rfl fun bs w hS => hS.outS (y := (⟨0, 0, 0, Sl.nil⟩ : CCustomer)) (Sl.rd_nil _ _)
 have hack := mAck_bd h1
 obtain ⟨hb1, hb2, hb3, hb4, hb5, hb6, hb7, hb8, hb9⟩ := mCust_bd h1
 rw [ha1] at hb1 hb2
 rw [ha2] at hb3 hb4
 rw [ha3] at hb5 hb6
 rw [ha4] at hb7 hb9
 have hseq : ∀ j, j < x.waits.n → 1 ≤ (x.waits.at j).seq ∧ (x.waits.at j).seq ≤ 1048576 := fun j hj => by have hz := custF_bd (hb9 j hj); rw [hat, ha3] at hz; omega
 refine Md (x.session = 0) (fun h2 => ?_) fun h2 => ?_
 · refine Mq 18 false ?_ rfl
   refine Mda 15 [] [] [] Try_mixed ?_
   refine Mq 23 false ?_ rfl
   refine Mq 37 true ?_ rfl
   have hm : mStart x.abs o = (zCust, 11) := by
     unfold mStart; rw [ha2, ha3]; simp only [h1, h2, ne_eq, not_true_eq_false, not_false_eq_true, if_true, if_false, reduceIte]
     try rw [if_pos (by omega)]
   exact Me2 hm ⟨0, 0, 0, Sl.nil⟩ rfl fun bs w hS => hS.outS (y := (⟨0, 0, 0, Sl.nil⟩ : CCustomer)) (Sl.rd_nil _ _)
 refine My true false ?_ (dt h1)
 refine Mp ?_ Try.call59 (fun bs w hS => ref_OpFault (B := anyB) o w ho)
 refine Mda 15 [] [] [] Try_mixed ?_
 refine Md (mOp o = 0) (fun h4 => ?_) fun h4 => ?_
 rotate_left
 · refine My false true ?_ (df h4)
   have hm : mStart x.abs o = (zCust, mOp o) := by
     unfold mStart; rw [ha2, ha3]; simp only [h1, h2, h4, ne_eq, not_true_eq_false, not_false_eq_true, if_true, if_false, reduceIte]
     try rw [if_pos (by omega)]
   exact Me2 hm ⟨0, 0, 0, Sl.nil⟩ rfl fun bs w hS => hS.outS (y := (⟨0, 0, 0, Sl.nil⟩ : CCustomer)) (Sl.rd_nil _ _)
 refine Md ((1048576 : Int) < x.next) (fun h5 => ?_) fun h5 => ?_
 · refine Mq 37 true ?_ rfl
   have hm : mStart x.abs o = (zCust, 8) := by
     unfold mStart; rw [ha2, ha3]; simp only [h1, h2, h4, ne_eq, not_true_eq_false, not_false_eq_true, if_true, if_false, reduceIte]
     try rw [if_pos (by omega)]
   exact Me2 hm ⟨0, 0, 0, Sl.nil⟩ rfl fun bs w hS => hS.outS (y := (⟨0, 0, 0, Sl.nil⟩ : CCustomer)) (Sl.rd_nil _ _)
 refine Mp ?_ Try.call60 (fun bs w hS => ref_knownOf x w (Rds.kp hx hS.kp) ⟨by omega, by omega⟩ (fun hz => hseq 0 hz))
 refine Mih ?_ (pR (x.next - (mAck x.abs)))
 refine Md ((4 : Int) < x.next - (mAck x.abs)) (fun h6 => ?_) fun h6 => ?_
 · refine Mq 37 true ?_ rfl
   have hm : mStart x.abs o = (zCust, 8) := by
     unfold mStart; rw [ha2, ha3]; simp only [h1, h2, h4, ne_eq, not_true_eq_false, not_false_eq_true, if_true, if_false, reduceIte]
     try rw [if_pos (by omega)]
   exact Me2 hm ⟨0, 0, 0, Sl.nil⟩ rfl fun bs w hS => hS.outS (y := (⟨0, 0, 0, Sl.nil⟩ : CCustomer)) (Sl.rd_nil _ _)
 refine My true true ?_ (dt h4)
 refine Mf ?_ Try.call30 (fun bs w hS => ref_CustomerCopyR x w (Rds.kp hx hS.kp) (by omega))
 rintro y1 hF1
 refine m_know (F := RowOk y1.A y1.c (y1.xs : List DWait)) (fun bs w hS => rowA_rok (hS.res _ i0)) fun hrow1 => ?_
 have nchrow1 := hrow1.2
 have hsz1 : ∀ z, z ∈ y1.xs → z.op.a.size ≤ 9223372036854775807 ∧ z.op.b.size ≤ 9223372036854775807 := fun z hz => Sl.rd.mem (s := x.waits) hx z (hF1 ▸ hz)
 have hnn1 := xs_n hF1
 have hnx1 : y1.n = y1.xs.length := rfl
 have hok1 : Sl.ok y1 := ⟨nchrow1.1, by unfold maxLen; exact nchrow1.2, fun i hi => ⟨hrow1.1 i hi, hsz1 _ (List.mem_of_getElem? (Sl.at_some hi))⟩⟩
 refine M1 ?_
 refine Mal (α := DWait) 56 ([(⟨x.next, ⟨o.kind, o.a, o.b, o.n⟩⟩ : DWait)]) ?_
 intro A3 c3
 refine Mi ?_ (pR (x.next + 1))
 refine Mt [.agg #[vi x.id, vi x.session, vi (x.next + 1), .slice A3 (y1.xs ++ [(⟨x.next, ⟨o.kind, o.a, o.b, o.n⟩⟩ : DWait)]).length c3], vi 0] fun bs w hS => ?_
 have hm : mStart x.abs o = (⟨x.id, x.session, x.next + 1, x.waits.xs ++ [⟨x.next, o⟩]⟩, 0) := by
   unfold mStart; rw [ha2, ha3]; simp only [h1, h2, h4, ne_eq, not_true_eq_false, not_false_eq_true, if_true, if_false, reduceIte]; rw [if_neg (by omega)]; rfl
 refine ⟨⟨x.id, x.session, x.next + 1, ⟨A3, c3, y1.xs ++ [(⟨x.next, ⟨o.kind, o.a, o.b, o.n⟩⟩ : DWait)]⟩⟩, ?_, ?_, hS.outS (y := (⟨x.id, x.session, x.next + 1, ⟨A3, c3, y1.xs ++ [(⟨x.next, ⟨o.kind, o.a, o.b, o.n⟩⟩ : DWait)]⟩⟩ : CCustomer)) (allR_row i0 (hS.res _ i0) (fun z hz => ?_))⟩
 · rw [hm]; rfl
 · rw [hm]; simp [CCustomer.abs, hF1]
 · rcases List.mem_append.1 hz with hz | hz
   · exact hsz1 z hz
   · rw [List.mem_singleton] at hz; subst hz; exact hoo

theorem same_customer {B B' : Nat → Prop} (a b : CCustomer) (w : World) (ha : Rds.sub B w a) (hb : Rds.sub B' w b) (he : a.abs = b.abs) : Calls Try.prog 18 #[a.val, b.val] w fun e w' => e = .returned (vb true) ∧ Kp [] w w' := by
 have oka := Rds.okof ha
 have okb := Rds.okof hb
 have hw : a.waits.xs = b.waits.xs := congrArg DCustomer.waits he
 have hwn := xs_n hw
 have h1 : a.id = b.id := congrArg DCustomer.id he
 have h2 : a.session = b.session := congrArg DCustomer.session he
 have h3 : a.next = b.next := congrArg DCustomer.next he
 have nca := Sl.ok.nc oka
 refine M0 ?_ Try.func18
 refine Mdn (a.id = b.id) (fun h11 => ?_) fun h11 => ?_
 rotate_left
 · exfalso; first | omega | (rw [hat] at h11; simp at h11)
 refine Mdn (a.session = b.session) (fun h12 => ?_) fun h12 => ?_
 rotate_left
 · exfalso; first | omega | (rw [hat] at h12; simp at h12)
 refine Mdn (a.next = b.next) (fun h13 => ?_) fun h13 => ?_
 rotate_left
 · exfalso; first | omega | (rw [hat] at h13; simp at h13)
 refine Mdn ((a.waits.n : Int) = (b.waits.n : Int)) (fun h14 => ?_) fun h14 => ?_
 rotate_left
 · exfalso; first | omega | (rw [hat] at h14; simp at h14)
 refine Ml (σ := Nat) (fun i => True) (fun i => a.waits.n - i) (fun _ => []) [5, 3, 2] (fun i => [(5, vI (i : Int))]) (fun _ => []) ?_ 0 trivial
 rintro i _ _ on1
 have hat := xs_at hw i
 refine Md ((i : Int) < (a.waits.n : Int)) (fun h15 => ?_) fun h15 => ?_
 rotate_left
 · exact Mt [vb true] fun bs w hS => ⟨rfl, hS.kp⟩
 refine Mda 11 [] [] [] Try_mixed ?_
 refine Mih ?_ (pc (pA 44 45 (i : Int) i (s := a.waits) (fun w hk hr => (Rds.kp ha hk))) (pc (pA 49 50 (i : Int) i (s := b.waits) (fun w hk hr => (Rds.kp hb hk))) (pG [(51, .val (vb (!((decide ((a.waits.at i).seq = (b.waits.at i).seq)) && (((decide ((a.waits.at i).op.kind = (b.waits.at i).op.kind)) && ((decide ((a.waits.at i).op.a = (b.waits.at i).op.a)) && ((decide ((a.waits.at i).op.b = (b.waits.at i).op.b)) && ((decide ((a.waits.at i).op.n = (b.waits.at i).op.n)) && true)))) && true)))))] (oc ((neq_agg (by kernel_rfl) (by kernel_rfl)) : ∀ w, (do eqGuard .neq 83 (.tmp 45) (.tmp 50) (a.waits.at i).val (b.waits.at i).val; binOp .neq 83 (a.waits.at i).val (b.waits.at i).val : Sem Value).run Try.prog w = .ok (vb (!((decide ((a.waits.at i).seq = (b.waits.at i).seq)) && (((decide ((a.waits.at i).op.kind = (b.waits.at i).op.kind)) && ((decide ((a.waits.at i).op.a = (b.waits.at i).op.a)) && ((decide ((a.waits.at i).op.b = (b.waits.at i).op.b)) && ((decide ((a.waits.at i).op.n = (b.waits.at i).op.n)) && true)))) && true)))) w) on))))
 refine Mbn ((decide ((a.waits.at i).seq = (b.waits.at i).seq)) && (((decide ((a.waits.at i).op.kind = (b.waits.at i).op.kind)) && ((decide ((a.waits.at i).op.a = (b.waits.at i).op.a)) && ((decide ((a.waits.at i).op.b = (b.waits.at i).op.b)) && ((decide ((a.waits.at i).op.n = (b.waits.at i).op.n)) && true)))) && true)) (fun h16 => ?_) fun h16 => ?_
 rotate_left
 · exfalso; first | omega | (rw [hat] at h16; simp at h16)
 refine Mi ?_ (pR ((i : Int) + 1))
 exact on1 (i + 1) trivial (by omega)

theorem law_CustomerStarts {B : Nat → Prop} (x : CCustomer) (o : DOp) (w : World) (hx : Rds.sub B w x) (ho : Rds.sub B w o) (hsm : Rds.small x) : Calls Try.prog 10 #[x.val, o.val] w fun e w' => e = .returned (vb true) ∧ Kp [] w w' := by
 have okx := Rds.okof hx
 refine M0 ?_ Try.func10
 refine Mu ?_ Try.call30 (fun bs w hS => ref_CustomerCopy x w (Rds.kp hx hS.kp) hsm.1)
 rintro fp1 y1 hF1 hok1
 refine Mu ?_ Try.call31 (fun bs w hS => customer_Start y1 o w (hS.res _ i0) ho)
 rintro fp2 y2 hF2 hok2
 refine Mu ?_ Try.call32 (fun bs w hS => ref_StartedOf x o w (Rds.kp hx hS.kp) ho)
 rintro fp3 y3 hF3 hok3
 refine Md ((mStart y1.abs o).2 = (mStart x.abs o).2) (fun h1 => ?_) fun h1 => ?_
 rotate_left
 · exfalso; first | (simp at h1; done) | (rw [hF1] at h1; simp at h1; done)
 refine Mp ?_ Try.call18 (fun bs w hS => same_customer y2 y3 w (hS.res _ i1) (hS.res _ i0) (by rw [hF2, hF3, hF1]))
 refine Mq 32 true ?_ rfl
 refine Mp ?_ Try.call18 (fun bs w hS => same_customer y1 x w (hS.res _ i2) (Rds.kp hx hS.kp) hF1)
 exact Meb true (by simp [retOf, den])

end Go.Proofs.Ytakdjdfkdbofoaa.W
