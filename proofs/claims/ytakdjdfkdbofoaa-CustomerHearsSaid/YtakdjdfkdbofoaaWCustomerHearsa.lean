/-
  The functions that the law CustomerHears reaches, walked: each returns what its model says.
  Conditions: those that each theorem states.
-/
import Derived.Test.YtakdjdfkdbofoaaFe
import Derived.Test.YtakdjdfkdbofoaaChecked
set_option linter.unusedVariables false
set_option linter.unusedSimpArgs false
set_option maxRecDepth 100000
set_option maxHeartbeats 2000000
namespace Go.Proofs.Ytakdjdfkdbofoaa.W
open Go.Proofs.Ytakdjdfkdbofoaa.Fw Go.RowKit
attribute [local irreducible] JM nx

theorem Try_mixed : Try.prog.follows .mixedOrders = true := by kernel_rfl
theorem laid : laidOutB Try.prog = true := by kernel_rfl

theorem ref_In (n lo hi : Int) (w : World) : Calls Try.prog 64 #[vi n, vi lo, vi hi] w fun e w' => e = .returned (vb (inB n lo hi)) ∧ Kp [] w w' := by
 refine M0 ?_ Try.func64
 refine Md (lo ≤ n) (fun h1 => ?_) fun h1 => ?_
 rotate_left
 · exact Mt [vb false] fun bs w hS => ⟨by simp [retOf, den, inB, h1], hS.kp⟩
 exact Mt [vb (decide (n ≤ hi))] fun bs w hS => ⟨by simp [retOf, den, inB, h1], hS.kp⟩

theorem lock_Name1 (c : UInt8) (w : World) : Calls Try.prog 90 #[.int .u8 (c.toNat : Int)] w fun e w' => e = .returned (vb (nameBad c)) ∧ Kp [] w w' := by
 refine M0 ?_ Try.func90
 refine Md ((c.toNat : Int) < 97) (fun h1 => ?_) fun h1 => ?_
 · exact Mt [vb true] fun bs w hS => ⟨by simp [retOf, den, nameBad, h1], hS.kp⟩
 exact Mt [vb (decide ((122 : Int) < (c.toNat : Int)))] fun bs w hS => ⟨by simp [retOf, den, nameBad, h1], hS.kp⟩

theorem idx_bytes {B : Nat → Prop} (s : Sl UInt8) (w : World) (hs : s.rd B w) : Calls Try.prog 92 #[s.val, .func (.func 90) #[] #[]] w fun e w' => e = .returned (vi (mIdx nameBad s.xs)) ∧ Kp [] w w' := by
 have oks := Sl.rd.ok hs
 have ncs := Sl.ok.nc oks
 have hns : s.n = s.xs.length := rfl
 refine Mj ?_ Try.func92 (WS.start w)
 refine Ml (σ := Nat) (fun i => i ≤ s.n ∧ ∀ j, j < i → nameBad (s.at j) = false) (fun i => s.n - i) (fun _ => []) [8, 7, 0, 1] (fun i => [(8, vI (i : Int))]) (fun _ => []) ?_ 0 ⟨Nat.zero_le _, fun j hj => absurd hj (Nat.not_lt_zero _)⟩
 rintro i ⟨hi, hI⟩ _ on1
 refine Md ((i : Int) < (s.n : Int)) (fun h1 => ?_) fun h1 => ?_
 rotate_left
 · exact Me0 (-1) (by rw [mIdx_none fun j hj => hI j (by omega)])
 refine Mi ?_ (pA 14 15 (i : Int) i (rdk hs))
 refine Mp ?_ Try.call90 (fun bs w hS => lock_Name1 (s.at i) w)
 refine Mb (nameBad (s.at i)) (fun h2 => ?_) fun h2 => ?_
 · exact Me0 (i : Int) (by rw [mIdx_here (by omega) (by assumption) hI])
 refine Mi ?_ (pR ((i : Int) + 1))
 exact on1 (i + 1) ⟨by omega, fun j hj => by rcases Nat.lt_succ_iff_lt_or_eq.1 hj with h | h; exact hI j h; subst h; assumption⟩ (by omega)

theorem has_bytes {B : Nat → Prop} (s : Sl UInt8) (w : World) (hs : s.rd B w) : Calls Try.prog 89 #[s.val, .func (.func 90) #[] #[]] w fun e w' => e = .returned (vb (s.xs.any nameBad)) ∧ Kp [] w w' := by
 have oks := Sl.rd.ok hs
 have ncs := Sl.ok.nc oks
 have hns : s.n = s.xs.length := rfl
 refine Mj ?_ Try.func89 (WS.start w)
 refine Mp ?_ Try.call92 (fun bs w hS => idx_bytes _ w (Sl.rd.kp hs hS.kp))
 exact Meb (decide ((0 : Int) ≤ mIdx nameBad s.xs)) (by simp only [retOf, den, List.map_cons, List.map_nil, mIdx_nonneg])

theorem lock_Name (s : ByteArray) (w : World) (hs : s.size ≤ 9223372036854775807) : Calls Try.prog 83 #[vs s] w fun e w' => e = .returned (vb (mName s)) ∧ Kp [] w w' := by
 refine M0 ?_ Try.func83
 refine Mdn (s = emp) (fun h1 => ?_) fun h1 => ?_
 · exact Meb false (by simp [retOf, den, mName, *])
 refine Md ((s.size : Int) ≤ 6) (fun h2 => ?_) fun h2 => ?_
 rotate_left
 · exact Meb false (by simp [retOf, den, mName, *])
 refine Msy ?_ (e := 5) (by unfold maxLen; omega)
 rintro fp1 y1 hF1 hok1
 refine Mp ?_ Try.call89 (fun bs w hS => has_bytes _ w (hS.res _ i0))
 exact Meb (!(y1.xs.any nameBad)) (by simp [retOf, den, mName, *])

theorem ref_NameMay (s : ByteArray) (w : World) (hs : s.size ≤ 9223372036854775807) : Calls Try.prog 84 #[vs s] w fun e w' => e = .returned (vb (mName s)) ∧ Kp [] w w' := by
 refine M0 ?_ Try.func84
 refine Ml (σ := Nat) (fun i => i ≤ s.size ∧ ∀ j, j < i → nameBad (s.data.getD j 0) = false) (fun i => s.size - i) (fun _ => []) [3, 0] (fun i => [(3, vI (i : Int))]) (fun _ => []) ?_ 0 ⟨Nat.zero_le _, fun j hj => absurd hj (Nat.not_lt_zero _)⟩
 rintro i ⟨hi, hI⟩ _ on1
 have hu := (s.data.getD i 0).toNat_lt
 refine Md ((i : Int) < (s.size : Int)) (fun h1 => ?_) fun h1 => ?_
 rotate_left
 · refine Mp ?_ Try.call64 (fun bs w hS => ref_In (s.size : Int) 1 6 w)
   exact Meb (inB (s.size : Int) 1 6) (by simp only [retOf, den, List.map_cons, List.map_nil, mName_good fun j hj => hI j (by omega)])
 refine Mi ?_ (pc (pG [(12, .sidx i)] (oc (rfl : (i : Int) = (i : Int)) (oc ((by omega) : i < s.size) on))) (pc (pP (0 ≤ ((s.data.getD i 0).toNat : Int))) (pP (((s.data.getD i 0).toNat : Int) ≤ 255))))
 refine Mp ?_ Try.call64 (fun bs w hS => ref_In ((s.data.getD i 0).toNat : Int) 97 122 w)
 refine Mbn (inB ((s.data.getD i 0).toNat : Int) 97 122) (fun h2 => ?_) fun h2 => ?_
 rotate_left
 · refine Mt [vb false] fun bs w hS => ?_
   clear on1
   refine ⟨?_, hS.kp⟩
   rw [mName_bad (i := i) (by omega) (by simp only [inB, nameBad, Bool.and_eq_false_iff, Bool.or_eq_true, decide_eq_true_eq, decide_eq_false_iff_not] at *; omega)]
   rfl
 refine Mi ?_ (pR ((i : Int) + 1))
 exact on1 (i + 1) ⟨by omega, fun j hj => by rcases Nat.lt_succ_iff_lt_or_eq.1 hj with h | h; exact hI j h; subst h; simp only [inB, nameBad, Bool.and_eq_true, Bool.or_eq_false_iff, decide_eq_true_eq, decide_eq_false_iff_not] at *; omega⟩ (by omega)

theorem command_CheckOp {B : Nat → Prop} (x : DOp) (w : World) (hx : Rds.sub B w x) : Calls Try.prog 56 #[x.val] w fun e w' => e = .returned (vi (mOp x)) ∧ Kp [] w w' := by
 have okx := Rds.okof hx
 refine M0 ?_ Try.func56
 refine Md (x.kind < 1) (fun h1 => ?_) fun h1 => ?_
 · exact Me0 3 (by grind [mOp])
 refine Md ((6 : Int) < x.kind) (fun h2 => ?_) fun h2 => ?_
 · exact Me0 3 (by grind [mOp])
 refine Mp ?_ Try.call83 (fun bs w hS => lock_Name _ w okx.1)
 refine Mbn (mName x.a) (fun h3 => ?_) fun h3 => ?_
 rotate_left
 · exact Me0 4 (by grind [mOp])
 refine Mdn (x.kind = 5) (fun h4 => ?_) fun h4 => ?_
 · refine Md ((12 : Int) < (x.b.size : Int)) (fun h5 => ?_) fun h5 => ?_
   · exact Me0 1 (by grind [mOp])
   refine My true false ?_ (dt h4)
   refine Md (x.n < 1) (fun h7 => ?_) fun h7 => ?_
   · exact Me0 2 (by grind [mOp])
   refine Md ((1073741824 : Int) < x.n) (fun h8 => ?_) fun h8 => ?_
   · exact Me0 2 (by grind [mOp])
   refine My true true ?_ (dt h4)
   exact Me0 0 (by grind [mOp])
 refine Mdn (x.b = emp) (fun h10 => ?_) fun h10 => ?_
 rotate_left
 · exact Me0 4 (by grind [mOp])
 have hzh10 : x.b.size = 0 := by rw [h10]; rfl
 refine Md ((12 : Int) < (x.b.size : Int)) (fun h11 => ?_) fun h11 => ?_
 · exact Me0 1 (by grind [mOp])
 refine My false false ?_ (df h4)
 refine My false true ?_ (df h4)
 refine Mdn (x.n = 0) (fun h14 => ?_) fun h14 => ?_
 · exact Me0 0 (by grind [mOp])
 exact Me0 2 (by grind [mOp])

theorem ref_OpFault {B : Nat → Prop} (x : DOp) (w : World) (hx : Rds.sub B w x) : Calls Try.prog 59 #[x.val] w fun e w' => e = .returned (vi (mOp x)) ∧ Kp [] w w' := by
 have okx := Rds.okof hx
 refine M0 ?_ Try.func59
 refine Mp ?_ Try.call64 (fun bs w hS => ref_In x.kind 1 6 w)
 refine Mbn (inB x.kind 1 6) (fun h1 => ?_) fun h1 => ?_
 rotate_left
 · simp only [iT, iF] at h1
   exact Me0 3 (by grind [mOp])
 simp only [iT, iF] at h1
 refine Mp ?_ Try.call84 (fun bs w hS => ref_NameMay _ w okx.1)
 refine Mbn (mName x.a) (fun h2 => ?_) fun h2 => ?_
 rotate_left
 · exact Me0 4 (by grind [mOp])
 refine Mdn (x.b = emp) (fun h3 => ?_) fun h3 => ?_
 rotate_left
 · refine Mdn (x.kind = 5) (fun h8 => ?_) fun h8 => ?_
   rotate_left
   · exact Me0 4 (by grind [mOp])
   refine Md ((12 : Int) < (x.b.size : Int)) (fun h9 => ?_) fun h9 => ?_
   · exact Me0 1 (by grind [mOp])
   refine My true false ?_ (dt h8)
   refine Mp ?_ Try.call64 (fun bs w hS => ref_In x.n 1 1073741824 w)
   refine Mbn (inB x.n 1 1073741824) (fun h11 => ?_) fun h11 => ?_
   · simp only [iT, iF] at h11
     exact Me0 0 (by grind [mOp])
   simp only [iT, iF] at h11
   exact Me0 2 (by grind [mOp])
 have hzh3 : x.b.size = 0 := by rw [h3]; rfl
 refine Md ((12 : Int) < (x.b.size : Int)) (fun h4 => ?_) fun h4 => ?_
 · exact Me0 1 (by grind [mOp])
 refine Md (x.kind = 5) (fun h5 => ?_) fun h5 => ?_
 rotate_left
 · refine Mdn (x.n = 0) (fun h7 => ?_) fun h7 => ?_
   · exact Me0 0 (by grind [mOp])
   exact Me0 2 (by grind [mOp])
 refine Mp ?_ Try.call64 (fun bs w hS => ref_In x.n 1 1073741824 w)
 refine Mbn (inB x.n 1 1073741824) (fun h6 => ?_) fun h6 => ?_
 · simp only [iT, iF] at h6
   exact Me0 0 (by grind [mOp])
 simp only [iT, iF] at h6
 exact Me0 2 (by grind [mOp])

theorem customer_Check {B : Nat → Prop} (x : CCustomer) (w : World) (hx : Rds.sub B w x) : Calls Try.prog 55 #[x.val] w fun e w' => e = .returned (vi (mCust x.abs)) ∧ Kp [] w w' := by
 have okx := Rds.okof hx
 have ncx := Sl.ok.nc okx
 have hns : x.waits.n = x.waits.xs.length := rfl
 have hat : ∀ q, x.abs.waits.getD q default = x.waits.at q := fun _ => rfl
 have ha1 : x.abs.id = x.id := rfl
 have ha2 : x.abs.session = x.session := rfl
 have ha3 : x.abs.next = x.next := rfl
 have ha4 : x.abs.waits.length = x.waits.n := rfl
 refine M0 ?_ Try.func55
 refine Md (x.id < 1) (fun h1 => ?_) fun h1 => ?_
 · have hm : mCust x.abs = 2 := by
     grind [mCust]
   exact Me0 2 hm
 refine Md ((9 : Int) < x.id) (fun h2 => ?_) fun h2 => ?_
 · have hm : mCust x.abs = 2 := by
     grind [mCust]
   exact Me0 2 hm
 refine Md (x.session < 0) (fun h3 => ?_) fun h3 => ?_
 · have hm : mCust x.abs = 2 := by
     grind [mCust]
   exact Me0 2 hm
 refine Md ((1073741824 : Int) < x.session) (fun h4 => ?_) fun h4 => ?_
 · have hm : mCust x.abs = 2 := by
     grind [mCust]
   exact Me0 2 hm
 refine Md (x.next < 1) (fun h5 => ?_) fun h5 => ?_
 · have hm : mCust x.abs = 2 := by
     grind [mCust]
   exact Me0 2 hm
 refine Md ((1048577 : Int) < x.next) (fun h6 => ?_) fun h6 => ?_
 · have hm : mCust x.abs = 2 := by
     grind [mCust]
   exact Me0 2 hm
 refine Md ((4 : Int) < (x.waits.n : Int)) (fun h7 => ?_) fun h7 => ?_
 · have hm : mCust x.abs = 9 := by
     grind [mCust]
   exact Me0 9 hm
 refine Md (x.session = 0) (fun h8 => ?_) fun h8 => ?_
 rotate_left
 · refine Ml (σ := Nat) (fun i => i ≤ x.waits.n ∧ mCust x.abs = firstF (custF x.abs) (x.waits.n - i) i ∧ (0 < i → 1 ≤ (x.waits.at 0).seq ∧ (x.waits.at 0).seq < x.next)) (fun i => x.waits.n - i) (fun _ => []) [52, 51, 50, 1] (fun i => [(52, vI (i : Int))]) (fun _ => []) ?_ 0 ⟨Nat.zero_le _, by unfold mCust; simp only [ha1, ha2, ha3, ha4]; rw [if_neg (by omega), if_neg (by omega)], fun h => absurd h (by omega)⟩
   rintro i ⟨hi, hI, h0⟩ _ on2
   have hz : i = 0 ∨ (0 < i ∧ 1 ≤ (x.waits.at 0).seq ∧ (x.waits.at 0).seq < x.next) := by rcases Nat.eq_zero_or_pos i with h | h; exact .inl h; exact .inr ⟨h, h0 h⟩
   have hz2 : i = 0 → (x.waits.at i).seq = (x.waits.at 0).seq := fun h => by rw [h]
   refine Md ((i : Int) < (x.waits.n : Int)) (fun h19 => ?_) fun h19 => ?_
   rotate_left
   · exact Me0 0 (by rw [hI, firstF_end (by omega)])
   refine Mi ?_ (pA 55 56 (i : Int) i (s := x.waits) (fun w hk hr => (Rds.kp hx hk)))
   refine Mda 38 [] [] [] Try_mixed ?_
   refine Md ((x.waits.at i).seq < 1) (fun h20 => ?_) fun h20 => ?_
   · refine Me0 9 ?_
     have hf : custF x.abs i = 9 := by
       grind [custF]
     rw [hI, firstF_here (by omega) hf (by first | assumption | omega)]
   refine Md (x.next ≤ (x.waits.at i).seq) (fun h21 => ?_) fun h21 => ?_
   · refine Me0 9 ?_
     have hf : custF x.abs i = 9 := by
       grind [custF]
     rw [hI, firstF_here (by omega) hf (by first | assumption | omega)]
   refine Md ((0 : Int) < (i : Int)) (fun h22 => ?_) fun h22 => ?_
   rotate_left
   · refine Mih ?_ (pc (pI 88 0 0 (s := x.waits) (fun w hk hr => (Rds.kp hx hk))) (pc (pF 90 0 0 1 (s := x.waits) (fun w hk hr => (Rds.kp hx hk))) (pc (pR ((x.waits.at 0).seq + 4)) (pR (((x.waits.at 0).seq + 4) - 1)))))
     refine Md (((x.waits.at 0).seq + 4) - 1 < (x.waits.at i).seq) (fun h26 => ?_) fun h26 => ?_
     · refine Me0 9 ?_
       have hf : custF x.abs i = 9 := by
         grind [custF]
       rw [hI, firstF_here (by omega) hf (by first | assumption | omega)]
     refine Mp ?_ Try.call56 (fun bs w hS => command_CheckOp (B := anyB) (x.waits.at i).op w ⟨(Sl.ok.at (s := x.waits) (i := i) okx (by omega)).1, (Sl.ok.at (s := x.waits) (i := i) okx (by omega)).2⟩)
     refine Mdn (mOp (x.waits.at i).op = 0) (fun h27 => ?_) fun h27 => ?_
     · refine Mi ?_ (pR ((i : Int) + 1))
       have hf0 : custF x.abs i = 0 := by
         grind [custF]
       exact on2 (i + 1) ⟨by omega, by rw [hI]; exact firstF_step (by omega) hf0, fun _ => by omega⟩ (by omega)
     refine Me0 (mOp (x.waits.at i).op) ?_
     have hf : custF x.abs i = mOp (x.waits.at i).op := by
       grind [custF]
     rw [hI, firstF_here (by omega) hf (by first | assumption | omega)]
   refine Mih ?_ (pc (pR ((i : Int) - 1)) (pc (pI 75 ((i : Int) - 1) (i - 1) (s := x.waits) (fun w hk hr => (Rds.kp hx hk))) (pF 77 (i - 1) 0 1 (s := x.waits) (fun w hk hr => (Rds.kp hx hk)))))
   refine Md ((x.waits.at i).seq ≤ (x.waits.at (i - 1)).seq) (fun h23 => ?_) fun h23 => ?_
   · refine Me0 9 ?_
     have hf : custF x.abs i = 9 := by
       grind [custF]
     rw [hI, firstF_here (by omega) hf (by first | assumption | omega)]
   refine Mih ?_ (pc (pI 88 0 0 (s := x.waits) (fun w hk hr => (Rds.kp hx hk))) (pc (pF 90 0 0 1 (s := x.waits) (fun w hk hr => (Rds.kp hx hk))) (pc (pR ((x.waits.at 0).seq + 4)) (pR (((x.waits.at 0).seq + 4) - 1)))))
   refine Md (((x.waits.at 0).seq + 4) - 1 < (x.waits.at i).seq) (fun h24 => ?_) fun h24 => ?_
   · refine Me0 9 ?_
     have hf : custF x.abs i = 9 := by
       grind [custF]
     rw [hI, firstF_here (by omega) hf (by first | assumption | omega)]
   refine Mp ?_ Try.call56 (fun bs w hS => command_CheckOp (B := anyB) (x.waits.at i).op w ⟨(Sl.ok.at (s := x.waits) (i := i) okx (by omega)).1, (Sl.ok.at (s := x.waits) (i := i) okx (by omega)).2⟩)
   refine Mdn (mOp (x.waits.at i).op = 0) (fun h25 => ?_) fun h25 => ?_
   · refine Mi ?_ (pR ((i : Int) + 1))
     have hf0 : custF x.abs i = 0 := by
       grind [custF]
     exact on2 (i + 1) ⟨by omega, by rw [hI]; exact firstF_step (by omega) hf0, fun _ => by omega⟩ (by omega)
   refine Me0 (mOp (x.waits.at i).op) ?_
   have hf : custF x.abs i = mOp (x.waits.at i).op := by
     grind [custF]
   rw [hI, firstF_here (by omega) hf (by first | assumption | omega)]
 refine Md ((0 : Int) < (x.waits.n : Int)) (fun h9 => ?_) fun h9 => ?_
 · have hm : mCust x.abs = 9 := by
     grind [mCust]
   exact Me0 9 hm
 refine Ml (σ := Nat) (fun i => i ≤ x.waits.n ∧ mCust x.abs = firstF (custF x.abs) (x.waits.n - i) i ∧ (0 < i → 1 ≤ (x.waits.at 0).seq ∧ (x.waits.at 0).seq < x.next)) (fun i => x.waits.n - i) (fun _ => []) [52, 51, 50, 1] (fun i => [(52, vI (i : Int))]) (fun _ => []) ?_ 0 ⟨Nat.zero_le _, by unfold mCust; simp only [ha1, ha2, ha3, ha4]; rw [if_neg (by omega), if_neg (by omega)], fun h => absurd h (by omega)⟩
 rintro i ⟨hi, hI, h0⟩ _ on1
 have hz : i = 0 ∨ (0 < i ∧ 1 ≤ (x.waits.at 0).seq ∧ (x.waits.at 0).seq < x.next) := by rcases Nat.eq_zero_or_pos i with h | h; exact .inl h; exact .inr ⟨h, h0 h⟩
 have hz2 : i = 0 → (x.waits.at i).seq = (x.waits.at 0).seq := fun h => by rw [h]
 refine Md ((i : Int) < (x.waits.n : Int)) (fun h10 => ?_) fun h10 => ?_
 rotate_left
 · exact Me0 0 (by rw [hI, firstF_end (by omega)])
 refine Mi ?_ (pA 55 56 (i : Int) i (s := x.waits) (fun w hk hr => (Rds.kp hx hk)))
 refine Mda 38 [] [] [] Try_mixed ?_
 refine Md ((x.waits.at i).seq < 1) (fun h11 => ?_) fun h11 => ?_
 · refine Me0 9 ?_
   have hf : custF x.abs i = 9 := by
     grind [custF]
   rw [hI, firstF_here (by omega) hf (by first | assumption | omega)]
 refine Md (x.next ≤ (x.waits.at i).seq) (fun h12 => ?_) fun h12 => ?_
 · refine Me0 9 ?_
   have hf : custF x.abs i = 9 := by
     grind [custF]
   rw [hI, firstF_here (by omega) hf (by first | assumption | omega)]
 refine Md ((0 : Int) < (i : Int)) (fun h13 => ?_) fun h13 => ?_
 rotate_left
 · refine Mih ?_ (pc (pI 88 0 0 (s := x.waits) (fun w hk hr => (Rds.kp hx hk))) (pc (pF 90 0 0 1 (s := x.waits) (fun w hk hr => (Rds.kp hx hk))) (pc (pR ((x.waits.at 0).seq + 4)) (pR (((x.waits.at 0).seq + 4) - 1)))))
   refine Md (((x.waits.at 0).seq + 4) - 1 < (x.waits.at i).seq) (fun h17 => ?_) fun h17 => ?_
   · refine Me0 9 ?_
     have hf : custF x.abs i = 9 := by
       grind [custF]
     rw [hI, firstF_here (by omega) hf (by first | assumption | omega)]
   refine Mp ?_ Try.call56 (fun bs w hS => command_CheckOp (B := anyB) (x.waits.at i).op w ⟨(Sl.ok.at (s := x.waits) (i := i) okx (by omega)).1, (Sl.ok.at (s := x.waits) (i := i) okx (by omega)).2⟩)
   refine Mdn (mOp (x.waits.at i).op = 0) (fun h18 => ?_) fun h18 => ?_
   · refine Mi ?_ (pR ((i : Int) + 1))
     have hf0 : custF x.abs i = 0 := by
       grind [custF]
     exact on1 (i + 1) ⟨by omega, by rw [hI]; exact firstF_step (by omega) hf0, fun _ => by omega⟩ (by omega)
   refine Me0 (mOp (x.waits.at i).op) ?_
   have hf : custF x.abs i = mOp (x.waits.at i).op := by
     grind [custF]
   rw [hI, firstF_here (by omega) hf (by first | assumption | omega)]
 refine Mih ?_ (pc (pR ((i : Int) - 1)) (pc (pI 75 ((i : Int) - 1) (i - 1) (s := x.waits) (fun w hk hr => (Rds.kp hx hk))) (pF 77 (i - 1) 0 1 (s := x.waits) (fun w hk hr => (Rds.kp hx hk)))))
 refine Md ((x.waits.at i).seq ≤ (x.waits.at (i - 1)).seq) (fun h14 => ?_) fun h14 => ?_
 · refine Me0 9 ?_
   have hf : custF x.abs i = 9 := by
     grind [custF]
   rw [hI, firstF_here (by omega) hf (by first | assumption | omega)]
 refine Mih ?_ (pc (pI 88 0 0 (s := x.waits) (fun w hk hr => (Rds.kp hx hk))) (pc (pF 90 0 0 1 (s := x.waits) (fun w hk hr => (Rds.kp hx hk))) (pc (pR ((x.waits.at 0).seq + 4)) (pR (((x.waits.at 0).seq + 4) - 1)))))
 refine Md (((x.waits.at 0).seq + 4) - 1 < (x.waits.at i).seq) (fun h15 => ?_) fun h15 => ?_
 · refine Me0 9 ?_
   have hf : custF x.abs i = 9 := by
     grind [custF]
   rw [hI, firstF_here (by omega) hf (by first | assumption | omega)]
 refine Mp ?_ Try.call56 (fun bs w hS => command_CheckOp (B := anyB) (x.waits.at i).op w ⟨(Sl.ok.at (s := x.waits) (i := i) okx (by omega)).1, (Sl.ok.at (s := x.waits) (i := i) okx (by omega)).2⟩)
 refine Mdn (mOp (x.waits.at i).op = 0) (fun h16 => ?_) fun h16 => ?_
 · refine Mi ?_ (pR ((i : Int) + 1))
   have hf0 : custF x.abs i = 0 := by
     grind [custF]
   exact on1 (i + 1) ⟨by omega, by rw [hI]; exact firstF_step (by omega) hf0, fun _ => by omega⟩ (by omega)
 refine Me0 (mOp (x.waits.at i).op) ?_
 have hf : custF x.abs i = mOp (x.waits.at i).op := by
   grind [custF]
 rw [hI, firstF_here (by omega) hf (by first | assumption | omega)]

theorem ref_CustomerFault {B : Nat → Prop} (x : CCustomer) (w : World) (hx : Rds.sub B w x) : Calls Try.prog 58 #[x.val] w fun e w' => e = .returned (vi (mCust x.abs)) ∧ Kp [] w w' := by
 have okx := Rds.okof hx
 have ncx := Sl.ok.nc okx
 have hns : x.waits.n = x.waits.xs.length := rfl
 have hat : ∀ q, x.abs.waits.getD q default = x.waits.at q := fun _ => rfl
 have ha1 : x.abs.id = x.id := rfl
 have ha2 : x.abs.session = x.session := rfl
 have ha3 : x.abs.next = x.next := rfl
 have ha4 : x.abs.waits.length = x.waits.n := rfl
 refine M0 ?_ Try.func58
 refine Mp ?_ Try.call64 (fun bs w hS => ref_In x.id 1 9 w)
 refine Mbn (inB x.id 1 9) (fun h1 => ?_) fun h1 => ?_
 rotate_left
 · simp only [iT, iF] at h1
   have hm : mCust x.abs = 2 := by
     grind [mCust]
   exact Me0 2 hm
 simp only [iT, iF] at h1
 refine Mp ?_ Try.call64 (fun bs w hS => ref_In x.session 0 1073741824 w)
 refine Mbn (inB x.session 0 1073741824) (fun h2 => ?_) fun h2 => ?_
 rotate_left
 · simp only [iT, iF] at h2
   have hm : mCust x.abs = 2 := by
     grind [mCust]
   exact Me0 2 hm
 simp only [iT, iF] at h2
 refine Mp ?_ Try.call64 (fun bs w hS => ref_In x.next 1 1048577 w)
 refine Mbn (inB x.next 1 1048577) (fun h3 => ?_) fun h3 => ?_
 rotate_left
 · simp only [iT, iF] at h3
   have hm : mCust x.abs = 2 := by
     grind [mCust]
   exact Me0 2 hm
 simp only [iT, iF] at h3
 refine Md ((4 : Int) < (x.waits.n : Int)) (fun h4 => ?_) fun h4 => ?_
 · have hm : mCust x.abs = 9 := by
     grind [mCust]
   exact Me0 9 hm
 refine Md ((0 : Int) < (x.waits.n : Int)) (fun h5 => ?_) fun h5 => ?_
 rotate_left
 · refine Ml (σ := Nat) (fun i => i ≤ x.waits.n ∧ mCust x.abs = firstF (custF x.abs) (x.waits.n - i) i ∧ (0 < i → 1 ≤ (x.waits.at 0).seq ∧ (x.waits.at 0).seq < x.next)) (fun i => x.waits.n - i) (fun _ => []) [3, 1] (fun i => [(3, vI (i : Int))]) (fun _ => []) ?_ 0 ⟨Nat.zero_le _, by unfold mCust; simp only [ha1, ha2, ha3, ha4]; rw [if_neg (by omega), if_neg (by omega)], fun h => absurd h (by omega)⟩
   rintro i ⟨hi, hI, h0⟩ _ on2
   have hz : i = 0 ∨ (0 < i ∧ 1 ≤ (x.waits.at 0).seq ∧ (x.waits.at 0).seq < x.next) := by rcases Nat.eq_zero_or_pos i with h | h; exact .inl h; exact .inr ⟨h, h0 h⟩
   have hz2 : i = 0 → (x.waits.at i).seq = (x.waits.at 0).seq := fun h => by rw [h]
   refine Md ((i : Int) < (x.waits.n : Int)) (fun h14 => ?_) fun h14 => ?_
   rotate_left
   · exact Me0 0 (by rw [hI, firstF_end (by omega)])
   refine Mi ?_ (pA 47 48 (i : Int) i (s := x.waits) (fun w hk hr => (Rds.kp hx hk)))
   refine Mda 34 [] [] [] Try_mixed ?_
   refine Mih ?_ (pR (x.next - 1))
   refine Mp ?_ Try.call64 (fun bs w hS => ref_In (x.waits.at i).seq 1 (x.next - 1) w)
   refine Mbn (inB (x.waits.at i).seq 1 (x.next - 1)) (fun h15 => ?_) fun h15 => ?_
   rotate_left
   · simp only [iT, iF] at h15
     refine Me0 9 ?_
     have hf : custF x.abs i = 9 := by
       grind [custF]
     rw [hI, firstF_here (by omega) hf (by first | assumption | omega)]
   simp only [iT, iF] at h15
   refine Mih ?_ (pc (pI 61 0 0 (s := x.waits) (fun w hk hr => (Rds.kp hx hk))) (pc (pF 63 0 0 1 (s := x.waits) (fun w hk hr => (Rds.kp hx hk))) (pR ((x.waits.at i).seq - (x.waits.at 0).seq))))
   refine Md ((3 : Int) < (x.waits.at i).seq - (x.waits.at 0).seq) (fun h16 => ?_) fun h16 => ?_
   · refine Me0 9 ?_
     have hf : custF x.abs i = 9 := by
       grind [custF]
     rw [hI, firstF_here (by omega) hf (by first | assumption | omega)]
   refine Md ((0 : Int) < (i : Int)) (fun h17 => ?_) fun h17 => ?_
   rotate_left
   · refine Mp ?_ Try.call59 (fun bs w hS => ref_OpFault (B := anyB) (x.waits.at i).op w ⟨(Sl.ok.at (s := x.waits) (i := i) okx (by omega)).1, (Sl.ok.at (s := x.waits) (i := i) okx (by omega)).2⟩)
     refine Mdn (mOp (x.waits.at i).op = 0) (fun h20 => ?_) fun h20 => ?_
     · refine Mi ?_ (pR ((i : Int) + 1))
       have hf0 : custF x.abs i = 0 := by
         grind [custF]
       exact on2 (i + 1) ⟨by omega, by rw [hI]; exact firstF_step (by omega) hf0, fun _ => by omega⟩ (by omega)
     refine Me0 (mOp (x.waits.at i).op) ?_
     have hf : custF x.abs i = mOp (x.waits.at i).op := by
       grind [custF]
     rw [hI, firstF_here (by omega) hf (by first | assumption | omega)]
   refine Mih ?_ (pc (pR ((i : Int) - 1)) (pc (pI 77 ((i : Int) - 1) (i - 1) (s := x.waits) (fun w hk hr => (Rds.kp hx hk))) (pF 79 (i - 1) 0 1 (s := x.waits) (fun w hk hr => (Rds.kp hx hk)))))
   refine Md ((x.waits.at i).seq ≤ (x.waits.at (i - 1)).seq) (fun h18 => ?_) fun h18 => ?_
   · refine Me0 9 ?_
     have hf : custF x.abs i = 9 := by
       grind [custF]
     rw [hI, firstF_here (by omega) hf (by first | assumption | omega)]
   refine Mp ?_ Try.call59 (fun bs w hS => ref_OpFault (B := anyB) (x.waits.at i).op w ⟨(Sl.ok.at (s := x.waits) (i := i) okx (by omega)).1, (Sl.ok.at (s := x.waits) (i := i) okx (by omega)).2⟩)
   refine Mdn (mOp (x.waits.at i).op = 0) (fun h19 => ?_) fun h19 => ?_
   · refine Mi ?_ (pR ((i : Int) + 1))
     have hf0 : custF x.abs i = 0 := by
       grind [custF]
     exact on2 (i + 1) ⟨by omega, by rw [hI]; exact firstF_step (by omega) hf0, fun _ => by omega⟩ (by omega)
   refine Me0 (mOp (x.waits.at i).op) ?_
   have hf : custF x.abs i = mOp (x.waits.at i).op := by
     grind [custF]
   rw [hI, firstF_here (by omega) hf (by first | assumption | omega)]
 refine Md (x.session = 0) (fun h6 => ?_) fun h6 => ?_
 · have hm : mCust x.abs = 9 := by
     grind [mCust]
   exact Me0 9 hm
 refine Ml (σ := Nat) (fun i => i ≤ x.waits.n ∧ mCust x.abs = firstF (custF x.abs) (x.waits.n - i) i ∧ (0 < i → 1 ≤ (x.waits.at 0).seq ∧ (x.waits.at 0).seq < x.next)) (fun i => x.waits.n - i) (fun _ => []) [3, 1] (fun i => [(3, vI (i : Int))]) (fun _ => []) ?_ 0 ⟨Nat.zero_le _, by unfold mCust; simp only [ha1, ha2, ha3, ha4]; rw [if_neg (by omega), if_neg (by omega)], fun h => absurd h (by omega)⟩
 rintro i ⟨hi, hI, h0⟩ _ on1
 have hz : i = 0 ∨ (0 < i ∧ 1 ≤ (x.waits.at 0).seq ∧ (x.waits.at 0).seq < x.next) := by rcases Nat.eq_zero_or_pos i with h | h; exact .inl h; exact .inr ⟨h, h0 h⟩
 have hz2 : i = 0 → (x.waits.at i).seq = (x.waits.at 0).seq := fun h => by rw [h]
 refine Md ((i : Int) < (x.waits.n : Int)) (fun h7 => ?_) fun h7 => ?_
 rotate_left
 · exact Me0 0 (by rw [hI, firstF_end (by omega)])
 refine Mi ?_ (pA 47 48 (i : Int) i (s := x.waits) (fun w hk hr => (Rds.kp hx hk)))
 refine Mda 34 [] [] [] Try_mixed ?_
 refine Mih ?_ (pR (x.next - 1))
 refine Mp ?_ Try.call64 (fun bs w hS => ref_In (x.waits.at i).seq 1 (x.next - 1) w)
 refine Mbn (inB (x.waits.at i).seq 1 (x.next - 1)) (fun h8 => ?_) fun h8 => ?_
 rotate_left
 · simp only [iT, iF] at h8
   refine Me0 9 ?_
   have hf : custF x.abs i = 9 := by
     grind [custF]
   rw [hI, firstF_here (by omega) hf (by first | assumption | omega)]
 simp only [iT, iF] at h8
 refine Mih ?_ (pc (pI 61 0 0 (s := x.waits) (fun w hk hr => (Rds.kp hx hk))) (pc (pF 63 0 0 1 (s := x.waits) (fun w hk hr => (Rds.kp hx hk))) (pR ((x.waits.at i).seq - (x.waits.at 0).seq))))
 refine Md ((3 : Int) < (x.waits.at i).seq - (x.waits.at 0).seq) (fun h9 => ?_) fun h9 => ?_
 · refine Me0 9 ?_
   have hf : custF x.abs i = 9 := by
     grind [custF]
   rw [hI, firstF_here (by omega) hf (by first | assumption | omega)]
 refine Md ((0 : Int) < (i : Int)) (fun h10 => ?_) fun h10 => ?_
 rotate_left
 · refine Mp ?_ Try.call59 (fun bs w hS => ref_OpFault (B := anyB) (x.waits.at i).op w ⟨(Sl.ok.at (s := x.waits) (i := i) okx (by omega)).1, (Sl.ok.at (s := x.waits) (i := i) okx (by omega)).2⟩)
   refine Mdn (mOp (x.waits.at i).op = 0) (fun h13 => ?_) fun h13 => ?_
   · refine Mi ?_ (pR ((i : Int) + 1))
     have hf0 : custF x.abs i = 0 := by
       grind [custF]
     exact on1 (i + 1) ⟨by omega, by rw [hI]; exact firstF_step (by omega) hf0, fun _ => by omega⟩ (by omega)
   refine Me0 (mOp (x.waits.at i).op) ?_
   have hf : custF x.abs i = mOp (x.waits.at i).op := by
     grind [custF]
   rw [hI, firstF_here (by omega) hf (by first | assumption | omega)]
 refine Mih ?_ (pc (pR ((i : Int) - 1)) (pc (pI 77 ((i : Int) - 1) (i - 1) (s := x.waits) (fun w hk hr => (Rds.kp hx hk))) (pF 79 (i - 1) 0 1 (s := x.waits) (fun w hk hr => (Rds.kp hx hk)))))
 refine Md ((x.waits.at i).seq ≤ (x.waits.at (i - 1)).seq) (fun h11 => ?_) fun h11 => ?_
 · refine Me0 9 ?_
   have hf : custF x.abs i = 9 := by
     grind [custF]
   rw [hI, firstF_here (by omega) hf (by first | assumption | omega)]
 refine Mp ?_ Try.call59 (fun bs w hS => ref_OpFault (B := anyB) (x.waits.at i).op w ⟨(Sl.ok.at (s := x.waits) (i := i) okx (by omega)).1, (Sl.ok.at (s := x.waits) (i := i) okx (by omega)).2⟩)
 refine Mdn (mOp (x.waits.at i).op = 0) (fun h12 => ?_) fun h12 => ?_
 · refine Mi ?_ (pR ((i : Int) + 1))
   have hf0 : custF x.abs i = 0 := by
     grind [custF]
   exact on1 (i + 1) ⟨by omega, by rw [hI]; exact firstF_step (by omega) hf0, fun _ => by omega⟩ (by omega)
 refine Me0 (mOp (x.waits.at i).op) ?_
 have hf : custF x.abs i = mOp (x.waits.at i).op := by
   grind [custF]
 rw [hI, firstF_here (by omega) hf (by first | assumption | omega)]

theorem clone_Wait {B : Nat → Prop} (s : Sl DWait) (w : World) (hs : s.rd B w) (hb : s.n * 56 ≤ 140737488355328) : Calls Try.prog 44 #[s.val] w fun e w' => ∃ y : Sl DWait, e = .returned y.val ∧ y.xs = s.xs ∧ Kp [] w w' ∧ Fresh w w' (rowA 83 y.A y.c y.xs) := by
 have oks := Sl.rd.ok hs
 have ncs := Sl.ok.nc oks
 have hns : s.n = s.xs.length := rfl
 refine M0 ?_ Try.func44
 refine Mi ?_ (pG [(4, .val (.bool s.A.isNone))] (oc ((eq_nil Try.underlying28) : ∀ w, (do eqGuard .eql 28 (.tmp 3) (.const vn) s.val vn; binOp .eql 28 s.val vn : Sem Value).run Try.prog w = .ok (.bool s.A.isNone) w) on))
 refine Mb s.A.isNone (fun h1 => ?_) fun h1 => ?_
 · refine Mt [vn] fun bs w hS => ?_
   have hnil : s.xs = [] := Sl.ok.empty oks (by cases h : s.A <;> simp_all)
   exact ⟨Sl.nil, rfl, hnil.symm, hS.kp, rowA_nil 83 w⟩
 refine Mlz ?_ (α := DWait) (e := 83)
 intro A1
 refine Ma ?_ (α := DWait) (L2 := s.xs) 56 (fun bs w hS => Sl.rd.src (s := s) (Sl.rd.kp hs hS.kp))
 intro A2 c2
 exact Mt [.slice A2 ([] ++ s.xs).length c2] fun bs w hS => ⟨⟨A2, c2, [] ++ s.xs⟩, rfl, by simp, hS.kp, hS.out1⟩

theorem customer_CopyR {B : Nat → Prop} (x : CCustomer) (w : World) (hx : Rds.sub B w x) (hb : x.waits.n * 56 ≤ 140737488355328) : Calls Try.prog 17 #[x.val] w fun e w' => ∃ y : Sl DWait, e = .returned (.agg #[vi x.id, vi x.session, vi x.next, y.val]) ∧ y.xs = x.waits.xs ∧ Kp [] w w' ∧ Fresh w w' (rowA 83 y.A y.c y.xs) := by
 have hat : ∀ q, x.abs.waits.getD q default = x.waits.at q := fun _ => rfl
 have ha1 : x.abs.id = x.id := rfl
 have ha2 : x.abs.session = x.session := rfl
 have ha3 : x.abs.next = x.next := rfl
 have ha4 : x.abs.waits.length = x.waits.n := rfl
 have okx := Rds.okof hx
 have ncx := Sl.ok.nc okx
 have hnx : x.waits.n = x.waits.xs.length := rfl
 refine M0 ?_ Try.func17
 refine Mf ?_ Try.call44 (fun bs w hS => clone_Wait x.waits w (Rds.kp hx hS.kp) hb)
 rintro y1 hF1
 exact Mt [.agg #[vi x.id, vi x.session, vi x.next, y1.val]] fun bs w hS => ⟨y1, rfl, hF1, hS.kp, hS.out1⟩
theorem customer_Copy {B : Nat → Prop} (x : CCustomer) (w : World) (hx : Rds.sub B w x) (hb : x.waits.n * 56 ≤ 140737488355328) : Calls Try.prog 17 #[x.val] w fun e w' => ∃ y : CCustomer, e = .returned (y.val) ∧ y.abs = x.abs ∧ FreshS w w' y :=
  (customer_CopyR x w hx hb).mono fun e w' ⟨y, h1, h2, h3, h4⟩ => ⟨⟨x.id, x.session, x.next, y⟩, h1, by simp [CCustomer.abs, h2], h3, h4.sub fun hp => Rr hp (fun b hb => hb) fun z hz => Sl.rd.mem (s := x.waits) hx z (h2 ▸ hz)⟩

theorem ref_CustomerCopyR {B : Nat → Prop} (x : CCustomer) (w : World) (hx : Rds.sub B w x) (hb : x.waits.n * 56 ≤ 140737488355328) : Calls Try.prog 30 #[x.val] w fun e w' => ∃ y : Sl DWait, e = .returned (.agg #[vi x.id, vi x.session, vi x.next, y.val]) ∧ y.xs = x.waits.xs ∧ Kp [] w w' ∧ Fresh w w' (rowA 83 y.A y.c y.xs) := by
 have hat : ∀ q, x.abs.waits.getD q default = x.waits.at q := fun _ => rfl
 have ha1 : x.abs.id = x.id := rfl
 have ha2 : x.abs.session = x.session := rfl
 have ha3 : x.abs.next = x.next := rfl
 have ha4 : x.abs.waits.length = x.waits.n := rfl
 have okx := Rds.okof hx
 have ncx := Sl.ok.nc okx
 have hnx : x.waits.n = x.waits.xs.length := rfl
 refine M0 ?_ Try.func30
 refine Mda 10 [] [] [] Try_mixed ?_
 refine m_rowA (α := DWait) 83 ?_
 refine Ma ?_ (α := DWait) (L2 := x.waits.xs) 56 (fun bs w hS => Sl.rd.src (s := x.waits) (Rds.kp hx hS.kp))
 intro A1 c1
 exact Mt [.agg #[vi x.id, vi x.session, vi x.next, .slice A1 ([] ++ x.waits.xs).length c1]] fun bs w hS => ⟨⟨A1, c1, [] ++ x.waits.xs⟩, rfl, by simp, hS.kp, hS.out1⟩
theorem ref_CustomerCopy {B : Nat → Prop} (x : CCustomer) (w : World) (hx : Rds.sub B w x) (hb : x.waits.n * 56 ≤ 140737488355328) : Calls Try.prog 30 #[x.val] w fun e w' => ∃ y : CCustomer, e = .returned (y.val) ∧ y.abs = x.abs ∧ FreshS w w' y :=
  (ref_CustomerCopyR x w hx hb).mono fun e w' ⟨y, h1, h2, h3, h4⟩ => ⟨⟨x.id, x.session, x.next, y⟩, h1, by simp [CCustomer.abs, h2], h3, h4.sub fun hp => Rr hp (fun b hb => hb) fun z hz => Sl.rd.mem (s := x.waits) hx z (h2 ▸ hz)⟩

theorem same_customer {B B' : Nat → Prop} (a b : CCustomer) (w : World) (ha : Rds.sub B w a) (hb : Rds.sub B' w b) (he : a.abs = b.abs) : Calls Try.prog 18 #[a.val, b.val] w fun e w' => e = .returned (vb true) ∧ Kp [] w w' := by
 have oka := Rds.okof ha
 have okb := Rds.okof hb
 have hw : a.waits.xs = b.waits.xs := congrArg DCustomer.waits he
 have hwn := xs_n hw
 have h1 : a.id = b.id := congrArg DCustomer.id he
 have h2 : a.session = b.session := congrArg DCustomer.session he
 have h3 : a.next = b.next := congrArg DCustomer.next he
 have nca := Sl.ok.nc oka
 refine M0 ?_ Try.func18
 refine Mdn (a.id = b.id) (fun h11 => ?_) fun h11 => ?_
 rotate_left
 · exfalso; first | omega | (rw [hat] at h11; simp at h11)
 refine Mdn (a.session = b.session) (fun h12 => ?_) fun h12 => ?_
 rotate_left
 · exfalso; first | omega | (rw [hat] at h12; simp at h12)
 refine Mdn (a.next = b.next) (fun h13 => ?_) fun h13 => ?_
 rotate_left
 · exfalso; first | omega | (rw [hat] at h13; simp at h13)
 refine Mdn ((a.waits.n : Int) = (b.waits.n : Int)) (fun h14 => ?_) fun h14 => ?_
 rotate_left
 · exfalso; first | omega | (rw [hat] at h14; simp at h14)
 refine Ml (σ := Nat) (fun i => True) (fun i => a.waits.n - i) (fun _ => []) [5, 3, 2] (fun i => [(5, vI (i : Int))]) (fun _ => []) ?_ 0 trivial
 rintro i _ _ on1
 have hat := xs_at hw i
 refine Md ((i : Int) < (a.waits.n : Int)) (fun h15 => ?_) fun h15 => ?_
 rotate_left
 · exact Mt [vb true] fun bs w hS => ⟨rfl, hS.kp⟩
 refine Mda 11 [] [] [] Try_mixed ?_
 refine Mih ?_ (pc (pA 44 45 (i : Int) i (s := a.waits) (fun w hk hr => (Rds.kp ha hk))) (pc (pA 49 50 (i : Int) i (s := b.waits) (fun w hk hr => (Rds.kp hb hk))) (pG [(51, .val (vb (!((decide ((a.waits.at i).seq = (b.waits.at i).seq)) && (((decide ((a.waits.at i).op.kind = (b.waits.at i).op.kind)) && ((decide ((a.waits.at i).op.a = (b.waits.at i).op.a)) && ((decide ((a.waits.at i).op.b = (b.waits.at i).op.b)) && ((decide ((a.waits.at i).op.n = (b.waits.at i).op.n)) && true)))) && true)))))] (oc ((neq_agg (by kernel_rfl) (by kernel_rfl)) : ∀ w, (do eqGuard .neq 83 (.tmp 45) (.tmp 50) (a.waits.at i).val (b.waits.at i).val; binOp .neq 83 (a.waits.at i).val (b.waits.at i).val : Sem Value).run Try.prog w = .ok (vb (!((decide ((a.waits.at i).seq = (b.waits.at i).seq)) && (((decide ((a.waits.at i).op.kind = (b.waits.at i).op.kind)) && ((decide ((a.waits.at i).op.a = (b.waits.at i).op.a)) && ((decide ((a.waits.at i).op.b = (b.waits.at i).op.b)) && ((decide ((a.waits.at i).op.n = (b.waits.at i).op.n)) && true)))) && true)))) w) on))))
 refine Mbn ((decide ((a.waits.at i).seq = (b.waits.at i).seq)) && (((decide ((a.waits.at i).op.kind = (b.waits.at i).op.kind)) && ((decide ((a.waits.at i).op.a = (b.waits.at i).op.a)) && ((decide ((a.waits.at i).op.b = (b.waits.at i).op.b)) && ((decide ((a.waits.at i).op.n = (b.waits.at i).op.n)) && true)))) && true)) (fun h16 => ?_) fun h16 => ?_
 rotate_left
 · exfalso; first | omega | (rw [hat] at h16; simp at h16)
 refine Mi ?_ (pR ((i : Int) + 1))
 exact on1 (i + 1) trivial (by omega)

theorem idxF_Wait {B : Nat → Prop} (s : Sl (Fl DWait)) (p : Fl DWait → Bool) (kf : Nat) (caps : Array Value) (w : World) (hs : s.rd B w) (hcall : ∀ args w, (callFunc kf args).run Try.prog w = .ok (.enter kf args) w)
    (hf : ∀ (w' : World) (x : (Fl DWait)), x ∈ s.xs → Kp [] w w' → Calls Try.prog kf (#[x.v.val] ++ caps) w' fun e w'' => e = .returned (vb (p x)) ∧ Kp [] w' w'') : Calls Try.prog 61 #[.slice s.A s.n s.c, .func (.func kf) #[] caps] w fun e w' => e = .returned (vi (mIdx p s.xs)) ∧ Kp [] w w' := by
 have oks := Sl.rd.ok hs
 have ncs := Sl.ok.nc oks
 have hns : s.n = s.xs.length := rfl
 refine M0 ?_ Try.func61
 refine Ml (σ := Nat) (fun i => i ≤ s.n ∧ ∀ j, j < i → p (s.at j) = false) (fun i => s.n - i) (fun _ => []) [8, 7, 0, 1] (fun i => [(8, vI (i : Int))]) (fun _ => []) ?_ 0 ⟨Nat.zero_le _, fun j hj => absurd hj (Nat.not_lt_zero _)⟩
 rintro i ⟨hi, hI⟩ _ on1
 refine Md ((i : Int) < (s.n : Int)) (fun h1 => ?_) (fun h1 => ?_)
 rotate_left
 · refine Mt [.int .i64 (-1)] fun bs w hS => ?_
   refine ⟨?_, hS.kp⟩
   rw [mIdx_none fun j hj => hI j (by omega)]
   rfl
 refine Mi ?_ (pA 14 15 (i : Int) i (rdk hs))
 refine Mv ?_ hcall (fun bs w hS => hf w (s.at i) (List.mem_of_getElem? (Sl.at_some (show i < s.n by omega))) hS.kp)
 refine Mb (p (s.at i)) (fun h2 => ?_) (fun h2 => ?_)
 · refine Mt [.int .i64 (i : Int)] fun bs w hS => ?_
   refine ⟨?_, hS.kp⟩
   rw [mIdx_here (i := i) (by omega) (by assumption) hI]
   rfl
 refine Mi ?_ (pR ((i : Int) + 1))
 exact on1 (i + 1) ⟨by omega, fun j hj => by rcases Nat.lt_succ_iff_lt_or_eq.1 hj with h | h; exact hI j h; subst h; assumption⟩ (by omega)
theorem idx_Wait {B : Nat → Prop} (s : Sl DWait) (p : DWait → Bool) (kf : Nat) (caps : Array Value) (w : World) (hs : s.rd B w) (hcall : ∀ args w, (callFunc kf args).run Try.prog w = .ok (.enter kf args) w)
    (hf : ∀ (w' : World) (x : DWait), x ∈ s.xs → Kp [] w w' → Calls Try.prog kf (#[x.val] ++ caps) w' fun e w'' => e = .returned (vb (p x)) ∧ Kp [] w' w'') : Calls Try.prog 61 #[s.val, .func (.func kf) #[] caps] w fun e w' => e = .returned (vi (mIdx p s.xs)) ∧ Kp [] w w' := by
  have h := idxF_Wait (⟨s.A, s.c, fls s.xs⟩ : Sl (Fl DWait)) (fun x => p x.v) kf caps w hs.fl hcall (fun w' x hx hk => hf w' x.v (by obtain ⟨y, hy, rfl⟩ := List.mem_map.1 hx; exact hy) hk)
  simp only [mIdx_fl, Sl.n, List.length_map] at h
  exact h

theorem delR_Wait (A : Option Addr) (c : Nat) (L : List DWait) (i j : Nat) (ii jj : Int) (w : World) (hrow : (rowA 83 A c L).p w) (hlt : ∀ b, b ∈ (rowA 83 A c L).fp → b < w.heap.size) (ei : ii = (i : Int)) (ej : jj = (j : Int)) (hij : i ≤ j) (hj : j ≤ L.length) :
    Calls Try.prog 63 #[.slice A L.length c, vi ii, vi jj] w fun e w' => e = .returned (.slice A (L.take i ++ L.drop j).length c) ∧ Turned (rowA 83 A c L) w w' (rowA 83 A c (L.take i ++ L.drop j)) := by
 subst ei ej
 have hrok := rowA_rok hrow
 have nc := hrok.2
 refine Mj ?_ Try.func63 (WS.start1 w _ hrow (by cases A <;> simp [rowA, rowR]) hlt)
 refine Ms3 (e := 83) (A := A) (n := L.length) (il := (i : Int)) (ih := (j : Int)) (im := (L.length : Int)) (c := c) i j L.length ?_ rfl rfl rfl (by omega) (by omega) (by omega)
 refine Md ((i : Int) = (j : Int)) (fun h1 => ?_) fun h1 => ?_
 · refine Mt [.slice A L.length c] fun bs w hS => ?_
   have hij2 : i = j := by omega
   subst hij2
   rw [List.take_append_drop]
   exact ⟨rfl, hS.turned⟩
 refine Mdr 6 ?_ Try_mixed
 refine Mih ?_ (pc (pG [(22, .sl 0 i)] (oc (rfl : 0 = 0) (oc (rfl : (i : Int) = (i : Int)) (oc ((by omega) : i ≤ c) on)))) (pG [(25, .sl j L.length)] (oc (rfl : (j : Int) = (j : Int)) (oc (rfl : L.length = L.length) (oc ((by omega) : j ≤ L.length) on)))))
 refine Mz ?_
 refine Mad 56 i j ?_ hij hj
 refine Mi ?_ (pG [(31, .sl (i + (L.length - j)) L.length)] (oc (rfl : ((i + (L.length - j) : Nat) : Int) = (((i + (L.length - j)) : Nat) : Int)) (oc (rfl : (L.length : Int) = (L.length : Int)) (oc ((by omega) : (i + (L.length - j)) ≤ L.length) (oc ((by omega) : L.length ≤ c) on)))))
 refine Mcl (i + (L.length - j)) (L.length - (i + (L.length - j))) ?_ (by simp only [List.length_append, List.length_take, List.length_drop]; omega) (by omega)
 refine Mt [.slice A (i + (L.length - j)) c] fun bs w hS => ?_
 have hlen : (L.take i ++ L.drop j).length = i + (L.length - j) := by simp only [List.length_append, List.length_take, List.length_drop]; omega
 have hS2 := hS
 rw [← hlen, List.take_length] at hS2
 refine ⟨?_, hS2.turned⟩
 rw [hlen]
 rfl

theorem clo_customer_Hear_1 (x : DWait) (m : DMail) (b : Nat) (w : World) (hb : (blkR b 65 [vi m.client, vi m.seq, vi m.reply.code, vi m.reply.n, vs m.reply.text]).p w) : Calls Try.prog 62 #[x.val, .pointer (some (⟨b, 0, none⟩ : Addr))] w fun e w' => e = .returned (vb (decide (x.seq = m.seq))) ∧ Kp [] w w' := by
 refine M0 ?_ Try.func62
 refine Mi ?_ (pX 7 [vi m.seq] (fun w hk hr => (blkR_fld (blkR_kp hb hk) 1 1 rfl)))
 exact Mt [vb (decide (x.seq = m.seq))] fun bs w hS => ⟨rfl, hS.kp⟩

theorem customer_Hear {B : Nat → Prop} (x : CCustomer) (m : DMail) (w : World) (hx : Rds.sub B w x) (hmx : Rds.sub B w m) : Calls Try.prog 33 #[x.val, m.val] w fun e w' => ∃ y : CCustomer, e = .returned (.tuple #[y.val, vi (mHear x.abs m).2]) ∧ y.abs = (mHear x.abs m).1 ∧ FreshS w w' y := by
 have hat : ∀ q, x.abs.waits.getD q default = x.waits.at q := fun _ => rfl
 have ha1 : x.abs.id = x.id := rfl
 have ha2 : x.abs.session = x.session := rfl
 have ha3 : x.abs.next = x.next := rfl
 have ha4 : x.abs.waits.length = x.waits.n := rfl
 have okx := Rds.okof hx
 have ncx := Sl.ok.nc okx
 have hnx : x.waits.n = x.waits.xs.length := rfl
 have hmm := Rds.okof hmx
 refine M0 ?_ Try.func33
 refine Mp ?_ Try.call55 (fun bs w hS => customer_Check x w (Rds.kp hx hS.kp))
 refine Mdn (mCust x.abs = 0) (fun h1 => ?_) fun h1 => ?_
 rotate_left
 · have hm : mHear x.abs m = (zCust, mCust x.abs) := by
     have ha5 : x.abs.waits = x.waits.xs := rfl
     unfold mHear; rw [ha1, ha2, ha3, ha5]; try simp only [h1, ne_eq, not_true_eq_false, not_false_eq_true, if_true, if_false, reduceIte, true_or, or_true, or_self, false_or, or_false]
     repeat (first | rw [if_pos (by omega)] | rw [if_neg (by omega)])
     all_goals rfl
   exact Me2 hm ⟨0, 0, 0, Sl.nil⟩ rfl fun bs w hS => hS.outS (y := (⟨0, 0, 0, Sl.nil⟩ : CCustomer)) (Sl.rd_nil _ _)
 have hack := mAck_bd h1
 obtain ⟨hb1, hb2, hb3, hb4, hb5, hb6, hb7, hb8, hb9⟩ := mCust_bd h1
 rw [ha1] at hb1 hb2
 rw [ha2] at hb3 hb4
 rw [ha3] at hb5 hb6
 rw [ha4] at hb7 hb9
 have hseq : ∀ j, j < x.waits.n → 1 ≤ (x.waits.at j).seq ∧ (x.waits.at j).seq ≤ 1048576 := fun j hj => by have hz := custF_bd (hb9 j hj); rw [hat, ha3] at hz; omega
 refine Mdn (m.client = x.id) (fun h2 => ?_) fun h2 => ?_
 rotate_left
 · have hm : mHear x.abs m = (zCust, 6) := by
     have ha5 : x.abs.waits = x.waits.xs := rfl
     unfold mHear; rw [ha1, ha2, ha3, ha5]; try simp only [h1, h2, ne_eq, not_true_eq_false, not_false_eq_true, if_true, if_false, reduceIte, true_or, or_true, or_self, false_or, or_false]
     repeat (first | rw [if_pos (by omega)] | rw [if_neg (by omega)])
     all_goals rfl
   exact Me2 hm ⟨0, 0, 0, Sl.nil⟩ rfl fun bs w hS => hS.outS (y := (⟨0, 0, 0, Sl.nil⟩ : CCustomer)) (Sl.rd_nil _ _)
 refine Mf ?_ Try.call17 (fun bs w hS => customer_CopyR x w (Rds.kp hx hS.kp) (by omega))
 rintro y1 hF1
 refine m_know (F := RowOk y1.A y1.c (y1.xs : List DWait)) (fun bs w hS => rowA_rok (hS.res _ i0)) fun hrow1 => ?_
 have nchrow1 := hrow1.2
 have hsz1 : ∀ z, z ∈ y1.xs → z.op.a.size ≤ 9223372036854775807 ∧ z.op.b.size ≤ 9223372036854775807 := fun z hz => Sl.rd.mem (s := x.waits) hx z (hF1 ▸ hz)
 have hnn1 := xs_n hF1
 have hnx1 : y1.n = y1.xs.length := rfl
 have hok1 : Sl.ok y1 := ⟨nchrow1.1, by unfold maxLen; exact nchrow1.2, fun i hi => ⟨hrow1.1 i hi, hsz1 _ (List.mem_of_getElem? (Sl.at_some hi))⟩⟩
 refine Md (m.seq = 0) (fun h3 => ?_) fun h3 => ?_
 rotate_left
 · refine Mp ?_ Try.call61 (fun bs w hS => idx_Wait y1 (fun z : DWait => decide (z.seq = m.seq)) 62 #[.pointer (some (adr bs 1 0))] w (Rr (A := y1.A) (c := y1.c) (L := y1.xs) (B := anyB) (hS.res _ i0) (fun _ _ => trivial) hsz1) Try.call62 (fun w' z hz hk => clo_customer_Hear_1 z m (bs.getD 1 0) w' (show (blkR _ _ _).p w' from (hS.pure hk).loc 1 ⟨65, m.cs⟩ (by kernel_rfl) (by simp))))
   refine Md (mIdx (fun z : DWait => decide (z.seq = m.seq)) y1.xs < 0) (fun h11 => ?_) fun h11 => ?_
   · have hidz : mIdx (fun z : DWait => decide (z.seq = m.seq)) x.waits.xs < 0 := by rw [← hF1]; omega
     have hm : mHear x.abs m = (zCust, 12) := by
       have ha5 : x.abs.waits = x.waits.xs := rfl
       unfold mHear; rw [ha1, ha2, ha3, ha5]; try simp only [h1, h2, h3, ne_eq, not_true_eq_false, not_false_eq_true, if_true, if_false, reduceIte, true_or, or_true, or_self, false_or, or_false]
       repeat (first | rw [if_pos (by omega)] | rw [if_neg (by omega)])
       all_goals rfl
     exact Me2 hm ⟨0, 0, 0, Sl.nil⟩ rfl fun bs w hS => hS.outS (y := (⟨0, 0, 0, Sl.nil⟩ : CCustomer)) (Sl.rd_nil _ _)
   have hbdx := mIdx_bd (fun z : DWait => decide (z.seq = m.seq)) y1.xs
   refine Md (m.reply.code = 11) (fun h12 => ?_) fun h12 => ?_
   · refine Mt [.agg #[vi x.id, vi 0, vi x.next, vn], vi 0] fun bs w hS => ?_
     have e4 := hF1
     have hid : ¬ mIdx (fun z : DWait => decide (z.seq = m.seq)) x.waits.xs < 0 := by rw [← hF1]; omega
     have hm : mHear x.abs m = (⟨x.id, 0, x.next, []⟩, 0) := by
       have ha5 : x.abs.waits = x.waits.xs := rfl
       unfold mHear; rw [ha1, ha2, ha3, ha5]; try simp only [h1, h2, h3, h12, ne_eq, not_true_eq_false, not_false_eq_true, if_true, if_false, reduceIte, true_or, or_true, or_self, false_or, or_false]
       repeat (first | rw [if_pos (by omega)] | rw [if_neg (by omega)])
       all_goals rfl
     refine ⟨⟨x.id, 0, x.next, Sl.nil⟩, ?_, ?_, hS.outS (y := (⟨x.id, 0, x.next, Sl.nil⟩ : CCustomer)) (Sl.rd_nil _ _)⟩
     · rw [hm]; rfl
     · rw [hm]; simp [CCustomer.abs, Sl.nil]
   refine Mi ?_ (pR ((mIdx (fun z : DWait => decide (z.seq = m.seq)) y1.xs) + 1))
   refine Mtu ?_ (σ := Unit) (v := fun _ => .slice y1.A (y1.xs.take (mIdx (fun z : DWait => decide (z.seq = m.seq)) y1.xs).toNat ++ y1.xs.drop ((mIdx (fun z : DWait => decide (z.seq = m.seq)) y1.xs).toNat + 1)).length y1.c) (F := fun _ => True) (r := fun _ => rowA 83 y1.A y1.c (y1.xs.take (mIdx (fun z : DWait => decide (z.seq = m.seq)) y1.xs).toNat ++ y1.xs.drop ((mIdx (fun z : DWait => decide (z.seq = m.seq)) y1.xs).toNat + 1) : List DWait)) (vs := fun bs => [y1.val, vi (mIdx (fun z : DWait => decide (z.seq = m.seq)) y1.xs), vi ((mIdx (fun z : DWait => decide (z.seq = m.seq)) y1.xs) + 1)]) Try.call63 (fun bs w hS => (delR_Wait y1.A y1.c y1.xs (mIdx (fun z : DWait => decide (z.seq = m.seq)) y1.xs).toNat ((mIdx (fun z : DWait => decide (z.seq = m.seq)) y1.xs).toNat + 1) _ _ w (hS.res _ i0) hS.head1.2.2 (by omega) (by omega) (by first | omega | (simp only [Sl.n] at *; omega)) (by first | omega | (simp only [Sl.n] at *; omega))).mono (fun e w' ⟨h1, h2⟩ => ⟨(), h1, trivial, h2⟩))
   rintro _ _
   refine Mt [.agg #[vi x.id, vi x.session, vi x.next, .slice y1.A (y1.xs.take (mIdx (fun z : DWait => decide (z.seq = m.seq)) y1.xs).toNat ++ y1.xs.drop ((mIdx (fun z : DWait => decide (z.seq = m.seq)) y1.xs).toNat + 1)).length y1.c], vi 0] fun bs w hS => ?_
   have e4 := hF1
   have hfl : y1.xs.take (mIdx (fun z : DWait => decide (z.seq = m.seq)) y1.xs).toNat ++ y1.xs.drop ((mIdx (fun z : DWait => decide (z.seq = m.seq)) y1.xs).toNat + 1) = x.waits.xs.filter fun z => !decide (z.seq = m.seq) := by rw [hF1]; exact waits_one (x := x.abs) (by assumption) (by show mIdx _ x.waits.xs = _; rw [← hF1]; omega)
   have hid : ¬ mIdx (fun z : DWait => decide (z.seq = m.seq)) x.waits.xs < 0 := by rw [← hF1]; omega
   have hm : mHear x.abs m = (⟨x.id, x.session, x.next, x.waits.xs.filter fun z => !decide (z.seq = m.seq)⟩, 0) := by
     have ha5 : x.abs.waits = x.waits.xs := rfl
     unfold mHear; rw [ha1, ha2, ha3, ha5]; try simp only [h1, h2, h3, h12, ne_eq, not_true_eq_false, not_false_eq_true, if_true, if_false, reduceIte, true_or, or_true, or_self, false_or, or_false]
     repeat (first | rw [if_pos (by omega)] | rw [if_neg (by omega)])
     all_goals rfl
   refine ⟨⟨x.id, x.session, x.next, ⟨y1.A, y1.c, y1.xs.take (mIdx (fun z : DWait => decide (z.seq = m.seq)) y1.xs).toNat ++ y1.xs.drop ((mIdx (fun z : DWait => decide (z.seq = m.seq)) y1.xs).toNat + 1)⟩⟩, ?_, ?_, hS.outS (y := (⟨x.id, x.session, x.next, ⟨y1.A, y1.c, y1.xs.take (mIdx (fun z : DWait => decide (z.seq = m.seq)) y1.xs).toNat ++ y1.xs.drop ((mIdx (fun z : DWait => decide (z.seq = m.seq)) y1.xs).toNat + 1)⟩⟩ : CCustomer)) (allR_row i0 (hS.res _ i0) (fun z hz => Sl.rd.mem (s := x.waits) hx z (List.mem_filter.1 (hfl ▸ hz)).1))⟩
   · rw [hm]; rfl
   · rw [hm]; simp [CCustomer.abs, hfl]
 refine Md ((0 : Int) < x.session) (fun h4 => ?_) fun h4 => ?_
 · have hm : mHear x.abs m = (zCust, 12) := by
     have ha5 : x.abs.waits = x.waits.xs := rfl
     unfold mHear; rw [ha1, ha2, ha3, ha5]; try simp only [h1, h2, h3, ne_eq, not_true_eq_false, not_false_eq_true, if_true, if_false, reduceIte, true_or, or_true, or_self, false_or, or_false]
     repeat (first | rw [if_pos (by omega)] | rw [if_neg (by omega)])
     all_goals rfl
   exact Me2 hm ⟨0, 0, 0, Sl.nil⟩ rfl fun bs w hS => hS.outS (y := (⟨0, 0, 0, Sl.nil⟩ : CCustomer)) (Sl.rd_nil _ _)
 refine Mdn (m.reply.code = 0) (fun h5 => ?_) fun h5 => ?_
 · refine Md (m.reply.n < 1) (fun h6 => ?_) fun h6 => ?_
   · have hm : mHear x.abs m = (zCust, 2) := by
       have ha5 : x.abs.waits = x.waits.xs := rfl
       unfold mHear; rw [ha1, ha2, ha3, ha5]; try simp only [h1, h2, h3, h5, ne_eq, not_true_eq_false, not_false_eq_true, if_true, if_false, reduceIte, true_or, or_true, or_self, false_or, or_false]
       repeat (first | rw [if_pos (by omega)] | rw [if_neg (by omega)])
       all_goals rfl
     exact Me2 hm ⟨0, 0, 0, Sl.nil⟩ rfl fun bs w hS => hS.outS (y := (⟨0, 0, 0, Sl.nil⟩ : CCustomer)) (Sl.rd_nil _ _)
   refine Md ((1073741824 : Int) < m.reply.n) (fun h7 => ?_) fun h7 => ?_
   · have hm : mHear x.abs m = (zCust, 2) := by
       have ha5 : x.abs.waits = x.waits.xs := rfl
       unfold mHear; rw [ha1, ha2, ha3, ha5]; try simp only [h1, h2, h3, h5, ne_eq, not_true_eq_false, not_false_eq_true, if_true, if_false, reduceIte, true_or, or_true, or_self, false_or, or_false]
       repeat (first | rw [if_pos (by omega)] | rw [if_neg (by omega)])
       all_goals rfl
     exact Me2 hm ⟨0, 0, 0, Sl.nil⟩ rfl fun bs w hS => hS.outS (y := (⟨0, 0, 0, Sl.nil⟩ : CCustomer)) (Sl.rd_nil _ _)
   refine Mt [.agg #[vi x.id, vi m.reply.n, vi x.next, y1.val], vi 0] fun bs w hS => ?_
   have e4 := hF1
   have hm : mHear x.abs m = (⟨x.id, m.reply.n, x.next, x.waits.xs⟩, 0) := by
     have ha5 : x.abs.waits = x.waits.xs := rfl
     unfold mHear; rw [ha1, ha2, ha3, ha5]; try simp only [h1, h2, h3, h5, ne_eq, not_true_eq_false, not_false_eq_true, if_true, if_false, reduceIte, true_or, or_true, or_self, false_or, or_false]
     repeat (first | rw [if_pos (by omega)] | rw [if_neg (by omega)])
     all_goals rfl
   refine ⟨⟨x.id, m.reply.n, x.next, y1⟩, ?_, ?_, hS.outS (y := (⟨x.id, m.reply.n, x.next, y1⟩ : CCustomer)) (allR_row i0 (hS.res _ i0) hsz1)⟩
   · rw [hm]; rfl
   · rw [hm]; simp [CCustomer.abs, e4]
 refine Mdn (m.reply.code = 7) (fun h8 => ?_) fun h8 => ?_
 rotate_left
 · refine Mt [.agg #[vi x.id, vi x.session, vi x.next, y1.val], vi 0] fun bs w hS => ?_
   have e4 := hF1
   have hm : mHear x.abs m = (⟨x.id, x.session, x.next, x.waits.xs⟩, 0) := by
     have ha5 : x.abs.waits = x.waits.xs := rfl
     unfold mHear; rw [ha1, ha2, ha3, ha5]; try simp only [h1, h2, h3, h5, h8, ne_eq, not_true_eq_false, not_false_eq_true, if_true, if_false, reduceIte, true_or, or_true, or_self, false_or, or_false]
     repeat (first | rw [if_pos (by omega)] | rw [if_neg (by omega)])
     all_goals rfl
   refine ⟨⟨x.id, x.session, x.next, y1⟩, ?_, ?_, hS.outS (y := (⟨x.id, x.session, x.next, y1⟩ : CCustomer)) (allR_row i0 (hS.res _ i0) hsz1)⟩
   · rw [hm]; rfl
   · rw [hm]; simp [CCustomer.abs, e4]
 refine Md (m.reply.n < 1) (fun h9 => ?_) fun h9 => ?_
 · have hm : mHear x.abs m = (zCust, 2) := by
     have ha5 : x.abs.waits = x.waits.xs := rfl
     unfold mHear; rw [ha1, ha2, ha3, ha5]; try simp only [h1, h2, h3, h5, h8, ne_eq, not_true_eq_false, not_false_eq_true, if_true, if_false, reduceIte, true_or, or_true, or_self, false_or, or_false]
     repeat (first | rw [if_pos (by omega)] | rw [if_neg (by omega)])
     all_goals rfl
   exact Me2 hm ⟨0, 0, 0, Sl.nil⟩ rfl fun bs w hS => hS.outS (y := (⟨0, 0, 0, Sl.nil⟩ : CCustomer)) (Sl.rd_nil _ _)
 refine Md ((1073741824 : Int) < m.reply.n) (fun h10 => ?_) fun h10 => ?_
 · have hm : mHear x.abs m = (zCust, 2) := by
     have ha5 : x.abs.waits = x.waits.xs := rfl
     unfold mHear; rw [ha1, ha2, ha3, ha5]; try simp only [h1, h2, h3, h5, h8, ne_eq, not_true_eq_false, not_false_eq_true, if_true, if_false, reduceIte, true_or, or_true, or_self, false_or, or_false]
     repeat (first | rw [if_pos (by omega)] | rw [if_neg (by omega)])
     all_goals rfl
   exact Me2 hm ⟨0, 0, 0, Sl.nil⟩ rfl fun bs w hS => hS.outS (y := (⟨0, 0, 0, Sl.nil⟩ : CCustomer)) (Sl.rd_nil _ _)
 refine Mt [.agg #[vi x.id, vi m.reply.n, vi x.next, y1.val], vi 0] fun bs w hS => ?_
 have e4 := hF1
 have hm : mHear x.abs m = (⟨x.id, m.reply.n, x.next, x.waits.xs⟩, 0) := by
   have ha5 : x.abs.waits = x.waits.xs := rfl
   unfold mHear; rw [ha1, ha2, ha3, ha5]; try simp only [h1, h2, h3, h5, h8, ne_eq, not_true_eq_false, not_false_eq_true, if_true, if_false, reduceIte, true_or, or_true, or_self, false_or, or_false]
   repeat (first | rw [if_pos (by omega)] | rw [if_neg (by omega)])
   all_goals rfl
 refine ⟨⟨x.id, m.reply.n, x.next, y1⟩, ?_, ?_, hS.outS (y := (⟨x.id, m.reply.n, x.next, y1⟩ : CCustomer)) (allR_row i0 (hS.res _ i0) hsz1)⟩
 · rw [hm]; rfl
 · rw [hm]; simp [CCustomer.abs, e4]

theorem ref_ToldOf {B : Nat → Prop} (x : CCustomer) (m : DMail) (w : World) (hx : Rds.sub B w x) (hmx : Rds.sub B w m) : Calls Try.prog 34 #[x.val, m.val] w fun e w' => ∃ y : CCustomer, e = .returned (.tuple #[y.val, vi (mHear x.abs m).2]) ∧ y.abs = (mHear x.abs m).1 ∧ FreshS w w' y := by
 have hat : ∀ q, x.abs.waits.getD q default = x.waits.at q := fun _ => rfl
 have ha1 : x.abs.id = x.id := rfl
 have ha2 : x.abs.session = x.session := rfl
 have ha3 : x.abs.next = x.next := rfl
 have ha4 : x.abs.waits.length = x.waits.n := rfl
 have okx := Rds.okof hx
 have ncx := Sl.ok.nc okx
 have hnx : x.waits.n = x.waits.xs.length := rfl
 have hmm := Rds.okof hmx
 refine M0 ?_ Try.func34
 refine Mp ?_ Try.call58 (fun bs w hS => ref_CustomerFault x w (Rds.kp hx hS.kp))
 refine Md (mCust x.abs = 0) (fun h1 => ?_) fun h1 => ?_
 rotate_left
 · refine My false true ?_ (df h1)
   have hm : mHear x.abs m = (zCust, mCust x.abs) := by
     have ha5 : x.abs.waits = x.waits.xs := rfl
     unfold mHear; rw [ha1, ha2, ha3, ha5]; try simp only [h1, ne_eq, not_true_eq_false, not_false_eq_true, if_true, if_false, reduceIte, true_or, or_true, or_self, false_or, or_false]
     repeat (first | rw [if_pos (by omega)] | rw [if_neg (by omega)])
     all_goals rfl
   exact Me2 hm ⟨0, 0, 0, Sl.nil⟩ rfl fun bs w hS => hS.outS (y := (⟨0, 0, 0, Sl.nil⟩ : CCustomer)) (Sl.rd_nil _ _)
 have hack := mAck_bd h1
 obtain ⟨hb1, hb2, hb3, hb4, hb5, hb6, hb7, hb8, hb9⟩ := mCust_bd h1
 rw [ha1] at hb1 hb2
 rw [ha2] at hb3 hb4
 rw [ha3] at hb5 hb6
 rw [ha4] at hb7 hb9
 have hseq : ∀ j, j < x.waits.n → 1 ≤ (x.waits.at j).seq ∧ (x.waits.at j).seq ≤ 1048576 := fun j hj => by have hz := custF_bd (hb9 j hj); rw [hat, ha3] at hz; omega
 refine Mdn (m.client = x.id) (fun h2 => ?_) fun h2 => ?_
 rotate_left
 · refine Mq 22 true ?_ rfl
   have hm : mHear x.abs m = (zCust, 6) := by
     have ha5 : x.abs.waits = x.waits.xs := rfl
     unfold mHear; rw [ha1, ha2, ha3, ha5]; try simp only [h1, h2, ne_eq, not_true_eq_false, not_false_eq_true, if_true, if_false, reduceIte, true_or, or_true, or_self, false_or, or_false]
     repeat (first | rw [if_pos (by omega)] | rw [if_neg (by omega)])
     all_goals rfl
   exact Me2 hm ⟨0, 0, 0, Sl.nil⟩ rfl fun bs w hS => hS.outS (y := (⟨0, 0, 0, Sl.nil⟩ : CCustomer)) (Sl.rd_nil _ _)
 refine My true true ?_ (dt h1)
 refine Mu ?_ Try.call30 (fun bs w hS => ref_CustomerCopy x w (Rds.kp hx hS.kp) (by omega))
 rintro fp1 y1 hF1 hok1
 refine Md (m.seq = 0) (fun h4 => ?_) fun h4 => ?_
 · refine Md ((0 : Int) < x.session) (fun h5 => ?_) fun h5 => ?_
   · have hm : mHear x.abs m = (zCust, 12) := by
       have ha5 : x.abs.waits = x.waits.xs := rfl
       unfold mHear; rw [ha1, ha2, ha3, ha5]; try simp only [h1, h2, h4, ne_eq, not_true_eq_false, not_false_eq_true, if_true, if_false, reduceIte, true_or, or_true, or_self, false_or, or_false]
       repeat (first | rw [if_pos (by omega)] | rw [if_neg (by omega)])
       all_goals rfl
     exact Me2 hm ⟨0, 0, 0, Sl.nil⟩ rfl fun bs w hS => hS.outS (y := (⟨0, 0, 0, Sl.nil⟩ : CCustomer)) (Sl.rd_nil _ _)
   refine Md (m.reply.code = 0) (fun h6 => ?_) fun h6 => ?_
   · refine Mp ?_ Try.call64 (fun bs w hS => ref_In m.reply.n 1 1073741824 w)
     refine Mbn (inB m.reply.n 1 1073741824) (fun h7 => ?_) fun h7 => ?_
     rotate_left
     · simp only [iT, iF] at h7
       have hm : mHear x.abs m = (zCust, 2) := by
         have ha5 : x.abs.waits = x.waits.xs := rfl
         unfold mHear; rw [ha1, ha2, ha3, ha5]; try simp only [h1, h2, h4, h6, ne_eq, not_true_eq_false, not_false_eq_true, if_true, if_false, reduceIte, true_or, or_true, or_self, false_or, or_false]
         repeat (first | rw [if_pos (by omega)] | rw [if_neg (by omega)])
         all_goals rfl
       exact Me2 hm ⟨0, 0, 0, Sl.nil⟩ rfl fun bs w hS => hS.outS (y := (⟨0, 0, 0, Sl.nil⟩ : CCustomer)) (Sl.rd_nil _ _)
     simp only [iT, iF] at h7
     refine Mt [.agg #[vi y1.id, vi m.reply.n, vi y1.next, y1.waits.val], vi 0] fun bs w hS => ?_
     have e1 : y1.id = x.id := congrArg DCustomer.id hF1
     have e2 : y1.session = x.session := congrArg DCustomer.session hF1
     have e3 : y1.next = x.next := congrArg DCustomer.next hF1
     have e4 : y1.waits.xs = x.waits.xs := congrArg DCustomer.waits hF1
     have hm : mHear x.abs m = (⟨x.id, m.reply.n, x.next, x.waits.xs⟩, 0) := by
       have ha5 : x.abs.waits = x.waits.xs := rfl
       unfold mHear; rw [ha1, ha2, ha3, ha5]; try simp only [h1, h2, h4, h6, ne_eq, not_true_eq_false, not_false_eq_true, if_true, if_false, reduceIte, true_or, or_true, or_self, false_or, or_false]
       repeat (first | rw [if_pos (by omega)] | rw [if_neg (by omega)])
       all_goals rfl
     refine ⟨⟨y1.id, m.reply.n, y1.next, y1.waits⟩, ?_, ?_, hS.outS (y := (⟨y1.id, m.reply.n, y1.next, y1.waits⟩ : CCustomer)) (allR_sub (y := y1) i0 (hS.res _ i0))⟩
     · rw [hm]; rfl
     · rw [hm]; simp [CCustomer.abs, e4, e1, e2, e3]
   refine Md (m.reply.code = 7) (fun h8 => ?_) fun h8 => ?_
   rotate_left
   · refine Mt [y1.val, vi 0] fun bs w hS => ?_
     have e1 : y1.id = x.id := congrArg DCustomer.id hF1
     have e2 : y1.session = x.session := congrArg DCustomer.session hF1
     have e3 : y1.next = x.next := congrArg DCustomer.next hF1
     have e4 : y1.waits.xs = x.waits.xs := congrArg DCustomer.waits hF1
     have hm : mHear x.abs m = (⟨x.id, x.session, x.next, x.waits.xs⟩, 0) := by
       have ha5 : x.abs.waits = x.waits.xs := rfl
       unfold mHear; rw [ha1, ha2, ha3, ha5]; try simp only [h1, h2, h4, h6, h8, ne_eq, not_true_eq_false, not_false_eq_true, if_true, if_false, reduceIte, true_or, or_true, or_self, false_or, or_false]
       repeat (first | rw [if_pos (by omega)] | rw [if_neg (by omega)])
       all_goals rfl
     refine ⟨⟨y1.id, y1.session, y1.next, y1.waits⟩, ?_, ?_, hS.outS (y := (⟨y1.id, y1.session, y1.next, y1.waits⟩ : CCustomer)) (allR_sub (y := y1) i0 (hS.res _ i0))⟩
     · rw [hm]; rfl
     · rw [hm]; simp [CCustomer.abs, e4, e1, e2, e3]
   refine Mp ?_ Try.call64 (fun bs w hS => ref_In m.reply.n 1 1073741824 w)
   refine Mbn (inB m.reply.n 1 1073741824) (fun h9 => ?_) fun h9 => ?_
   rotate_left
   · simp only [iT, iF] at h9
     have hm : mHear x.abs m = (zCust, 2) := by
       have ha5 : x.abs.waits = x.waits.xs := rfl
       unfold mHear; rw [ha1, ha2, ha3, ha5]; try simp only [h1, h2, h4, h6, h8, ne_eq, not_true_eq_false, not_false_eq_true, if_true, if_false, reduceIte, true_or, or_true, or_self, false_or, or_false]
       repeat (first | rw [if_pos (by omega)] | rw [if_neg (by omega)])
       all_goals rfl
     exact Me2 hm ⟨0, 0, 0, Sl.nil⟩ rfl fun bs w hS => hS.outS (y := (⟨0, 0, 0, Sl.nil⟩ : CCustomer)) (Sl.rd_nil _ _)
   simp only [iT, iF] at h9
   refine Mt [.agg #[vi y1.id, vi m.reply.n, vi y1.next, y1.waits.val], vi 0] fun bs w hS => ?_
   have e1 : y1.id = x.id := congrArg DCustomer.id hF1
   have e2 : y1.session = x.session := congrArg DCustomer.session hF1
   have e3 : y1.next = x.next := congrArg DCustomer.next hF1
   have e4 : y1.waits.xs = x.waits.xs := congrArg DCustomer.waits hF1
   have hm : mHear x.abs m = (⟨x.id, m.reply.n, x.next, x.waits.xs⟩, 0) := by
     have ha5 : x.abs.waits = x.waits.xs := rfl
     unfold mHear; rw [ha1, ha2, ha3, ha5]; try simp only [h1, h2, h4, h6, h8, ne_eq, not_true_eq_false, not_false_eq_true, if_true, if_false, reduceIte, true_or, or_true, or_self, false_or, or_false]
     repeat (first | rw [if_pos (by omega)] | rw [if_neg (by omega)])
     all_goals rfl
   refine ⟨⟨y1.id, m.reply.n, y1.next, y1.waits⟩, ?_, ?_, hS.outS (y := (⟨y1.id, m.reply.n, y1.next, y1.waits⟩ : CCustomer)) (allR_sub (y := y1) i0 (hS.res _ i0))⟩
   · rw [hm]; rfl
   · rw [hm]; simp [CCustomer.abs, e4, e1, e2, e3]
 refine m_rowA (α := DWait) 83 ?_
 refine Ml (σ := Nat × Bool × Option Addr × Nat × List DWait) (fun ⟨i, b, A, c, L⟩ => i ≤ x.waits.n ∧ L = (x.waits.xs.take i).filter (fun z => !decide (z.seq = m.seq)) ∧ b = (x.waits.xs.take i).any (fun z => decide (z.seq = m.seq))) (fun ⟨i, b, A, c, L⟩ => x.waits.n - i) (fun ⟨i, b, A, c, L⟩ => [rowA 83 A c (L : List DWait), subR fp1 y1]) [9, 8, 7, 4, 3, 2] (fun ⟨i, b, A, c, L⟩ => [(9, vI (i : Int)), (8, vB b)]) (fun ⟨i, b, A, c, L⟩ => [(3, [vI y1.id, vI y1.session, vI y1.next, .v (.slice A L.length c)])]) ?_ (⟨0, false, none, 0, []⟩) ⟨Nat.zero_le _, rfl, rfl⟩
 rintro ⟨i, b, A, c, L⟩ ⟨hi, hL, hB⟩ _ on1
 have hLn : L.length ≤ i := by rw [hL]; exact Nat.le_trans (List.length_filter_le _ _) (by rw [List.length_take]; omega)
 refine Md ((i : Int) < (x.waits.n : Int)) (fun h10 => ?_) fun h10 => ?_
 · refine Mdr 9 ?_ Try_mixed
   refine Mih ?_ (pc (pI 66 (i : Int) i (s := x.waits) (fun w hk hr => (Rds.kp hx hk))) (pF 68 i 0 1 (s := x.waits) (fun w hk hr => (Rds.kp hx hk))))
   refine Mz ?_
   refine Md ((x.waits.at i).seq = m.seq) (fun h11 => ?_) fun h11 => ?_
   · refine Mi ?_ (pR ((i : Int) + 1))
     exact on1 ⟨i + 1, true, A, c, L⟩ ⟨by omega, by first | exact filt_in hL (by omega) (by assumption) | exact filt_out hL (by omega) (by assumption), by first | exact (Bool.or_true b ▸ (decide_eq_true (show (x.waits.at i).seq = m.seq by assumption) ▸ any_snoc hB (show i < x.waits.n by omega)) : true = _) | (have hz := any_snoc (p := fun z : DWait => decide (z.seq = m.seq)) hB (show i < x.waits.n by omega); rw [decide_eq_false (by assumption), Bool.or_false] at hz; exact hz) | (have hz := any_snoc (p := fun z : DWait => decide (z.seq = m.seq)) hB (show i < x.waits.n by omega); rw [decide_eq_true (by assumption), Bool.or_true] at hz; exact hz)⟩ (by show x.waits.n - (i + 1) < x.waits.n - i; omega)
   refine Mdr 8 ?_ Try_mixed
   refine Mih ?_ (pA 77 78 (i : Int) i (s := x.waits) (fun w hk hr => (Rds.kp hx hk)))
   refine M1 ?_
   refine Mz ?_
   refine Mal (α := DWait) 56 ([(⟨(x.waits.at i).seq, ⟨(x.waits.at i).op.kind, (x.waits.at i).op.a, (x.waits.at i).op.b, (x.waits.at i).op.n⟩⟩ : DWait)]) ?_
   intro A2 c2
   refine Mi ?_ (pR ((i : Int) + 1))
   exact on1 ⟨i + 1, b, A2, c2, L ++ [(⟨(x.waits.at i).seq, ⟨(x.waits.at i).op.kind, (x.waits.at i).op.a, (x.waits.at i).op.b, (x.waits.at i).op.n⟩⟩ : DWait)]⟩ ⟨by omega, by first | exact filt_in hL (by omega) (by assumption) | exact filt_out hL (by omega) (by assumption), by first | exact (Bool.or_true b ▸ (decide_eq_true (show (x.waits.at i).seq = m.seq by assumption) ▸ any_snoc hB (show i < x.waits.n by omega)) : true = _) | (have hz := any_snoc (p := fun z : DWait => decide (z.seq = m.seq)) hB (show i < x.waits.n by omega); rw [decide_eq_false (by assumption), Bool.or_false] at hz; exact hz) | (have hz := any_snoc (p := fun z : DWait => decide (z.seq = m.seq)) hB (show i < x.waits.n by omega); rw [decide_eq_true (by assumption), Bool.or_true] at hz; exact hz)⟩ (by show x.waits.n - (i + 1) < x.waits.n - i; omega)
 refine Mbn b (fun h12 => ?_) fun h12 => ?_
 rotate_left
 · have hidz : mIdx (fun z : DWait => decide (z.seq = m.seq)) x.waits.xs < 0 := by have h9 := mIdx_nonneg (fun z : DWait => decide (z.seq = m.seq)) x.waits.xs; rw [take_all (by omega)] at hB; rw [← hB] at h9; have := of_decide_eq_false (h9.trans h12); omega
   have hm : mHear x.abs m = (zCust, 12) := by
     have ha5 : x.abs.waits = x.waits.xs := rfl
     unfold mHear; rw [ha1, ha2, ha3, ha5]; try simp only [h1, h2, h4, ne_eq, not_true_eq_false, not_false_eq_true, if_true, if_false, reduceIte, true_or, or_true, or_self, false_or, or_false]
     repeat (first | rw [if_pos (by omega)] | rw [if_neg (by omega)])
     all_goals rfl
   exact Me2 hm ⟨0, 0, 0, Sl.nil⟩ rfl fun bs w hS => hS.outS (y := (⟨0, 0, 0, Sl.nil⟩ : CCustomer)) (Sl.rd_nil _ _)
 refine Md (m.reply.code = 11) (fun h13 => ?_) fun h13 => ?_
 · refine Mt [.agg #[vi y1.id, vi 0, vi y1.next, vn], vi 0] fun bs w hS => ?_
   have e1 : y1.id = x.id := congrArg DCustomer.id hF1
   have e2 : y1.session = x.session := congrArg DCustomer.session hF1
   have e3 : y1.next = x.next := congrArg DCustomer.next hF1
   have e4 : y1.waits.xs = x.waits.xs := congrArg DCustomer.waits hF1
   have hid : ¬ mIdx (fun z : DWait => decide (z.seq = m.seq)) x.waits.xs < 0 := by have h9 := mIdx_nonneg (fun z : DWait => decide (z.seq = m.seq)) x.waits.xs; rw [take_all (by omega)] at hB; rw [← hB] at h9; have := of_decide_eq_true (h9.trans h12); omega
   have hm : mHear x.abs m = (⟨x.id, 0, x.next, []⟩, 0) := by
     have ha5 : x.abs.waits = x.waits.xs := rfl
     unfold mHear; rw [ha1, ha2, ha3, ha5]; try simp only [h1, h2, h4, h13, ne_eq, not_true_eq_false, not_false_eq_true, if_true, if_false, reduceIte, true_or, or_true, or_self, false_or, or_false]
     repeat (first | rw [if_pos (by omega)] | rw [if_neg (by omega)])
     all_goals rfl
   refine ⟨⟨y1.id, 0, y1.next, Sl.nil⟩, ?_, ?_, hS.outS (y := (⟨y1.id, 0, y1.next, Sl.nil⟩ : CCustomer)) (Sl.rd_nil _ _)⟩
   · rw [hm]; rfl
   · rw [hm]; simp [CCustomer.abs, Sl.nil, e1, e2, e3]
 refine Mt [.agg #[vi y1.id, vi y1.session, vi y1.next, .slice A L.length c], vi 0] fun bs w hS => ?_
 have e1 : y1.id = x.id := congrArg DCustomer.id hF1
 have e2 : y1.session = x.session := congrArg DCustomer.session hF1
 have e3 : y1.next = x.next := congrArg DCustomer.next hF1
 have e4 : y1.waits.xs = x.waits.xs := congrArg DCustomer.waits hF1
 have hfl : L = x.waits.xs.filter fun z => !decide (z.seq = m.seq) := by rw [hL, take_all (by omega)]
 have hid : ¬ mIdx (fun z : DWait => decide (z.seq = m.seq)) x.waits.xs < 0 := by have h9 := mIdx_nonneg (fun z : DWait => decide (z.seq = m.seq)) x.waits.xs; rw [take_all (by omega)] at hB; rw [← hB] at h9; have := of_decide_eq_true (h9.trans h12); omega
 have hm : mHear x.abs m = (⟨x.id, x.session, x.next, x.waits.xs.filter fun z => !decide (z.seq = m.seq)⟩, 0) := by
   have ha5 : x.abs.waits = x.waits.xs := rfl
   unfold mHear; rw [ha1, ha2, ha3, ha5]; try simp only [h1, h2, h4, h13, ne_eq, not_true_eq_false, not_false_eq_true, if_true, if_false, reduceIte, true_or, or_true, or_self, false_or, or_false]
   repeat (first | rw [if_pos (by omega)] | rw [if_neg (by omega)])
   all_goals rfl
 refine ⟨⟨y1.id, y1.session, y1.next, ⟨A, c, L⟩⟩, ?_, ?_, hS.outS (y := (⟨y1.id, y1.session, y1.next, ⟨A, c, L⟩⟩ : CCustomer)) (allR_row i0 (hS.res _ i0) (fun z hz => Sl.rd.mem (s := x.waits) hx z (List.mem_filter.1 (hfl ▸ hz)).1))⟩
 · rw [hm]; rfl
 · rw [hm]; simp [CCustomer.abs, hfl, e1, e2, e3]

theorem law_CustomerHears {B : Nat → Prop} (x : CCustomer) (m : DMail) (w : World) (hx : Rds.sub B w x) (hmx : Rds.sub B w m) (hsm : Rds.small x) : Calls Try.prog 11 #[x.val, m.val] w fun e w' => e = .returned (vb true) ∧ Kp [] w w' := by
 have okx := Rds.okof hx
 refine M0 ?_ Try.func11
 refine Mu ?_ Try.call30 (fun bs w hS => ref_CustomerCopy x w (Rds.kp hx hS.kp) hsm.1)
 rintro fp1 y1 hF1 hok1
 refine Mu ?_ Try.call33 (fun bs w hS => customer_Hear y1 m w (hS.res _ i0) hmx)
 rintro fp2 y2 hF2 hok2
 refine Mu ?_ Try.call34 (fun bs w hS => ref_ToldOf x m w (Rds.kp hx hS.kp) hmx)
 rintro fp3 y3 hF3 hok3
 refine Md ((mHear y1.abs m).2 = (mHear x.abs m).2) (fun h1 => ?_) fun h1 => ?_
 rotate_left
 · exfalso; first | (simp at h1; done) | (rw [hF1] at h1; simp at h1; done)
 refine Mp ?_ Try.call18 (fun bs w hS => same_customer y2 y3 w (hS.res _ i1) (hS.res _ i0) (by rw [hF2, hF3, hF1]))
 refine Mq 32 true ?_ rfl
 refine Mp ?_ Try.call18 (fun bs w hS => same_customer y1 x w (hS.res _ i2) (Rds.kp hx hS.kp) hF1)
 exact Meb true (by simp [retOf, den])

end Go.Proofs.Ytakdjdfkdbofoaa.W
