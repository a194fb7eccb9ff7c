/-
  The functions that the law CustomerHears reaches, walked: each returns what its model says.
  Conditions: those that each theorem states.
-/
import Derived.Test.YtececkgjacccmacWCustomerHearsa
set_option linter.unusedVariables false
set_option linter.unusedSimpArgs false
set_option maxRecDepth 100000
namespace Go.Proofs.Ytececkgjacccmac.W
open Go.Proofs.Ytececkgjacccmac.Fw Go.RowKit

theorem ref_ToldOf {B : Nat → Prop} (x : CCustomer) (m : DMail) (w : World) (hx : Rds.sub B w x) (hmx : Rds.sub B w m) : Calls Try.prog 26 #[.agg #[.int .i64 x.id, .int .i64 x.session, .int .i64 x.next, .slice x.waits.A x.waits.n x.waits.c], .agg #[.int .i64 m.client, .int .i64 m.seq, .int .i64 m.reply.code, .int .i64 m.reply.n, .string m.reply.text]] w fun e w' => ∃ y : CCustomer, e = .returned (.tuple #[y.val, .int .i64 (mHear x.abs m).2]) ∧ y.abs = (mHear x.abs m).1 ∧ FreshS w w' y := by
  have hat : ∀ q, x.abs.waits.getD q default = x.waits.at q := fun _ => rfl
  have ha1 : x.abs.id = x.id := rfl
  have ha2 : x.abs.session = x.session := rfl
  have ha3 : x.abs.next = x.next := rfl
  have ha4 : x.abs.waits.length = x.waits.n := rfl
  have okx := Rds.okof hx
  have ncx := Sl.ok.nc okx
  have hnx : x.waits.n = x.waits.xs.length := rfl
  have hmm := Rds.okof hmx
  refine calls_J0 92 Try.func26 rfl rfl [.agg #[.int .i64 x.id, .int .i64 x.session, .int .i64 x.next, .slice x.waits.A x.waits.n x.waits.c], .agg #[.int .i64 m.client, .int .i64 m.seq, .int .i64 m.reply.code, .int .i64 m.reply.n, .string m.reply.text]] rfl ?_
  refine c_seq ?_
  refine c_region ?_
  refine JL_run 4 [] [4, 3, 2] 3 ⟨[(4, .p 2 0), (3, .p 1 0), (2, .p 0 0)], [⟨24, [vI x.id, vI x.session, vI x.next, .v (.slice x.waits.A x.waits.n x.waits.c)]⟩, ⟨46, [vI m.client, vI m.seq, vI m.reply.code, vI m.reply.n, vS m.reply.text]⟩, ⟨24, [vI 0, vI 0, vI 0, .v (.slice none 0 0)]⟩]⟩ [] [] (by kernel_rfl) on wn ?_
  refine l_nil (q_then_normal ?_)
  refine c_seq ?_
  refine c_region ?_
  refine JL_run 1 [] [10, 4, 3, 2] 3 ⟨[(10, .v (.agg #[.int .i64 x.id, .int .i64 x.session, .int .i64 x.next, .slice x.waits.A x.waits.n x.waits.c])), (4, .p 2 0), (3, .p 1 0), (2, .p 0 0)], [⟨24, [vI x.id, vI x.session, vI x.next, .v (.slice x.waits.A x.waits.n x.waits.c)]⟩, ⟨46, [vI m.client, vI m.seq, vI m.reply.code, vI m.reply.n, vS m.reply.text]⟩, ⟨24, [vI 0, vI 0, vI 0, .v (.slice none 0 0)]⟩]⟩ [] [] (by kernel_rfl) on wn ?_
  refine l_pure 49 [] [.v (.agg #[.int .i64 x.id, .int .i64 x.session, .int .i64 x.next, .slice x.waits.A x.waits.n x.waits.c])] (.int .i64 (mCust x.abs)) Try.call49 rfl rfl rfl rfl (fun bs w hS => ref_CustomerFault x w (Rds.kp hx hS.kp)) ?_
  refine JL_run 1 [] [6, 4, 3, 2] 3 ⟨[(6, vI (mCust x.abs)), (4, .p 2 0), (3, .p 1 0), (2, .p 0 0)], [⟨24, [vI x.id, vI x.session, vI x.next, .v (.slice x.waits.A x.waits.n x.waits.c)]⟩, ⟨46, [vI m.client, vI m.seq, vI m.reply.code, vI m.reply.n, vS m.reply.text]⟩, ⟨24, [vI 0, vI 0, vI 0, .v (.slice none 0 0)]⟩]⟩ [] [] (by kernel_rfl) on wn ?_
  refine l_nil (q_then_normal ?_)
  refine c_seq ?_
  refine c_seq ?_
  refine c_region ?_
  refine JL_run 3 [] [14, 6, 4, 3, 2] 3 ⟨[(14, vB (decide (mCust x.abs = 0))), (6, vI (mCust x.abs)), (4, .p 2 0), (3, .p 1 0), (2, .p 0 0)], [⟨24, [vI x.id, vI x.session, vI x.next, .v (.slice x.waits.A x.waits.n x.waits.c)]⟩, ⟨46, [vI m.client, vI m.seq, vI m.reply.code, vI m.reply.n, vS m.reply.text]⟩, ⟨24, [vI 0, vI 0, vI 0, .v (.slice none 0 0)]⟩]⟩ [] [] (by kernel_rfl) on wn ?_
  cases h1 : decide (mCust x.abs = 0) with
  | true =>
    have h1 := of_decide_eq_true h1
    have hack := mAck_bd h1
    obtain ⟨hb1, hb2, hb3, hb4, hb5, hb6, hb7, hb8, hb9⟩ := mCust_bd h1
    rw [ha1] at hb1 hb2
    rw [ha2] at hb3 hb4
    rw [ha3] at hb5 hb6
    rw [ha4] at hb7 hb9
    have hseq : ∀ j, j < x.waits.n → 1 ≤ (x.waits.at j).seq ∧ (x.waits.at j).seq ≤ 1048576 := fun j hj => by have hz := custF_bd (hb9 j hj); rw [hat, ha3] at hz; omega
    refine JL_run 6 [] [20, 6, 4, 3, 2] 3 ⟨[(20, vB (!(decide (m.client = x.id)))), (6, vI (mCust x.abs)), (4, .p 2 0), (3, .p 1 0), (2, .p 0 0)], [⟨24, [vI x.id, vI x.session, vI x.next, .v (.slice x.waits.A x.waits.n x.waits.c)]⟩, ⟨46, [vI m.client, vI m.seq, vI m.reply.code, vI m.reply.n, vS m.reply.text]⟩, ⟨24, [vI 0, vI 0, vI 0, .v (.slice none 0 0)]⟩]⟩ [] [] (by kernel_rfl) on wn ?_
    refine l_nil (q_then_normal ?_)
    cases h2 : decide (m.client = x.id) with
    | true =>
      have h2 := of_decide_eq_true h2
      refine c_if false rfl ?_
      refine c_skip ?_
      refine q_then_normal ?_
      refine c_seq ?_
      refine c_seq ?_
      refine c_region ?_
      refine JL_run 2 [] [22, 6, 4, 3, 2] 3 ⟨[(22, vB (!(decide (mCust x.abs = 0)))), (6, vI (mCust x.abs)), (4, .p 2 0), (3, .p 1 0), (2, .p 0 0)], [⟨24, [vI x.id, vI x.session, vI x.next, .v (.slice x.waits.A x.waits.n x.waits.c)]⟩, ⟨46, [vI m.client, vI m.seq, vI m.reply.code, vI m.reply.n, vS m.reply.text]⟩, ⟨24, [vI 0, vI 0, vI 0, .v (.slice none 0 0)]⟩]⟩ [] [] (by kernel_rfl) on wn ?_
      refine l_nil (q_then_normal ?_)
      cases h3 : decide (mCust x.abs = 0) with
      | true =>
        have h3 := of_decide_eq_true h3
        have hack := mAck_bd h3
        obtain ⟨hb1, hb2, hb3, hb4, hb5, hb6, hb7, hb8, hb9⟩ := mCust_bd h3
        rw [ha1] at hb1 hb2
        rw [ha2] at hb3 hb4
        rw [ha3] at hb5 hb6
        rw [ha4] at hb7 hb9
        have hseq : ∀ j, j < x.waits.n → 1 ≤ (x.waits.at j).seq ∧ (x.waits.at j).seq ≤ 1048576 := fun j hj => by have hz := custF_bd (hb9 j hj); rw [hat, ha3] at hz; omega
        refine c_if false rfl ?_
        refine c_skip ?_
        refine q_then_normal ?_
        refine c_seq ?_
        refine c_region ?_
        refine JL_run 1 [] [25, 4, 3, 2] 3 ⟨[(25, .v (.agg #[.int .i64 x.id, .int .i64 x.session, .int .i64 x.next, .slice x.waits.A x.waits.n x.waits.c])), (4, .p 2 0), (3, .p 1 0), (2, .p 0 0)], [⟨24, [vI x.id, vI x.session, vI x.next, .v (.slice x.waits.A x.waits.n x.waits.c)]⟩, ⟨46, [vI m.client, vI m.seq, vI m.reply.code, vI m.reply.n, vS m.reply.text]⟩, ⟨24, [vI 0, vI 0, vI 0, .v (.slice none 0 0)]⟩]⟩ [] [] (by kernel_rfl) on wn ?_
        refine l_sub_call (σ := CCustomer) 15 [] [.v (.agg #[.int .i64 x.id, .int .i64 x.session, .int .i64 x.next, .slice x.waits.A x.waits.n x.waits.c])] (fun y1 => .agg #[.int .i64 y1.id, .int .i64 y1.session, .int .i64 y1.next, .slice y1.waits.A y1.waits.n y1.waits.c]) (fun y1 => y1.abs = x.abs) Try.call15 rfl rfl rfl rfl (fun bs w hS => ref_CustomerCopy x w (Rds.kp hx hS.kp) (by omega)) ?_
        rintro fp1 y1 hF1 hok1
        refine JL_run 2 [] [7, 4, 3, 2] 4 ⟨[(7, .p 3 0), (4, .p 2 0), (3, .p 1 0), (2, .p 0 0)], [⟨24, [vI x.id, vI x.session, vI x.next, .v (.slice x.waits.A x.waits.n x.waits.c)]⟩, ⟨46, [vI m.client, vI m.seq, vI m.reply.code, vI m.reply.n, vS m.reply.text]⟩, ⟨24, [vI 0, vI 0, vI 0, .v (.slice none 0 0)]⟩, ⟨24, [vI y1.id, vI y1.session, vI y1.next, .v (.slice y1.waits.A y1.waits.n y1.waits.c)]⟩]⟩ [] [] (by kernel_rfl) on wn ?_
        refine l_nil (q_then_normal ?_)
        refine c_seq ?_
        refine c_seq ?_
        refine c_region ?_
        refine JL_run 3 [] [29, 7, 4, 3, 2] 4 ⟨[(29, vB (decide (m.seq = 0))), (7, .p 3 0), (4, .p 2 0), (3, .p 1 0), (2, .p 0 0)], [⟨24, [vI x.id, vI x.session, vI x.next, .v (.slice x.waits.A x.waits.n x.waits.c)]⟩, ⟨46, [vI m.client, vI m.seq, vI m.reply.code, vI m.reply.n, vS m.reply.text]⟩, ⟨24, [vI 0, vI 0, vI 0, .v (.slice none 0 0)]⟩, ⟨24, [vI y1.id, vI y1.session, vI y1.next, .v (.slice y1.waits.A y1.waits.n y1.waits.c)]⟩]⟩ [] [] (by kernel_rfl) on wn ?_
        refine l_nil (q_then_normal ?_)
        cases h4 : decide (m.seq = 0) with
        | true =>
          have h4 := of_decide_eq_true h4
          refine c_if true rfl ?_
          refine c_seq ?_
          refine c_seq ?_
          refine c_region ?_
          refine JL_run 3 [] [32, 7, 4, 3] 4 ⟨[(32, vB (decide ((0 : Int) < x.session))), (7, .p 3 0), (4, .p 2 0), (3, .p 1 0)], [⟨24, [vI x.id, vI x.session, vI x.next, .v (.slice x.waits.A x.waits.n x.waits.c)]⟩, ⟨46, [vI m.client, vI m.seq, vI m.reply.code, vI m.reply.n, vS m.reply.text]⟩, ⟨24, [vI 0, vI 0, vI 0, .v (.slice none 0 0)]⟩, ⟨24, [vI y1.id, vI y1.session, vI y1.next, .v (.slice y1.waits.A y1.waits.n y1.waits.c)]⟩]⟩ [] [] (by kernel_rfl) on wn ?_
          refine l_nil (q_then_normal ?_)
          cases h5 : decide ((0 : Int) < x.session) with
          | true =>
            have h5 := of_decide_eq_true h5
            refine c_if true rfl ?_
            refine c_seq ?_
            refine c_region ?_
            refine JL_run 3 [] [5, 4] 3 ⟨[(5, vI 12), (4, .p 2 0)], [⟨24, [vI x.id, vI x.session, vI x.next, .v (.slice x.waits.A x.waits.n x.waits.c)]⟩, ⟨46, [vI m.client, vI m.seq, vI m.reply.code, vI m.reply.n, vS m.reply.text]⟩, ⟨24, [vI 0, vI 0, vI 0, .v (.slice none 0 0)]⟩]⟩ [] [] (by kernel_rfl) on wn ?_
            refine l_nil (q_then_normal ?_)
            refine c_ret ?_
            refine q_then_ret (q_then_ret (q_ret (.inl rfl) [.v (.agg #[.int .i64 0, .int .i64 0, .int .i64 0, .slice none 0 0]), vI 12] rfl (fun bs w hS => ?_)))
            have hm : mHear x.abs m = (zCust, 12) := by
              have ha5 : x.abs.waits = x.waits.xs := rfl
              unfold mHear; rw [ha1, ha2, ha3, ha5]; try simp only [h1, h2, h3, h4, ne_eq, not_true_eq_false, not_false_eq_true, if_true, if_false, reduceIte, true_or, or_true, or_self, false_or, or_false]
              repeat (first | rw [if_pos (by omega)] | rw [if_neg (by omega)])
              all_goals rfl
            refine ⟨⟨0, 0, 0, Sl.nil⟩, ?_, ?_, hS.outS (y := (⟨0, 0, 0, Sl.nil⟩ : CCustomer)) (Sl.rd_nil _ _)⟩
            · simp only [retOf, den, List.map_cons, List.map_nil]; rw [hm]; rfl
            · rw [hm]; rfl
          | false =>
            have h5 := of_decide_eq_false h5
            refine c_if false rfl ?_
            refine c_skip ?_
            refine q_then_normal ?_
            refine c_seq ?_
            refine c_seq ?_
            refine c_region ?_
            refine JL_run 5 [] [38, 7, 4, 3] 4 ⟨[(38, vB (decide (m.reply.code = 0))), (7, .p 3 0), (4, .p 2 0), (3, .p 1 0)], [⟨24, [vI x.id, vI x.session, vI x.next, .v (.slice x.waits.A x.waits.n x.waits.c)]⟩, ⟨46, [vI m.client, vI m.seq, vI m.reply.code, vI m.reply.n, vS m.reply.text]⟩, ⟨24, [vI 0, vI 0, vI 0, .v (.slice none 0 0)]⟩, ⟨24, [vI y1.id, vI y1.session, vI y1.next, .v (.slice y1.waits.A y1.waits.n y1.waits.c)]⟩]⟩ [] [] (by kernel_rfl) on wn ?_
            cases h6 : decide (m.reply.code = 0) with
            | true =>
              have h6 := of_decide_eq_true h6
              refine JL_run 5 [] [43, 7, 4, 3] 4 ⟨[(43, vB true), (7, .p 3 0), (4, .p 2 0), (3, .p 1 0)], [⟨24, [vI x.id, vI x.session, vI x.next, .v (.slice x.waits.A x.waits.n x.waits.c)]⟩, ⟨46, [vI m.client, vI m.seq, vI m.reply.code, vI m.reply.n, vS m.reply.text]⟩, ⟨24, [vI 0, vI 0, vI 0, .v (.slice none 0 0)]⟩, ⟨24, [vI y1.id, vI y1.session, vI y1.next, .v (.slice y1.waits.A y1.waits.n y1.waits.c)]⟩]⟩ [] [] (by kernel_rfl) on wn ?_
              refine l_nil (q_then_normal ?_)
              refine c_if true rfl ?_
              refine c_seq ?_
              refine c_seq ?_
              refine c_region ?_
              refine JL_run 3 [] [46, 7, 4, 3] 4 ⟨[(46, vI m.reply.n), (7, .p 3 0), (4, .p 2 0), (3, .p 1 0)], [⟨24, [vI x.id, vI x.session, vI x.next, .v (.slice x.waits.A x.waits.n x.waits.c)]⟩, ⟨46, [vI m.client, vI m.seq, vI m.reply.code, vI m.reply.n, vS m.reply.text]⟩, ⟨24, [vI 0, vI 0, vI 0, .v (.slice none 0 0)]⟩, ⟨24, [vI y1.id, vI y1.session, vI y1.next, .v (.slice y1.waits.A y1.waits.n y1.waits.c)]⟩]⟩ [] [] (by kernel_rfl) on wn ?_
              refine l_pure 68 [] [vI m.reply.n, vI 1, vI 1073741824] (.bool (inB m.reply.n 1 1073741824)) Try.call68 rfl rfl rfl rfl (fun bs w hS => ref_In _ _ _ w) ?_
              refine JL_run 1 [] [48, 7, 4, 3] 4 ⟨[(48, vB (!(inB m.reply.n 1 1073741824))), (7, .p 3 0), (4, .p 2 0), (3, .p 1 0)], [⟨24, [vI x.id, vI x.session, vI x.next, .v (.slice x.waits.A x.waits.n x.waits.c)]⟩, ⟨46, [vI m.client, vI m.seq, vI m.reply.code, vI m.reply.n, vS m.reply.text]⟩, ⟨24, [vI 0, vI 0, vI 0, .v (.slice none 0 0)]⟩, ⟨24, [vI y1.id, vI y1.session, vI y1.next, .v (.slice y1.waits.A y1.waits.n y1.waits.c)]⟩]⟩ [] [] (by kernel_rfl) on wn ?_
              refine l_nil (q_then_normal ?_)
              cases h7 : inB m.reply.n 1 1073741824 with
              | true =>
                simp only [inB, Bool.and_eq_true, Bool.and_eq_false_iff, decide_eq_true_eq, decide_eq_false_iff_not] at h7
                refine c_if false rfl ?_
                refine c_skip ?_
                refine q_then_normal ?_
                refine c_region ?_
                refine JL_run 5 [] [7, 4] 4 ⟨[(7, .p 3 0), (4, .p 2 0)], [⟨24, [vI x.id, vI x.session, vI x.next, .v (.slice x.waits.A x.waits.n x.waits.c)]⟩, ⟨46, [vI m.client, vI m.seq, vI m.reply.code, vI m.reply.n, vS m.reply.text]⟩, ⟨24, [vI 0, vI 0, vI 0, .v (.slice none 0 0)]⟩, ⟨24, [vI y1.id, vI m.reply.n, vI y1.next, .v (.slice y1.waits.A y1.waits.n y1.waits.c)]⟩]⟩ [] [] (by kernel_rfl) on wn ?_
                refine l_nil (q_then_normal ?_)
                refine c_seq ?_
                refine c_region ?_
                refine JL_run 3 [] [5, 4] 3 ⟨[(5, vI 0), (4, .p 2 0)], [⟨24, [vI x.id, vI x.session, vI x.next, .v (.slice x.waits.A x.waits.n x.waits.c)]⟩, ⟨46, [vI m.client, vI m.seq, vI m.reply.code, vI m.reply.n, vS m.reply.text]⟩, ⟨24, [vI y1.id, vI m.reply.n, vI y1.next, .v (.slice y1.waits.A y1.waits.n y1.waits.c)]⟩]⟩ [] [] (by kernel_rfl) on wn ?_
                refine l_nil (q_then_normal ?_)
                refine c_ret ?_
                refine q_then_ret (q_ret (.inl rfl) [.v (.agg #[.int .i64 y1.id, .int .i64 m.reply.n, .int .i64 y1.next, .slice y1.waits.A y1.waits.n y1.waits.c]), vI 0] rfl (fun bs w hS => ?_))
                have e1 : y1.id = x.id := congrArg DCustomer.id hF1
                have e2 : y1.session = x.session := congrArg DCustomer.session hF1
                have e3 : y1.next = x.next := congrArg DCustomer.next hF1
                have e4 : y1.waits.xs = x.waits.xs := congrArg DCustomer.waits hF1
                have hm : mHear x.abs m = (⟨x.id, m.reply.n, x.next, x.waits.xs⟩, 0) := by
                  have ha5 : x.abs.waits = x.waits.xs := rfl
                  unfold mHear; rw [ha1, ha2, ha3, ha5]; try simp only [h1, h2, h3, h4, h6, ne_eq, not_true_eq_false, not_false_eq_true, if_true, if_false, reduceIte, true_or, or_true, or_self, false_or, or_false]
                  repeat (first | rw [if_pos (by omega)] | rw [if_neg (by omega)])
                  all_goals rfl
                refine ⟨⟨y1.id, m.reply.n, y1.next, y1.waits⟩, ?_, ?_, hS.outS (y := (⟨y1.id, m.reply.n, y1.next, y1.waits⟩ : CCustomer)) (allR_sub (y := y1) (.head _) (hS.res _ (.head _)))⟩
                · rw [hm]; rfl
                · rw [hm]; simp [CCustomer.abs, e4, e1, e2, e3]
              | false =>
                simp only [inB, Bool.and_eq_true, Bool.and_eq_false_iff, decide_eq_true_eq, decide_eq_false_iff_not] at h7
                refine c_if true rfl ?_
                refine c_seq ?_
                refine c_region ?_
                refine JL_run 3 [] [5, 4] 3 ⟨[(5, vI 2), (4, .p 2 0)], [⟨24, [vI x.id, vI x.session, vI x.next, .v (.slice x.waits.A x.waits.n x.waits.c)]⟩, ⟨46, [vI m.client, vI m.seq, vI m.reply.code, vI m.reply.n, vS m.reply.text]⟩, ⟨24, [vI 0, vI 0, vI 0, .v (.slice none 0 0)]⟩]⟩ [] [] (by kernel_rfl) on wn ?_
                refine l_nil (q_then_normal ?_)
                refine c_ret ?_
                refine q_then_ret (q_then_ret (q_then_ret (q_ret (.inl rfl) [.v (.agg #[.int .i64 0, .int .i64 0, .int .i64 0, .slice none 0 0]), vI 2] rfl (fun bs w hS => ?_))))
                have hm : mHear x.abs m = (zCust, 2) := by
                  have ha5 : x.abs.waits = x.waits.xs := rfl
                  unfold mHear; rw [ha1, ha2, ha3, ha5]; try simp only [h1, h2, h3, h4, h6, ne_eq, not_true_eq_false, not_false_eq_true, if_true, if_false, reduceIte, true_or, or_true, or_self, false_or, or_false]
                  repeat (first | rw [if_pos (by omega)] | rw [if_neg (by omega)])
                  all_goals rfl
                refine ⟨⟨0, 0, 0, Sl.nil⟩, ?_, ?_, hS.outS (y := (⟨0, 0, 0, Sl.nil⟩ : CCustomer)) (Sl.rd_nil _ _)⟩
                · simp only [retOf, den, List.map_cons, List.map_nil]; rw [hm]; rfl
                · rw [hm]; rfl
            | false =>
              have h6 := of_decide_eq_false h6
              refine JL_run 5 [] [43, 7, 4, 3] 4 ⟨[(43, vB (decide (m.reply.code = 7))), (7, .p 3 0), (4, .p 2 0), (3, .p 1 0)], [⟨24, [vI x.id, vI x.session, vI x.next, .v (.slice x.waits.A x.waits.n x.waits.c)]⟩, ⟨46, [vI m.client, vI m.seq, vI m.reply.code, vI m.reply.n, vS m.reply.text]⟩, ⟨24, [vI 0, vI 0, vI 0, .v (.slice none 0 0)]⟩, ⟨24, [vI y1.id, vI y1.session, vI y1.next, .v (.slice y1.waits.A y1.waits.n y1.waits.c)]⟩]⟩ [] [] (by kernel_rfl) on wn ?_
              refine l_nil (q_then_normal ?_)
              cases h8 : decide (m.reply.code = 7) with
              | true =>
                have h8 := of_decide_eq_true h8
                refine c_if true rfl ?_
                refine c_seq ?_
                refine c_seq ?_
                refine c_region ?_
                refine JL_run 3 [] [46, 7, 4, 3] 4 ⟨[(46, vI m.reply.n), (7, .p 3 0), (4, .p 2 0), (3, .p 1 0)], [⟨24, [vI x.id, vI x.session, vI x.next, .v (.slice x.waits.A x.waits.n x.waits.c)]⟩, ⟨46, [vI m.client, vI m.seq, vI m.reply.code, vI m.reply.n, vS m.reply.text]⟩, ⟨24, [vI 0, vI 0, vI 0, .v (.slice none 0 0)]⟩, ⟨24, [vI y1.id, vI y1.session, vI y1.next, .v (.slice y1.waits.A y1.waits.n y1.waits.c)]⟩]⟩ [] [] (by kernel_rfl) on wn ?_
                refine l_pure 68 [] [vI m.reply.n, vI 1, vI 1073741824] (.bool (inB m.reply.n 1 1073741824)) Try.call68 rfl rfl rfl rfl (fun bs w hS => ref_In _ _ _ w) ?_
                refine JL_run 1 [] [48, 7, 4, 3] 4 ⟨[(48, vB (!(inB m.reply.n 1 1073741824))), (7, .p 3 0), (4, .p 2 0), (3, .p 1 0)], [⟨24, [vI x.id, vI x.session, vI x.next, .v (.slice x.waits.A x.waits.n x.waits.c)]⟩, ⟨46, [vI m.client, vI m.seq, vI m.reply.code, vI m.reply.n, vS m.reply.text]⟩, ⟨24, [vI 0, vI 0, vI 0, .v (.slice none 0 0)]⟩, ⟨24, [vI y1.id, vI y1.session, vI y1.next, .v (.slice y1.waits.A y1.waits.n y1.waits.c)]⟩]⟩ [] [] (by kernel_rfl) on wn ?_
                refine l_nil (q_then_normal ?_)
                cases h9 : inB m.reply.n 1 1073741824 with
                | true =>
                  simp only [inB, Bool.and_eq_true, Bool.and_eq_false_iff, decide_eq_true_eq, decide_eq_false_iff_not] at h9
                  refine c_if false rfl ?_
                  refine c_skip ?_
                  refine q_then_normal ?_
                  refine c_region ?_
                  refine JL_run 5 [] [7, 4] 4 ⟨[(7, .p 3 0), (4, .p 2 0)], [⟨24, [vI x.id, vI x.session, vI x.next, .v (.slice x.waits.A x.waits.n x.waits.c)]⟩, ⟨46, [vI m.client, vI m.seq, vI m.reply.code, vI m.reply.n, vS m.reply.text]⟩, ⟨24, [vI 0, vI 0, vI 0, .v (.slice none 0 0)]⟩, ⟨24, [vI y1.id, vI m.reply.n, vI y1.next, .v (.slice y1.waits.A y1.waits.n y1.waits.c)]⟩]⟩ [] [] (by kernel_rfl) on wn ?_
                  refine l_nil (q_then_normal ?_)
                  refine c_seq ?_
                  refine c_region ?_
                  refine JL_run 3 [] [5, 4] 3 ⟨[(5, vI 0), (4, .p 2 0)], [⟨24, [vI x.id, vI x.session, vI x.next, .v (.slice x.waits.A x.waits.n x.waits.c)]⟩, ⟨46, [vI m.client, vI m.seq, vI m.reply.code, vI m.reply.n, vS m.reply.text]⟩, ⟨24, [vI y1.id, vI m.reply.n, vI y1.next, .v (.slice y1.waits.A y1.waits.n y1.waits.c)]⟩]⟩ [] [] (by kernel_rfl) on wn ?_
                  refine l_nil (q_then_normal ?_)
                  refine c_ret ?_
                  refine q_then_ret (q_ret (.inl rfl) [.v (.agg #[.int .i64 y1.id, .int .i64 m.reply.n, .int .i64 y1.next, .slice y1.waits.A y1.waits.n y1.waits.c]), vI 0] rfl (fun bs w hS => ?_))
                  have e1 : y1.id = x.id := congrArg DCustomer.id hF1
                  have e2 : y1.session = x.session := congrArg DCustomer.session hF1
                  have e3 : y1.next = x.next := congrArg DCustomer.next hF1
                  have e4 : y1.waits.xs = x.waits.xs := congrArg DCustomer.waits hF1
                  have hm : mHear x.abs m = (⟨x.id, m.reply.n, x.next, x.waits.xs⟩, 0) := by
                    have ha5 : x.abs.waits = x.waits.xs := rfl
                    unfold mHear; rw [ha1, ha2, ha3, ha5]; try simp only [h1, h2, h3, h4, h6, h8, ne_eq, not_true_eq_false, not_false_eq_true, if_true, if_false, reduceIte, true_or, or_true, or_self, false_or, or_false]
                    repeat (first | rw [if_pos (by omega)] | rw [if_neg (by omega)])
                    all_goals rfl
                  refine ⟨⟨y1.id, m.reply.n, y1.next, y1.waits⟩, ?_, ?_, hS.outS (y := (⟨y1.id, m.reply.n, y1.next, y1.waits⟩ : CCustomer)) (allR_sub (y := y1) (.head _) (hS.res _ (.head _)))⟩
                  · rw [hm]; rfl
                  · rw [hm]; simp [CCustomer.abs, e4, e1, e2, e3]
                | false =>
                  simp only [inB, Bool.and_eq_true, Bool.and_eq_false_iff, decide_eq_true_eq, decide_eq_false_iff_not] at h9
                  refine c_if true rfl ?_
                  refine c_seq ?_
                  refine c_region ?_
                  refine JL_run 3 [] [5, 4] 3 ⟨[(5, vI 2), (4, .p 2 0)], [⟨24, [vI x.id, vI x.session, vI x.next, .v (.slice x.waits.A x.waits.n x.waits.c)]⟩, ⟨46, [vI m.client, vI m.seq, vI m.reply.code, vI m.reply.n, vS m.reply.text]⟩, ⟨24, [vI 0, vI 0, vI 0, .v (.slice none 0 0)]⟩]⟩ [] [] (by kernel_rfl) on wn ?_
                  refine l_nil (q_then_normal ?_)
                  refine c_ret ?_
                  refine q_then_ret (q_then_ret (q_then_ret (q_ret (.inl rfl) [.v (.agg #[.int .i64 0, .int .i64 0, .int .i64 0, .slice none 0 0]), vI 2] rfl (fun bs w hS => ?_))))
                  have hm : mHear x.abs m = (zCust, 2) := by
                    have ha5 : x.abs.waits = x.waits.xs := rfl
                    unfold mHear; rw [ha1, ha2, ha3, ha5]; try simp only [h1, h2, h3, h4, h6, h8, ne_eq, not_true_eq_false, not_false_eq_true, if_true, if_false, reduceIte, true_or, or_true, or_self, false_or, or_false]
                    repeat (first | rw [if_pos (by omega)] | rw [if_neg (by omega)])
                    all_goals rfl
                  refine ⟨⟨0, 0, 0, Sl.nil⟩, ?_, ?_, hS.outS (y := (⟨0, 0, 0, Sl.nil⟩ : CCustomer)) (Sl.rd_nil _ _)⟩
                  · simp only [retOf, den, List.map_cons, List.map_nil]; rw [hm]; rfl
                  · rw [hm]; rfl
              | false =>
                have h8 := of_decide_eq_false h8
                refine c_if false rfl ?_
                refine c_skip ?_
                refine q_then_normal ?_
                refine c_seq ?_
                refine c_region ?_
                refine JL_run 3 [] [5, 4] 3 ⟨[(5, vI 0), (4, .p 2 0)], [⟨24, [vI x.id, vI x.session, vI x.next, .v (.slice x.waits.A x.waits.n x.waits.c)]⟩, ⟨46, [vI m.client, vI m.seq, vI m.reply.code, vI m.reply.n, vS m.reply.text]⟩, ⟨24, [vI y1.id, vI y1.session, vI y1.next, .v (.slice y1.waits.A y1.waits.n y1.waits.c)]⟩]⟩ [] [] (by kernel_rfl) on wn ?_
                refine l_nil (q_then_normal ?_)
                refine c_ret ?_
                refine q_then_ret (q_ret (.inl rfl) [.v (.agg #[.int .i64 y1.id, .int .i64 y1.session, .int .i64 y1.next, .slice y1.waits.A y1.waits.n y1.waits.c]), vI 0] rfl (fun bs w hS => ?_))
                have e1 : y1.id = x.id := congrArg DCustomer.id hF1
                have e2 : y1.session = x.session := congrArg DCustomer.session hF1
                have e3 : y1.next = x.next := congrArg DCustomer.next hF1
                have e4 : y1.waits.xs = x.waits.xs := congrArg DCustomer.waits hF1
                have hm : mHear x.abs m = (⟨x.id, x.session, x.next, x.waits.xs⟩, 0) := by
                  have ha5 : x.abs.waits = x.waits.xs := rfl
                  unfold mHear; rw [ha1, ha2, ha3, ha5]; try simp only [h1, h2, h3, h4, h6, h8, ne_eq, not_true_eq_false, not_false_eq_true, if_true, if_false, reduceIte, true_or, or_true, or_self, false_or, or_false]
                  repeat (first | rw [if_pos (by omega)] | rw [if_neg (by omega)])
                  all_goals rfl
                refine ⟨⟨y1.id, y1.session, y1.next, y1.waits⟩, ?_, ?_, hS.outS (y := (⟨y1.id, y1.session, y1.next, y1.waits⟩ : CCustomer)) (allR_sub (y := y1) (.head _) (hS.res _ (.head _)))⟩
                · rw [hm]; rfl
                · rw [hm]; simp [CCustomer.abs, e4, e1, e2, e3]
        | false =>
          have h4 := of_decide_eq_false h4
          refine c_if false rfl ?_
          refine c_skip ?_
          refine q_then_normal ?_
          refine c_seq ?_
          refine c_region ?_
          refine JL_run 2 [] [7, 4, 3, 2] 4 ⟨[(7, .p 3 0), (4, .p 2 0), (3, .p 1 0), (2, .p 0 0)], [⟨24, [vI x.id, vI x.session, vI x.next, .v (.slice x.waits.A x.waits.n x.waits.c)]⟩, ⟨46, [vI m.client, vI m.seq, vI m.reply.code, vI m.reply.n, vS m.reply.text]⟩, ⟨24, [vI 0, vI 0, vI 0, .v (.slice none 0 0)]⟩, ⟨24, [vI y1.id, vI y1.session, vI y1.next, .v (.slice none 0 0)]⟩]⟩ [] [] (by kernel_rfl) on wn ?_
          refine l_nil (q_then_normal ?_)
          refine c_seq ?_
          refine c_region ?_
          refine JL_run 1 [] [8, 7, 4, 3, 2] 4 ⟨[(8, vB false), (7, .p 3 0), (4, .p 2 0), (3, .p 1 0), (2, .p 0 0)], [⟨24, [vI x.id, vI x.session, vI x.next, .v (.slice x.waits.A x.waits.n x.waits.c)]⟩, ⟨46, [vI m.client, vI m.seq, vI m.reply.code, vI m.reply.n, vS m.reply.text]⟩, ⟨24, [vI 0, vI 0, vI 0, .v (.slice none 0 0)]⟩, ⟨24, [vI y1.id, vI y1.session, vI y1.next, .v (.slice none 0 0)]⟩]⟩ [] [] (by kernel_rfl) on wn ?_
          refine l_nil (q_then_normal ?_)
          refine c_seq ?_
          refine c_seq ?_
          refine c_region ?_
          refine JL_run 1 [] [9, 8, 7, 4, 3, 2] 4 ⟨[(9, vI 0), (8, vB false), (7, .p 3 0), (4, .p 2 0), (3, .p 1 0), (2, .p 0 0)], [⟨24, [vI x.id, vI x.session, vI x.next, .v (.slice x.waits.A x.waits.n x.waits.c)]⟩, ⟨46, [vI m.client, vI m.seq, vI m.reply.code, vI m.reply.n, vS m.reply.text]⟩, ⟨24, [vI 0, vI 0, vI 0, .v (.slice none 0 0)]⟩, ⟨24, [vI y1.id, vI y1.session, vI y1.next, .v (.slice none 0 0)]⟩]⟩ [] [] (by kernel_rfl) on wn ?_
          refine l_nil (q_then_normal ?_)
          refine c_block ?_
          refine c_rowA (α := DWait) 83 ?_
          refine c_loop (σ := Nat × Bool × Option Addr × Nat × List DWait) (fun ⟨i, b, A, c, L⟩ => i ≤ x.waits.n ∧ L = (x.waits.xs.take i).filter (fun z => !decide (z.seq = m.seq)) ∧ b = (x.waits.xs.take i).any (fun z => decide (z.seq = m.seq))) (fun ⟨i, b, A, c, L⟩ => x.waits.n - i) (fun ⟨i, b, A, c, L⟩ => [rowA 83 A c (L : List DWait), subR fp1 y1]) (fun ⟨i, b, A, c, L⟩ => ⟨[(9, vI ((i : Nat) : Int)), (8, vB b), (7, .p 3 0), (4, .p 2 0), (3, .p 1 0), (2, .p 0 0)], [⟨24, [vI x.id, vI x.session, vI x.next, .v (.slice x.waits.A x.waits.n x.waits.c)]⟩, ⟨46, [vI m.client, vI m.seq, vI m.reply.code, vI m.reply.n, vS m.reply.text]⟩, ⟨24, [vI 0, vI 0, vI 0, .v (.slice none 0 0)]⟩, ⟨24, [vI y1.id, vI y1.session, vI y1.next, .v (.slice A L.length c)]⟩]⟩) ⟨0, false, none, 0, []⟩ ⟨Nat.zero_le _, rfl, rfl⟩ (s_start [9, 8, 7, 4, 3, 2] 4 (by kernel_rfl) rfl) ?_
          rintro ⟨i, b, A, c, L⟩ ⟨hi, hL, hB⟩
          have hLn : L.length ≤ i := by rw [hL]; exact Nat.le_trans (List.length_filter_le _ _) (by rw [List.length_take]; omega)
          refine c_seq ?_
          refine c_seq ?_
          refine c_region ?_
          refine JL_run 5 [] [60, 9, 8, 7, 4, 3, 2] 4 ⟨[(60, vB (decide (((i : Nat) : Int) < ((x.waits.n : Nat) : Int)))), (9, vI ((i : Nat) : Int)), (8, vB b), (7, .p 3 0), (4, .p 2 0), (3, .p 1 0), (2, .p 0 0)], [⟨24, [vI x.id, vI x.session, vI x.next, .v (.slice x.waits.A x.waits.n x.waits.c)]⟩, ⟨46, [vI m.client, vI m.seq, vI m.reply.code, vI m.reply.n, vS m.reply.text]⟩, ⟨24, [vI 0, vI 0, vI 0, .v (.slice none 0 0)]⟩, ⟨24, [vI y1.id, vI y1.session, vI y1.next, .v (.slice A L.length c)]⟩]⟩ [] [] (by kernel_rfl) on wn ?_
          refine l_nil (q_then_normal ?_)
          cases h10 : decide (((i : Nat) : Int) < ((x.waits.n : Nat) : Int)) with
          | true =>
            have h10 := of_decide_eq_true h10
            refine c_if true rfl ?_
            refine c_skip ?_
            refine q_then_normal ?_
            refine c_seq ?_
            refine c_block ?_
            refine c_seq ?_
            refine c_draw 9 [(0, false), (1, false), (2, false), (3, false), (4, false), (5, false), (6, false), (7, false), (8, false)] [] [rowA 83 A c (L : List DWait), subR fp1 y1] Try_mixed (by kernel_rfl) (pq_then (pq_block (pq_then (pq_then (pq_block (pq_then pq_body)))))) (List.Sublist.refl _) ?_
            refine h_quiet [(3, .idx x.waits.ad i), (5, .ext [.int .i64 (x.waits.at i).seq])] 9 [(71, vB (decide ((x.waits.at i).seq = m.seq))), (70, vI m.seq), (69, .p 1 1), (68, vI (x.waits.at i).seq), (67, .v (.pointer (some ((x.waits.ad.add (i * 5)).add 0)))), (66, .v (.pointer (some (x.waits.ad.add (i * 5))))), (65, vI ((i : Nat) : Int)), (64, .v (.slice x.waits.A x.waits.n x.waits.c)), (63, .p 0 3), (60, vB true), (9, vI ((i : Nat) : Int)), (8, vB b), (7, .p 3 0), (4, .p 2 0), (3, .p 1 0), (2, .p 0 0)] [x.waits.A = some x.waits.ad, ((i : Nat) : Int) = ((i : Nat) : Int), i < x.waits.n] [((x.waits.ad.add (i * 5)).add 0, [.int .i64 (x.waits.at i).seq])] rfl rfl (by kernel_rfl) (oc (Sl.ok.own (s := x.waits) (i := i) okx (by omega)) (oc rfl (oc (by omega) on))) (fun w hk hr => ⟨(Sl.rd.fld (s := x.waits) (i := i) (Rds.kp hx hk) (by omega) 0 1 rfl), trivial⟩) ?_
            refine h_nil ?_
            refine l_nil (q_then_normal ?_)
            cases h11 : decide ((x.waits.at i).seq = m.seq) with
            | true =>
              have h11 := of_decide_eq_true h11
              refine c_if true rfl ?_
              refine c_region ?_
              refine JL_run 1 [] [8, 9, 7, 4, 3, 2] 4 ⟨[(8, vB true), (9, vI ((i : Nat) : Int)), (7, .p 3 0), (4, .p 2 0), (3, .p 1 0), (2, .p 0 0)], [⟨24, [vI x.id, vI x.session, vI x.next, .v (.slice x.waits.A x.waits.n x.waits.c)]⟩, ⟨46, [vI m.client, vI m.seq, vI m.reply.code, vI m.reply.n, vS m.reply.text]⟩, ⟨24, [vI 0, vI 0, vI 0, .v (.slice none 0 0)]⟩, ⟨24, [vI y1.id, vI y1.session, vI y1.next, .v (.slice A L.length c)]⟩]⟩ [] [] (by kernel_rfl) on wn ?_
              refine l_nil (q_block_normal (q_then_normal ?_))
              refine c_region ?_
              refine JL_run 3 [] [9, 8, 7, 4, 3, 2] 4 ⟨[(9, vI (((i : Nat) : Int) + 1)), (8, vB true), (7, .p 3 0), (4, .p 2 0), (3, .p 1 0), (2, .p 0 0)], [⟨24, [vI x.id, vI x.session, vI x.next, .v (.slice x.waits.A x.waits.n x.waits.c)]⟩, ⟨46, [vI m.client, vI m.seq, vI m.reply.code, vI m.reply.n, vS m.reply.text]⟩, ⟨24, [vI 0, vI 0, vI 0, .v (.slice none 0 0)]⟩, ⟨24, [vI y1.id, vI y1.session, vI y1.next, .v (.slice A L.length c)]⟩]⟩ [inR (((i : Nat) : Int) + 1)] [] (by kernel_rfl) (oc (by unfold inR; omega) on) wn ?_
              refine l_nil (q_loop (x := (⟨i, b, A, c, L⟩ : Nat × Bool × Option Addr × Nat × List DWait)) (⟨i + 1, true, A, c, L⟩ : Nat × Bool × Option Addr × Nat × List DWait) ⟨by omega, by first | exact filt_in hL (by omega) (by assumption) | exact filt_out hL (by omega) (by assumption), by first | exact (Bool.or_true b ▸ (decide_eq_true (show (x.waits.at i).seq = m.seq by assumption) ▸ any_snoc hB (show i < x.waits.n by omega)) : true = _) | (have hz := any_snoc (p := fun z : DWait => decide (z.seq = m.seq)) hB (show i < x.waits.n by omega); rw [decide_eq_false (by assumption), Bool.or_false] at hz; exact hz) | (have hz := any_snoc (p := fun z : DWait => decide (z.seq = m.seq)) hB (show i < x.waits.n by omega); rw [decide_eq_true (by assumption), Bool.or_true] at hz; exact hz)⟩ (by show x.waits.n - (i + 1) < x.waits.n - i; omega) (s_start [9, 8, 7, 4, 3, 2] 4 (by kernel_rfl) rfl))
            | false =>
              have h11 := of_decide_eq_false h11
              refine c_if false rfl ?_
              refine c_draw 8 [(0, false), (1, false), (2, false), (3, false), (4, false), (5, false), (6, false), (7, true)] [] [rowA 83 A c (L : List DWait), subR fp1 y1] Try_mixed (by kernel_rfl) (pq_block (pq_then (pq_then (pq_block (pq_then pq_body))))) (List.Sublist.refl _) ?_
              refine h_quiet [(5, .idx x.waits.ad i), (6, .ext [.int .i64 (x.waits.at i).seq, .int .i64 (x.waits.at i).op.kind, .string (x.waits.at i).op.a, .string (x.waits.at i).op.b, .int .i64 (x.waits.at i).op.n])] 7 [(78, .v (.agg #[.int .i64 (x.waits.at i).seq, .int .i64 (x.waits.at i).op.kind, .string (x.waits.at i).op.a, .string (x.waits.at i).op.b, .int .i64 (x.waits.at i).op.n])), (77, .v (.pointer (some (x.waits.ad.add (i * 5))))), (76, vI ((i : Nat) : Int)), (75, .v (.slice x.waits.A x.waits.n x.waits.c)), (74, .p 0 3), (73, .v (.slice A L.length c)), (72, .p 3 3), (71, vB false), (70, vI m.seq), (69, .p 1 1), (68, vI (x.waits.at i).seq), (67, .v (.pointer (some ((x.waits.ad.add (i * 5)).add 0)))), (66, .v (.pointer (some (x.waits.ad.add (i * 5))))), (65, vI ((i : Nat) : Int)), (64, .v (.slice x.waits.A x.waits.n x.waits.c)), (63, .p 0 3), (60, vB true), (9, vI ((i : Nat) : Int)), (8, vB b), (7, .p 3 0), (4, .p 2 0), (3, .p 1 0), (2, .p 0 0)] [x.waits.A = some x.waits.ad, ((i : Nat) : Int) = ((i : Nat) : Int), i < x.waits.n] [(x.waits.ad.add (i * 5), [.int .i64 (x.waits.at i).seq, .int .i64 (x.waits.at i).op.kind, .string (x.waits.at i).op.a, .string (x.waits.at i).op.b, .int .i64 (x.waits.at i).op.n])] rfl rfl (by kernel_rfl) (oc (Sl.ok.own (s := x.waits) (i := i) okx (by omega)) (oc rfl (oc (by omega) on))) (fun w hk hr => ⟨(Sl.rd.all (s := x.waits) (i := i) (Rds.kp hx hk) (by omega) rfl), trivial⟩) ?_
              refine h_local ⟨[(79, .s 4 0 1 1), (78, .v (.agg #[.int .i64 (x.waits.at i).seq, .int .i64 (x.waits.at i).op.kind, .string (x.waits.at i).op.a, .string (x.waits.at i).op.b, .int .i64 (x.waits.at i).op.n])), (77, .v (.pointer (some (x.waits.ad.add (i * 5))))), (76, vI ((i : Nat) : Int)), (75, .v (.slice x.waits.A x.waits.n x.waits.c)), (74, .p 0 3), (73, .v (.slice A L.length c)), (72, .p 3 3), (71, vB false), (70, vI m.seq), (69, .p 1 1), (68, vI (x.waits.at i).seq), (67, .v (.pointer (some ((x.waits.ad.add (i * 5)).add 0)))), (66, .v (.pointer (some (x.waits.ad.add (i * 5))))), (65, vI ((i : Nat) : Int)), (64, .v (.slice x.waits.A x.waits.n x.waits.c)), (63, .p 0 3), (60, vB true), (9, vI ((i : Nat) : Int)), (8, vB b), (7, .p 3 0), (4, .p 2 0), (3, .p 1 0), (2, .p 0 0)], [⟨24, [vI x.id, vI x.session, vI x.next, .v (.slice x.waits.A x.waits.n x.waits.c)]⟩, ⟨46, [vI m.client, vI m.seq, vI m.reply.code, vI m.reply.n, vS m.reply.text]⟩, ⟨24, [vI 0, vI 0, vI 0, .v (.slice none 0 0)]⟩, ⟨24, [vI y1.id, vI y1.session, vI y1.next, .v (.slice A L.length c)]⟩, ⟨83, [vI (x.waits.at i).seq, vI (x.waits.at i).op.kind, vS (x.waits.at i).op.a, vS (x.waits.at i).op.b, vI (x.waits.at i).op.n]⟩]⟩ (by kernel_rfl) (fun bs0 bs w hp hl hS => hS.down hp hl rfl (le_same (le_same (le_same (le_same le_nil)))) (List.Sublist.refl _)) ?_
              refine h_nil ?_
              refine l_appendA (α := DWait) 83 56 A c (L) (.s 4 0 1 1) ([(⟨(x.waits.at i).seq, ⟨(x.waits.at i).op.kind, (x.waits.at i).op.a, (x.waits.at i).op.b, (x.waits.at i).op.n⟩⟩ : DWait)]) Try.underlying22 (by kernel_rfl) rfl rfl rfl (fun bs w hS => by obtain ⟨q1, q2, q3, q4⟩ := src_loc (i := 4) (off := 0) (k := 1) (c := 1) (q := 5) (vs := [.int .i64 (x.waits.at i).seq, .int .i64 (x.waits.at i).op.kind, .string (x.waits.at i).op.a, .string (x.waits.at i).op.b, .int .i64 (x.waits.at i).op.n]) hS rfl rfl; exact ⟨some q1, q2, q3, q4⟩) (by first | omega | (simp only [List.length_cons, List.length_nil]; omega)) (by first | omega | (simp only [List.length_cons, List.length_nil]; omega)) ?_
              intro A2 c2
              refine JL_run 2 [] [9, 8, 7, 4, 3, 2] 4 ⟨[(9, vI ((i : Nat) : Int)), (8, vB b), (7, .p 3 0), (4, .p 2 0), (3, .p 1 0), (2, .p 0 0)], [⟨24, [vI x.id, vI x.session, vI x.next, .v (.slice x.waits.A x.waits.n x.waits.c)]⟩, ⟨46, [vI m.client, vI m.seq, vI m.reply.code, vI m.reply.n, vS m.reply.text]⟩, ⟨24, [vI 0, vI 0, vI 0, .v (.slice none 0 0)]⟩, ⟨24, [vI y1.id, vI y1.session, vI y1.next, .v (.slice A2 (L ++ [(⟨(x.waits.at i).seq, ⟨(x.waits.at i).op.kind, (x.waits.at i).op.a, (x.waits.at i).op.b, (x.waits.at i).op.n⟩⟩ : DWait)]).length c2)]⟩]⟩ [] [] (by kernel_rfl) on wn ?_
              refine l_nil (q_block_normal (q_then_normal ?_))
              refine c_region ?_
              refine JL_run 3 [] [9, 8, 7, 4, 3, 2] 4 ⟨[(9, vI (((i : Nat) : Int) + 1)), (8, vB b), (7, .p 3 0), (4, .p 2 0), (3, .p 1 0), (2, .p 0 0)], [⟨24, [vI x.id, vI x.session, vI x.next, .v (.slice x.waits.A x.waits.n x.waits.c)]⟩, ⟨46, [vI m.client, vI m.seq, vI m.reply.code, vI m.reply.n, vS m.reply.text]⟩, ⟨24, [vI 0, vI 0, vI 0, .v (.slice none 0 0)]⟩, ⟨24, [vI y1.id, vI y1.session, vI y1.next, .v (.slice A2 (L ++ [(⟨(x.waits.at i).seq, ⟨(x.waits.at i).op.kind, (x.waits.at i).op.a, (x.waits.at i).op.b, (x.waits.at i).op.n⟩⟩ : DWait)]).length c2)]⟩]⟩ [inR (((i : Nat) : Int) + 1)] [] (by kernel_rfl) (oc (by unfold inR; omega) on) wn ?_
              refine l_nil (q_loop (x := (⟨i, b, A, c, L⟩ : Nat × Bool × Option Addr × Nat × List DWait)) (⟨i + 1, b, A2, c2, L ++ [(⟨(x.waits.at i).seq, ⟨(x.waits.at i).op.kind, (x.waits.at i).op.a, (x.waits.at i).op.b, (x.waits.at i).op.n⟩⟩ : DWait)]⟩ : Nat × Bool × Option Addr × Nat × List DWait) ⟨by omega, by first | exact filt_in hL (by omega) (by assumption) | exact filt_out hL (by omega) (by assumption), by first | exact (Bool.or_true b ▸ (decide_eq_true (show (x.waits.at i).seq = m.seq by assumption) ▸ any_snoc hB (show i < x.waits.n by omega)) : true = _) | (have hz := any_snoc (p := fun z : DWait => decide (z.seq = m.seq)) hB (show i < x.waits.n by omega); rw [decide_eq_false (by assumption), Bool.or_false] at hz; exact hz) | (have hz := any_snoc (p := fun z : DWait => decide (z.seq = m.seq)) hB (show i < x.waits.n by omega); rw [decide_eq_true (by assumption), Bool.or_true] at hz; exact hz)⟩ (by show x.waits.n - (i + 1) < x.waits.n - i; omega) (s_start [9, 8, 7, 4, 3, 2] 4 (by kernel_rfl) rfl))
          | false =>
            have h10 := of_decide_eq_false h10
            refine c_if false rfl ?_
            refine c_exit ?_
            refine q_then_exit (q_then_exit (q_block_hit (q_then_normal ?_)))
            refine c_seq ?_
            refine c_seq ?_
            refine c_region ?_
            refine JL_run 2 [] [83, 7, 4, 3] 4 ⟨[(83, vB (!b)), (7, .p 3 0), (4, .p 2 0), (3, .p 1 0)], [⟨24, [vI x.id, vI x.session, vI x.next, .v (.slice x.waits.A x.waits.n x.waits.c)]⟩, ⟨46, [vI m.client, vI m.seq, vI m.reply.code, vI m.reply.n, vS m.reply.text]⟩, ⟨24, [vI 0, vI 0, vI 0, .v (.slice none 0 0)]⟩, ⟨24, [vI y1.id, vI y1.session, vI y1.next, .v (.slice A L.length c)]⟩]⟩ [] [] (by kernel_rfl) on wn ?_
            refine l_nil (q_then_normal ?_)
            cases h12 : b with
            | true =>
              refine c_if false rfl ?_
              refine c_skip ?_
              refine q_then_normal ?_
              refine c_seq ?_
              refine c_seq ?_
              refine c_region ?_
              refine JL_run 4 [] [88, 7, 4] 4 ⟨[(88, vB (decide (m.reply.code = 11))), (7, .p 3 0), (4, .p 2 0)], [⟨24, [vI x.id, vI x.session, vI x.next, .v (.slice x.waits.A x.waits.n x.waits.c)]⟩, ⟨46, [vI m.client, vI m.seq, vI m.reply.code, vI m.reply.n, vS m.reply.text]⟩, ⟨24, [vI 0, vI 0, vI 0, .v (.slice none 0 0)]⟩, ⟨24, [vI y1.id, vI y1.session, vI y1.next, .v (.slice A L.length c)]⟩]⟩ [] [] (by kernel_rfl) on wn ?_
              refine l_nil (q_then_normal ?_)
              cases h13 : decide (m.reply.code = 11) with
              | true =>
                have h13 := of_decide_eq_true h13
                refine c_if true rfl ?_
                refine c_seq ?_
                refine c_region ?_
                refine JL_run 2 [] [7, 4] 4 ⟨[(7, .p 3 0), (4, .p 2 0)], [⟨24, [vI x.id, vI x.session, vI x.next, .v (.slice x.waits.A x.waits.n x.waits.c)]⟩, ⟨46, [vI m.client, vI m.seq, vI m.reply.code, vI m.reply.n, vS m.reply.text]⟩, ⟨24, [vI 0, vI 0, vI 0, .v (.slice none 0 0)]⟩, ⟨24, [vI y1.id, vI 0, vI y1.next, .v (.slice A L.length c)]⟩]⟩ [] [] (by kernel_rfl) on wn ?_
                refine l_nil (q_then_normal ?_)
                refine c_region ?_
                refine JL_run 2 [] [7, 4] 4 ⟨[(7, .p 3 0), (4, .p 2 0)], [⟨24, [vI x.id, vI x.session, vI x.next, .v (.slice x.waits.A x.waits.n x.waits.c)]⟩, ⟨46, [vI m.client, vI m.seq, vI m.reply.code, vI m.reply.n, vS m.reply.text]⟩, ⟨24, [vI 0, vI 0, vI 0, .v (.slice none 0 0)]⟩, ⟨24, [vI y1.id, vI 0, vI y1.next, .v (.slice none 0 0)]⟩]⟩ [] [] (by kernel_rfl) on wn ?_
                refine l_nil (q_then_normal ?_)
                refine c_seq ?_
                refine c_region ?_
                refine JL_run 3 [] [5, 4] 3 ⟨[(5, vI 0), (4, .p 2 0)], [⟨24, [vI x.id, vI x.session, vI x.next, .v (.slice x.waits.A x.waits.n x.waits.c)]⟩, ⟨46, [vI m.client, vI m.seq, vI m.reply.code, vI m.reply.n, vS m.reply.text]⟩, ⟨24, [vI y1.id, vI 0, vI y1.next, .v (.slice none 0 0)]⟩]⟩ [] [] (by kernel_rfl) on wn ?_
                refine l_nil (q_then_normal ?_)
                refine c_ret ?_
                refine q_ret (.inl rfl) [.v (.agg #[.int .i64 y1.id, .int .i64 0, .int .i64 y1.next, .slice none 0 0]), vI 0] rfl (fun bs w hS => ?_)
                have e1 : y1.id = x.id := congrArg DCustomer.id hF1
                have e2 : y1.session = x.session := congrArg DCustomer.session hF1
                have e3 : y1.next = x.next := congrArg DCustomer.next hF1
                have e4 : y1.waits.xs = x.waits.xs := congrArg DCustomer.waits hF1
                have hid : ¬ mIdx (fun z : DWait => decide (z.seq = m.seq)) x.waits.xs < 0 := by have h9 := mIdx_nonneg (fun z : DWait => decide (z.seq = m.seq)) x.waits.xs; rw [take_all (by omega)] at hB; rw [← hB] at h9; have := of_decide_eq_true (h9.trans h12); omega
                have hm : mHear x.abs m = (⟨x.id, 0, x.next, []⟩, 0) := by
                  have ha5 : x.abs.waits = x.waits.xs := rfl
                  unfold mHear; rw [ha1, ha2, ha3, ha5]; try simp only [h1, h2, h3, h4, h13, ne_eq, not_true_eq_false, not_false_eq_true, if_true, if_false, reduceIte, true_or, or_true, or_self, false_or, or_false]
                  repeat (first | rw [if_pos (by omega)] | rw [if_neg (by omega)])
                  all_goals rfl
                refine ⟨⟨y1.id, 0, y1.next, Sl.nil⟩, ?_, ?_, hS.outS (y := (⟨y1.id, 0, y1.next, Sl.nil⟩ : CCustomer)) (Sl.rd_nil _ _)⟩
                · rw [hm]; rfl
                · rw [hm]; simp [CCustomer.abs, Sl.nil, e1, e2, e3]
              | false =>
                have h13 := of_decide_eq_false h13
                refine c_if false rfl ?_
                refine c_skip ?_
                refine q_then_normal ?_
                refine c_seq ?_
                refine c_region ?_
                refine JL_run 3 [] [5, 4] 3 ⟨[(5, vI 0), (4, .p 2 0)], [⟨24, [vI x.id, vI x.session, vI x.next, .v (.slice x.waits.A x.waits.n x.waits.c)]⟩, ⟨46, [vI m.client, vI m.seq, vI m.reply.code, vI m.reply.n, vS m.reply.text]⟩, ⟨24, [vI y1.id, vI y1.session, vI y1.next, .v (.slice A L.length c)]⟩]⟩ [] [] (by kernel_rfl) on wn ?_
                refine l_nil (q_then_normal ?_)
                refine c_ret ?_
                refine q_ret (.inl rfl) [.v (.agg #[.int .i64 y1.id, .int .i64 y1.session, .int .i64 y1.next, .slice A L.length c]), vI 0] rfl (fun bs w hS => ?_)
                have e1 : y1.id = x.id := congrArg DCustomer.id hF1
                have e2 : y1.session = x.session := congrArg DCustomer.session hF1
                have e3 : y1.next = x.next := congrArg DCustomer.next hF1
                have e4 : y1.waits.xs = x.waits.xs := congrArg DCustomer.waits hF1
                have hfl : L = x.waits.xs.filter fun z => !decide (z.seq = m.seq) := by rw [hL, take_all (by omega)]
                have hid : ¬ mIdx (fun z : DWait => decide (z.seq = m.seq)) x.waits.xs < 0 := by have h9 := mIdx_nonneg (fun z : DWait => decide (z.seq = m.seq)) x.waits.xs; rw [take_all (by omega)] at hB; rw [← hB] at h9; have := of_decide_eq_true (h9.trans h12); omega
                have hm : mHear x.abs m = (⟨x.id, x.session, x.next, x.waits.xs.filter fun z => !decide (z.seq = m.seq)⟩, 0) := by
                  have ha5 : x.abs.waits = x.waits.xs := rfl
                  unfold mHear; rw [ha1, ha2, ha3, ha5]; try simp only [h1, h2, h3, h4, h13, ne_eq, not_true_eq_false, not_false_eq_true, if_true, if_false, reduceIte, true_or, or_true, or_self, false_or, or_false]
                  repeat (first | rw [if_pos (by omega)] | rw [if_neg (by omega)])
                  all_goals rfl
                refine ⟨⟨y1.id, y1.session, y1.next, ⟨A, c, L⟩⟩, ?_, ?_, hS.outS (y := (⟨y1.id, y1.session, y1.next, ⟨A, c, L⟩⟩ : CCustomer)) (allR_row (.head _) (hS.res _ (.head _)) (fun z hz => Sl.rd.mem (s := x.waits) hx z (List.mem_filter.1 (hfl ▸ hz)).1))⟩
                · rw [hm]; rfl
                · rw [hm]; simp [CCustomer.abs, hfl, e1, e2, e3]
            | false =>
              have hidz : mIdx (fun z : DWait => decide (z.seq = m.seq)) x.waits.xs < 0 := by have h9 := mIdx_nonneg (fun z : DWait => decide (z.seq = m.seq)) x.waits.xs; rw [take_all (by omega)] at hB; rw [← hB] at h9; have := of_decide_eq_false (h9.trans h12); omega
              refine c_if true rfl ?_
              refine c_seq ?_
              refine c_region ?_
              refine JL_run 3 [] [5, 4] 3 ⟨[(5, vI 12), (4, .p 2 0)], [⟨24, [vI x.id, vI x.session, vI x.next, .v (.slice x.waits.A x.waits.n x.waits.c)]⟩, ⟨46, [vI m.client, vI m.seq, vI m.reply.code, vI m.reply.n, vS m.reply.text]⟩, ⟨24, [vI 0, vI 0, vI 0, .v (.slice none 0 0)]⟩]⟩ [] [] (by kernel_rfl) on wn ?_
              refine l_nil (q_then_normal ?_)
              refine c_ret ?_
              refine q_then_ret (q_ret (.inl rfl) [.v (.agg #[.int .i64 0, .int .i64 0, .int .i64 0, .slice none 0 0]), vI 12] rfl (fun bs w hS => ?_))
              have hm : mHear x.abs m = (zCust, 12) := by
                have ha5 : x.abs.waits = x.waits.xs := rfl
                unfold mHear; rw [ha1, ha2, ha3, ha5]; try simp only [h1, h2, h3, h4, ne_eq, not_true_eq_false, not_false_eq_true, if_true, if_false, reduceIte, true_or, or_true, or_self, false_or, or_false]
                repeat (first | rw [if_pos (by omega)] | rw [if_neg (by omega)])
                all_goals rfl
              refine ⟨⟨0, 0, 0, Sl.nil⟩, ?_, ?_, hS.outS (y := (⟨0, 0, 0, Sl.nil⟩ : CCustomer)) (Sl.rd_nil _ _)⟩
              · simp only [retOf, den, List.map_cons, List.map_nil]; rw [hm]; rfl
              · rw [hm]; rfl
      | false =>
        have h3 := of_decide_eq_false h3
        exact absurd h1 h3
    | false =>
      have h2 := of_decide_eq_false h2
      refine c_if true rfl ?_
      refine c_region ?_
      refine JL_run 1 [] [6, 4, 3, 2] 3 ⟨[(6, vI 6), (4, .p 2 0), (3, .p 1 0), (2, .p 0 0)], [⟨24, [vI x.id, vI x.session, vI x.next, .v (.slice x.waits.A x.waits.n x.waits.c)]⟩, ⟨46, [vI m.client, vI m.seq, vI m.reply.code, vI m.reply.n, vS m.reply.text]⟩, ⟨24, [vI 0, vI 0, vI 0, .v (.slice none 0 0)]⟩]⟩ [] [] (by kernel_rfl) on wn ?_
      refine l_nil (q_then_normal ?_)
      refine c_seq ?_
      refine c_seq ?_
      refine c_region ?_
      refine JL_run 2 [] [22, 6, 4, 3, 2] 3 ⟨[(22, vB true), (6, vI 6), (4, .p 2 0), (3, .p 1 0), (2, .p 0 0)], [⟨24, [vI x.id, vI x.session, vI x.next, .v (.slice x.waits.A x.waits.n x.waits.c)]⟩, ⟨46, [vI m.client, vI m.seq, vI m.reply.code, vI m.reply.n, vS m.reply.text]⟩, ⟨24, [vI 0, vI 0, vI 0, .v (.slice none 0 0)]⟩]⟩ [] [] (by kernel_rfl) on wn ?_
      refine l_nil (q_then_normal ?_)
      refine c_if true rfl ?_
      refine c_seq ?_
      refine c_region ?_
      refine JL_run 4 [] [5, 4] 3 ⟨[(5, vI 6), (4, .p 2 0)], [⟨24, [vI x.id, vI x.session, vI x.next, .v (.slice x.waits.A x.waits.n x.waits.c)]⟩, ⟨46, [vI m.client, vI m.seq, vI m.reply.code, vI m.reply.n, vS m.reply.text]⟩, ⟨24, [vI 0, vI 0, vI 0, .v (.slice none 0 0)]⟩]⟩ [] [] (by kernel_rfl) on wn ?_
      refine l_nil (q_then_normal ?_)
      refine c_ret ?_
      refine q_then_ret (q_ret (.inl rfl) [.v (.agg #[.int .i64 0, .int .i64 0, .int .i64 0, .slice none 0 0]), vI 6] rfl (fun bs w hS => ?_))
      have hm : mHear x.abs m = (zCust, 6) := by
        have ha5 : x.abs.waits = x.waits.xs := rfl
        unfold mHear; rw [ha1, ha2, ha3, ha5]; try simp only [h1, h2, ne_eq, not_true_eq_false, not_false_eq_true, if_true, if_false, reduceIte, true_or, or_true, or_self, false_or, or_false]
        repeat (first | rw [if_pos (by omega)] | rw [if_neg (by omega)])
        all_goals rfl
      refine ⟨⟨0, 0, 0, Sl.nil⟩, ?_, ?_, hS.outS (y := (⟨0, 0, 0, Sl.nil⟩ : CCustomer)) (Sl.rd_nil _ _)⟩
      · simp only [retOf, den, List.map_cons, List.map_nil]; rw [hm]; rfl
      · rw [hm]; rfl
  | false =>
    have h1 := of_decide_eq_false h1
    refine JL_run 6 [] [20, 6, 4, 3, 2] 3 ⟨[(20, vB false), (6, vI (mCust x.abs)), (4, .p 2 0), (3, .p 1 0), (2, .p 0 0)], [⟨24, [vI x.id, vI x.session, vI x.next, .v (.slice x.waits.A x.waits.n x.waits.c)]⟩, ⟨46, [vI m.client, vI m.seq, vI m.reply.code, vI m.reply.n, vS m.reply.text]⟩, ⟨24, [vI 0, vI 0, vI 0, .v (.slice none 0 0)]⟩]⟩ [] [] (by kernel_rfl) on wn ?_
    refine l_nil (q_then_normal ?_)
    refine c_if false rfl ?_
    refine c_skip ?_
    refine q_then_normal ?_
    refine c_seq ?_
    refine c_seq ?_
    refine c_region ?_
    refine JL_run 2 [] [22, 6, 4, 3, 2] 3 ⟨[(22, vB (!(decide (mCust x.abs = 0)))), (6, vI (mCust x.abs)), (4, .p 2 0), (3, .p 1 0), (2, .p 0 0)], [⟨24, [vI x.id, vI x.session, vI x.next, .v (.slice x.waits.A x.waits.n x.waits.c)]⟩, ⟨46, [vI m.client, vI m.seq, vI m.reply.code, vI m.reply.n, vS m.reply.text]⟩, ⟨24, [vI 0, vI 0, vI 0, .v (.slice none 0 0)]⟩]⟩ [] [] (by kernel_rfl) on wn ?_
    refine l_nil (q_then_normal ?_)
    cases h14 : decide (mCust x.abs = 0) with
    | true =>
      have h14 := of_decide_eq_true h14
      exact absurd h14 h1
    | false =>
      have h14 := of_decide_eq_false h14
      refine c_if true rfl ?_
      refine c_seq ?_
      refine c_region ?_
      refine JL_run 4 [] [5, 4] 3 ⟨[(5, vI (mCust x.abs)), (4, .p 2 0)], [⟨24, [vI x.id, vI x.session, vI x.next, .v (.slice x.waits.A x.waits.n x.waits.c)]⟩, ⟨46, [vI m.client, vI m.seq, vI m.reply.code, vI m.reply.n, vS m.reply.text]⟩, ⟨24, [vI 0, vI 0, vI 0, .v (.slice none 0 0)]⟩]⟩ [] [] (by kernel_rfl) on wn ?_
      refine l_nil (q_then_normal ?_)
      refine c_ret ?_
      refine q_then_ret (q_ret (.inl rfl) [.v (.agg #[.int .i64 0, .int .i64 0, .int .i64 0, .slice none 0 0]), vI (mCust x.abs)] rfl (fun bs w hS => ?_))
      have hm : mHear x.abs m = (zCust, mCust x.abs) := by
        have ha5 : x.abs.waits = x.waits.xs := rfl
        unfold mHear; rw [ha1, ha2, ha3, ha5]; try simp only [h1, h14, ne_eq, not_true_eq_false, not_false_eq_true, if_true, if_false, reduceIte, true_or, or_true, or_self, false_or, or_false]
        repeat (first | rw [if_pos (by omega)] | rw [if_neg (by omega)])
        all_goals rfl
      refine ⟨⟨0, 0, 0, Sl.nil⟩, ?_, ?_, hS.outS (y := (⟨0, 0, 0, Sl.nil⟩ : CCustomer)) (Sl.rd_nil _ _)⟩
      · simp only [retOf, den, List.map_cons, List.map_nil]; rw [hm]; rfl
      · rw [hm]; rfl

theorem law_CustomerHears {B : Nat → Prop} (x : CCustomer) (m : DMail) (w : World) (hx : Rds.sub B w x) (hmx : Rds.sub B w m) (hsm : Rds.small x) : Calls Try.prog 6 #[.agg #[.int .i64 x.id, .int .i64 x.session, .int .i64 x.next, .slice x.waits.A x.waits.n x.waits.c], .agg #[.int .i64 m.client, .int .i64 m.seq, .int .i64 m.reply.code, .int .i64 m.reply.n, .string m.reply.text]] w fun e w' => e = .returned (.bool true) ∧ Kp [] w w' := by
  have okx := Rds.okof hx
  refine calls_J0 37 Try.func6 rfl rfl [.agg #[.int .i64 x.id, .int .i64 x.session, .int .i64 x.next, .slice x.waits.A x.waits.n x.waits.c], .agg #[.int .i64 m.client, .int .i64 m.seq, .int .i64 m.reply.code, .int .i64 m.reply.n, .string m.reply.text]] rfl ?_
  refine c_seq ?_
  refine c_region ?_
  refine JL_run 3 [] [3, 2] 2 ⟨[(3, .p 1 0), (2, .p 0 0)], [⟨24, [vI x.id, vI x.session, vI x.next, .v (.slice x.waits.A x.waits.n x.waits.c)]⟩, ⟨46, [vI m.client, vI m.seq, vI m.reply.code, vI m.reply.n, vS m.reply.text]⟩]⟩ [] [] (by kernel_rfl) on wn ?_
  refine l_nil (q_then_normal ?_)
  refine c_seq ?_
  refine c_region ?_
  refine JL_run 1 [] [10, 3, 2] 2 ⟨[(10, .v (.agg #[.int .i64 x.id, .int .i64 x.session, .int .i64 x.next, .slice x.waits.A x.waits.n x.waits.c])), (3, .p 1 0), (2, .p 0 0)], [⟨24, [vI x.id, vI x.session, vI x.next, .v (.slice x.waits.A x.waits.n x.waits.c)]⟩, ⟨46, [vI m.client, vI m.seq, vI m.reply.code, vI m.reply.n, vS m.reply.text]⟩]⟩ [] [] (by kernel_rfl) on wn ?_
  refine l_sub_call (σ := CCustomer) 15 [] [.v (.agg #[.int .i64 x.id, .int .i64 x.session, .int .i64 x.next, .slice x.waits.A x.waits.n x.waits.c])] (fun y1 => .agg #[.int .i64 y1.id, .int .i64 y1.session, .int .i64 y1.next, .slice y1.waits.A y1.waits.n y1.waits.c]) (fun y1 => y1.abs = x.abs) Try.call15 rfl rfl rfl rfl (fun bs w hS => ref_CustomerCopy x w (Rds.kp hx hS.kp) hsm.1) ?_
  rintro fp1 y1 hF1 hok1
  refine JL_run 2 [] [5, 3, 2] 3 ⟨[(5, .p 2 0), (3, .p 1 0), (2, .p 0 0)], [⟨24, [vI x.id, vI x.session, vI x.next, .v (.slice x.waits.A x.waits.n x.waits.c)]⟩, ⟨46, [vI m.client, vI m.seq, vI m.reply.code, vI m.reply.n, vS m.reply.text]⟩, ⟨24, [vI y1.id, vI y1.session, vI y1.next, .v (.slice y1.waits.A y1.waits.n y1.waits.c)]⟩]⟩ [] [] (by kernel_rfl) on wn ?_
  refine l_nil (q_then_normal ?_)
  refine c_seq ?_
  refine c_region ?_
  refine JL_run 2 [] [14, 13, 5, 3, 2] 3 ⟨[(14, .v (.agg #[.int .i64 m.client, .int .i64 m.seq, .int .i64 m.reply.code, .int .i64 m.reply.n, .string m.reply.text])), (13, .v (.agg #[.int .i64 y1.id, .int .i64 y1.session, .int .i64 y1.next, .slice y1.waits.A y1.waits.n y1.waits.c])), (5, .p 2 0), (3, .p 1 0), (2, .p 0 0)], [⟨24, [vI x.id, vI x.session, vI x.next, .v (.slice x.waits.A x.waits.n x.waits.c)]⟩, ⟨46, [vI m.client, vI m.seq, vI m.reply.code, vI m.reply.n, vS m.reply.text]⟩, ⟨24, [vI y1.id, vI y1.session, vI y1.next, .v (.slice y1.waits.A y1.waits.n y1.waits.c)]⟩]⟩ [] [] (by kernel_rfl) on wn ?_
  refine l_sub_call (σ := CCustomer) 25 [] [.v (.agg #[.int .i64 y1.id, .int .i64 y1.session, .int .i64 y1.next, .slice y1.waits.A y1.waits.n y1.waits.c]), .v (.agg #[.int .i64 m.client, .int .i64 m.seq, .int .i64 m.reply.code, .int .i64 m.reply.n, .string m.reply.text])] (fun y2 => .tuple #[.agg #[.int .i64 y2.id, .int .i64 y2.session, .int .i64 y2.next, .slice y2.waits.A y2.waits.n y2.waits.c], .int .i64 ((mHear y1.abs m).2)]) (fun y2 => y2.abs = (mHear y1.abs m).1) Try.call25 rfl rfl rfl rfl (fun bs w hS => customer_Hear y1 m w (hS.res _ (.head _)) hmx) ?_
  rintro fp2 y2 hF2 hok2
  refine JL_run 6 [] [7, 6, 5, 3, 2] 4 ⟨[(7, vI ((mHear y1.abs m).2)), (6, .p 3 0), (5, .p 2 0), (3, .p 1 0), (2, .p 0 0)], [⟨24, [vI x.id, vI x.session, vI x.next, .v (.slice x.waits.A x.waits.n x.waits.c)]⟩, ⟨46, [vI m.client, vI m.seq, vI m.reply.code, vI m.reply.n, vS m.reply.text]⟩, ⟨24, [vI y1.id, vI y1.session, vI y1.next, .v (.slice y1.waits.A y1.waits.n y1.waits.c)]⟩, ⟨24, [vI y2.id, vI y2.session, vI y2.next, .v (.slice y2.waits.A y2.waits.n y2.waits.c)]⟩]⟩ [] [] (by kernel_rfl) on wn ?_
  refine l_nil (q_then_normal ?_)
  refine c_seq ?_
  refine c_region ?_
  refine JL_run 2 [] [20, 19, 7, 6, 5, 2] 4 ⟨[(20, .v (.agg #[.int .i64 m.client, .int .i64 m.seq, .int .i64 m.reply.code, .int .i64 m.reply.n, .string m.reply.text])), (19, .v (.agg #[.int .i64 x.id, .int .i64 x.session, .int .i64 x.next, .slice x.waits.A x.waits.n x.waits.c])), (7, vI ((mHear y1.abs m).2)), (6, .p 3 0), (5, .p 2 0), (2, .p 0 0)], [⟨24, [vI x.id, vI x.session, vI x.next, .v (.slice x.waits.A x.waits.n x.waits.c)]⟩, ⟨46, [vI m.client, vI m.seq, vI m.reply.code, vI m.reply.n, vS m.reply.text]⟩, ⟨24, [vI y1.id, vI y1.session, vI y1.next, .v (.slice y1.waits.A y1.waits.n y1.waits.c)]⟩, ⟨24, [vI y2.id, vI y2.session, vI y2.next, .v (.slice y2.waits.A y2.waits.n y2.waits.c)]⟩]⟩ [] [] (by kernel_rfl) on wn ?_
  refine l_sub_call (σ := CCustomer) 26 [] [.v (.agg #[.int .i64 x.id, .int .i64 x.session, .int .i64 x.next, .slice x.waits.A x.waits.n x.waits.c]), .v (.agg #[.int .i64 m.client, .int .i64 m.seq, .int .i64 m.reply.code, .int .i64 m.reply.n, .string m.reply.text])] (fun y3 => .tuple #[.agg #[.int .i64 y3.id, .int .i64 y3.session, .int .i64 y3.next, .slice y3.waits.A y3.waits.n y3.waits.c], .int .i64 ((mHear x.abs m).2)]) (fun y3 => y3.abs = (mHear x.abs m).1) Try.call26 rfl rfl rfl rfl (fun bs w hS => ref_ToldOf x m w (Rds.kp hx hS.kp) hmx) ?_
  rintro fp3 y3 hF3 hok3
  refine JL_run 6 [] [9, 8, 7, 6, 5, 2] 5 ⟨[(9, vI ((mHear x.abs m).2)), (8, .p 4 0), (7, vI ((mHear y1.abs m).2)), (6, .p 3 0), (5, .p 2 0), (2, .p 0 0)], [⟨24, [vI x.id, vI x.session, vI x.next, .v (.slice x.waits.A x.waits.n x.waits.c)]⟩, ⟨46, [vI m.client, vI m.seq, vI m.reply.code, vI m.reply.n, vS m.reply.text]⟩, ⟨24, [vI y1.id, vI y1.session, vI y1.next, .v (.slice y1.waits.A y1.waits.n y1.waits.c)]⟩, ⟨24, [vI y2.id, vI y2.session, vI y2.next, .v (.slice y2.waits.A y2.waits.n y2.waits.c)]⟩, ⟨24, [vI y3.id, vI y3.session, vI y3.next, .v (.slice y3.waits.A y3.waits.n y3.waits.c)]⟩]⟩ [] [] (by kernel_rfl) on wn ?_
  refine l_nil (q_then_normal ?_)
  refine c_seq ?_
  refine c_region ?_
  refine JL_run 4 [] [27, 8, 6, 5, 2] 5 ⟨[(27, vB (decide ((mHear y1.abs m).2 = (mHear x.abs m).2))), (8, .p 4 0), (6, .p 3 0), (5, .p 2 0), (2, .p 0 0)], [⟨24, [vI x.id, vI x.session, vI x.next, .v (.slice x.waits.A x.waits.n x.waits.c)]⟩, ⟨46, [vI m.client, vI m.seq, vI m.reply.code, vI m.reply.n, vS m.reply.text]⟩, ⟨24, [vI y1.id, vI y1.session, vI y1.next, .v (.slice y1.waits.A y1.waits.n y1.waits.c)]⟩, ⟨24, [vI y2.id, vI y2.session, vI y2.next, .v (.slice y2.waits.A y2.waits.n y2.waits.c)]⟩, ⟨24, [vI y3.id, vI y3.session, vI y3.next, .v (.slice y3.waits.A y3.waits.n y3.waits.c)]⟩]⟩ [] [] (by kernel_rfl) on wn ?_
  cases h1 : decide ((mHear y1.abs m).2 = (mHear x.abs m).2) with
  | true =>
    have h1 := of_decide_eq_true h1
    refine JL_run 2 [] [29, 28, 27, 5, 2] 3 ⟨[(29, .v (.agg #[.int .i64 y3.id, .int .i64 y3.session, .int .i64 y3.next, .slice y3.waits.A y3.waits.n y3.waits.c])), (28, .v (.agg #[.int .i64 y2.id, .int .i64 y2.session, .int .i64 y2.next, .slice y2.waits.A y2.waits.n y2.waits.c])), (27, vB true), (5, .p 2 0), (2, .p 0 0)], [⟨24, [vI x.id, vI x.session, vI x.next, .v (.slice x.waits.A x.waits.n x.waits.c)]⟩, ⟨46, [vI m.client, vI m.seq, vI m.reply.code, vI m.reply.n, vS m.reply.text]⟩, ⟨24, [vI y1.id, vI y1.session, vI y1.next, .v (.slice y1.waits.A y1.waits.n y1.waits.c)]⟩]⟩ [] [] (by kernel_rfl) on wn ?_
    refine l_pure 18 [] [.v (.agg #[.int .i64 y2.id, .int .i64 y2.session, .int .i64 y2.next, .slice y2.waits.A y2.waits.n y2.waits.c]), .v (.agg #[.int .i64 y3.id, .int .i64 y3.session, .int .i64 y3.next, .slice y3.waits.A y3.waits.n y3.waits.c])] (.bool true) Try.call18 rfl rfl rfl rfl (fun bs w hS => same_customer y2 y3 w (hS.res _ (.tail _ (.head _))) (hS.res _ (.head _)) (by rw [hF2, hF3, hF1])) ?_
    refine JL_run 4 [] [34, 33, 32] 0 ⟨[(34, .v (.agg #[.int .i64 x.id, .int .i64 x.session, .int .i64 x.next, .slice x.waits.A x.waits.n x.waits.c])), (33, .v (.agg #[.int .i64 y1.id, .int .i64 y1.session, .int .i64 y1.next, .slice y1.waits.A y1.waits.n y1.waits.c])), (32, vB true)], []⟩ [] [] (by kernel_rfl) on wn ?_
    refine l_pure 18 [] [.v (.agg #[.int .i64 y1.id, .int .i64 y1.session, .int .i64 y1.next, .slice y1.waits.A y1.waits.n y1.waits.c]), .v (.agg #[.int .i64 x.id, .int .i64 x.session, .int .i64 x.next, .slice x.waits.A x.waits.n x.waits.c])] (.bool true) Try.call18 rfl rfl rfl rfl (fun bs w hS => same_customer y1 x w (hS.res _ (.tail _ (.tail _ (.head _)))) (Rds.kp hx hS.kp) hF1) ?_
    refine JL_run 2 [] [4] 0 ⟨[(4, vB true)], []⟩ [] [] (by kernel_rfl) on wn ?_
    refine l_nil (q_then_normal ?_)
    refine c_ret ?_
    refine q_ret (.inl rfl) [vB true] rfl (fun bs w hS => ?_)
    refine ⟨?_, hS.kp⟩
    simp [retOf, den]
  | false =>
    have h1 := of_decide_eq_false h1
    exfalso; first | (simp at h1; done) | (rw [hF1] at h1; simp at h1; done)

end Go.Proofs.Ytececkgjacccmac.W
