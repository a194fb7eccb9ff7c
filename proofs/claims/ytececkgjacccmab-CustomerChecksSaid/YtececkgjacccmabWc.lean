/-
  The checks of clients, walked: both return what one model says.
  Conditions: those that each theorem states.
-/
import Derived.Test.YtececkgjacccmabWa
set_option linter.unusedVariables false
set_option linter.unusedSimpArgs false
namespace Go.Proofs.Ytececkgjacccmab.W
open Go.Proofs.Ytececkgjacccmab.Fw Go.RowKit

theorem customer_Check {B : Nat → Prop} (x : CCustomer) (w : World) (hx : Rds.sub B w x) : Calls Try.prog 27 #[.agg #[.int .i64 x.id, .int .i64 x.session, .int .i64 x.next, .slice x.waits.A x.waits.n x.waits.c]] w fun e w' => e = .returned (.int .i64 (mCust x.abs)) ∧ Kp [] w w' := by
  have okx := Rds.okof hx
  have ncx := Sl.ok.nc okx
  have hns : x.waits.n = x.waits.xs.length := rfl
  have hat : ∀ q, x.abs.waits.getD q default = x.waits.at q := fun _ => rfl
  have ha1 : x.abs.id = x.id := rfl
  have ha2 : x.abs.session = x.session := rfl
  have ha3 : x.abs.next = x.next := rfl
  have ha4 : x.abs.waits.length = x.waits.n := rfl
  refine calls_J0 102 Try.func27 rfl rfl [.agg #[.int .i64 x.id, .int .i64 x.session, .int .i64 x.next, .slice x.waits.A x.waits.n x.waits.c]] rfl ?_
  refine c_seq ?_
  refine c_region ?_
  refine JL_run 2 [] [1] 1 ⟨[(1, .p 0 0)], [⟨52, [vI x.id, vI x.session, vI x.next, .v (.slice x.waits.A x.waits.n x.waits.c)]⟩]⟩ [] [] (by kernel_rfl) on wn ?_
  refine l_nil (q_then_normal ?_)
  refine c_seq ?_
  refine c_seq ?_
  refine c_region ?_
  refine JL_run 4 [] [9, 1] 1 ⟨[(9, vB (decide (x.id < 1))), (1, .p 0 0)], [⟨52, [vI x.id, vI x.session, vI x.next, .v (.slice x.waits.A x.waits.n x.waits.c)]⟩]⟩ [] [] (by kernel_rfl) on wn ?_
  cases h1 : decide (x.id < 1) with
  | true =>
    have h1 := of_decide_eq_true h1
    refine JL_run 24 [] [33, 1] 1 ⟨[(33, vB true), (1, .p 0 0)], [⟨52, [vI x.id, vI x.session, vI x.next, .v (.slice x.waits.A x.waits.n x.waits.c)]⟩]⟩ [] [] (by kernel_rfl) on wn ?_
    refine l_nil (q_then_normal ?_)
    refine c_if true rfl ?_
    refine c_seq ?_
    refine c_region ?_
    refine JL_run 1 [] [2] 0 ⟨[(2, vI 2)], []⟩ [] [] (by kernel_rfl) on wn ?_
    refine l_nil (q_then_normal ?_)
    refine c_ret ?_
    refine q_then_ret (q_ret (.inl rfl) [vI 2] rfl (fun bs w hS => ?_))
    refine ⟨?_, hS.kp⟩
    simp only [retOf, den, List.map_cons, List.map_nil]
    have hm : mCust x.abs = 2 := by
      unfold mCust; simp only [ha1, ha2, ha3, ha4]; rw [if_pos (by omega)]
    rw [hm]
  | false =>
    have h1 := of_decide_eq_false h1
    refine JL_run 5 [] [14, 1] 1 ⟨[(14, vB (decide ((9 : Int) < x.id))), (1, .p 0 0)], [⟨52, [vI x.id, vI x.session, vI x.next, .v (.slice x.waits.A x.waits.n x.waits.c)]⟩]⟩ [] [] (by kernel_rfl) on wn ?_
    cases h2 : decide ((9 : Int) < x.id) with
    | true =>
      have h2 := of_decide_eq_true h2
      refine JL_run 19 [] [33, 1] 1 ⟨[(33, vB true), (1, .p 0 0)], [⟨52, [vI x.id, vI x.session, vI x.next, .v (.slice x.waits.A x.waits.n x.waits.c)]⟩]⟩ [] [] (by kernel_rfl) on wn ?_
      refine l_nil (q_then_normal ?_)
      refine c_if true rfl ?_
      refine c_seq ?_
      refine c_region ?_
      refine JL_run 1 [] [2] 0 ⟨[(2, vI 2)], []⟩ [] [] (by kernel_rfl) on wn ?_
      refine l_nil (q_then_normal ?_)
      refine c_ret ?_
      refine q_then_ret (q_ret (.inl rfl) [vI 2] rfl (fun bs w hS => ?_))
      refine ⟨?_, hS.kp⟩
      simp only [retOf, den, List.map_cons, List.map_nil]
      have hm : mCust x.abs = 2 := by
        unfold mCust; simp only [ha1, ha2, ha3, ha4]; rw [if_pos (by omega)]
      rw [hm]
    | false =>
      have h2 := of_decide_eq_false h2
      refine JL_run 5 [] [19, 1] 1 ⟨[(19, vB (decide (x.session < 0))), (1, .p 0 0)], [⟨52, [vI x.id, vI x.session, vI x.next, .v (.slice x.waits.A x.waits.n x.waits.c)]⟩]⟩ [] [] (by kernel_rfl) on wn ?_
      cases h3 : decide (x.session < 0) with
      | true =>
        have h3 := of_decide_eq_true h3
        refine JL_run 14 [] [33, 1] 1 ⟨[(33, vB true), (1, .p 0 0)], [⟨52, [vI x.id, vI x.session, vI x.next, .v (.slice x.waits.A x.waits.n x.waits.c)]⟩]⟩ [] [] (by kernel_rfl) on wn ?_
        refine l_nil (q_then_normal ?_)
        refine c_if true rfl ?_
        refine c_seq ?_
        refine c_region ?_
        refine JL_run 1 [] [2] 0 ⟨[(2, vI 2)], []⟩ [] [] (by kernel_rfl) on wn ?_
        refine l_nil (q_then_normal ?_)
        refine c_ret ?_
        refine q_then_ret (q_ret (.inl rfl) [vI 2] rfl (fun bs w hS => ?_))
        refine ⟨?_, hS.kp⟩
        simp only [retOf, den, List.map_cons, List.map_nil]
        have hm : mCust x.abs = 2 := by
          unfold mCust; simp only [ha1, ha2, ha3, ha4]; rw [if_pos (by omega)]
        rw [hm]
      | false =>
        have h3 := of_decide_eq_false h3
        refine JL_run 5 [] [24, 1] 1 ⟨[(24, vB (decide ((1073741824 : Int) < x.session))), (1, .p 0 0)], [⟨52, [vI x.id, vI x.session, vI x.next, .v (.slice x.waits.A x.waits.n x.waits.c)]⟩]⟩ [] [] (by kernel_rfl) on wn ?_
        cases h4 : decide ((1073741824 : Int) < x.session) with
        | true =>
          have h4 := of_decide_eq_true h4
          refine JL_run 9 [] [33, 1] 1 ⟨[(33, vB true), (1, .p 0 0)], [⟨52, [vI x.id, vI x.session, vI x.next, .v (.slice x.waits.A x.waits.n x.waits.c)]⟩]⟩ [] [] (by kernel_rfl) on wn ?_
          refine l_nil (q_then_normal ?_)
          refine c_if true rfl ?_
          refine c_seq ?_
          refine c_region ?_
          refine JL_run 1 [] [2] 0 ⟨[(2, vI 2)], []⟩ [] [] (by kernel_rfl) on wn ?_
          refine l_nil (q_then_normal ?_)
          refine c_ret ?_
          refine q_then_ret (q_ret (.inl rfl) [vI 2] rfl (fun bs w hS => ?_))
          refine ⟨?_, hS.kp⟩
          simp only [retOf, den, List.map_cons, List.map_nil]
          have hm : mCust x.abs = 2 := by
            unfold mCust; simp only [ha1, ha2, ha3, ha4]; rw [if_pos (by omega)]
          rw [hm]
        | false =>
          have h4 := of_decide_eq_false h4
          refine JL_run 5 [] [29, 1] 1 ⟨[(29, vB (decide (x.next < 1))), (1, .p 0 0)], [⟨52, [vI x.id, vI x.session, vI x.next, .v (.slice x.waits.A x.waits.n x.waits.c)]⟩]⟩ [] [] (by kernel_rfl) on wn ?_
          cases h5 : decide (x.next < 1) with
          | true =>
            have h5 := of_decide_eq_true h5
            refine JL_run 4 [] [33, 1] 1 ⟨[(33, vB true), (1, .p 0 0)], [⟨52, [vI x.id, vI x.session, vI x.next, .v (.slice x.waits.A x.waits.n x.waits.c)]⟩]⟩ [] [] (by kernel_rfl) on wn ?_
            refine l_nil (q_then_normal ?_)
            refine c_if true rfl ?_
            refine c_seq ?_
            refine c_region ?_
            refine JL_run 1 [] [2] 0 ⟨[(2, vI 2)], []⟩ [] [] (by kernel_rfl) on wn ?_
            refine l_nil (q_then_normal ?_)
            refine c_ret ?_
            refine q_then_ret (q_ret (.inl rfl) [vI 2] rfl (fun bs w hS => ?_))
            refine ⟨?_, hS.kp⟩
            simp only [retOf, den, List.map_cons, List.map_nil]
            have hm : mCust x.abs = 2 := by
              unfold mCust; simp only [ha1, ha2, ha3, ha4]; rw [if_pos (by omega)]
            rw [hm]
          | false =>
            have h5 := of_decide_eq_false h5
            refine JL_run 4 [] [33, 1] 1 ⟨[(33, vB (decide ((1048577 : Int) < x.next))), (1, .p 0 0)], [⟨52, [vI x.id, vI x.session, vI x.next, .v (.slice x.waits.A x.waits.n x.waits.c)]⟩]⟩ [] [] (by kernel_rfl) on wn ?_
            refine l_nil (q_then_normal ?_)
            cases h6 : decide ((1048577 : Int) < x.next) with
            | true =>
              have h6 := of_decide_eq_true h6
              refine c_if true rfl ?_
              refine c_seq ?_
              refine c_region ?_
              refine JL_run 1 [] [2] 0 ⟨[(2, vI 2)], []⟩ [] [] (by kernel_rfl) on wn ?_
              refine l_nil (q_then_normal ?_)
              refine c_ret ?_
              refine q_then_ret (q_ret (.inl rfl) [vI 2] rfl (fun bs w hS => ?_))
              refine ⟨?_, hS.kp⟩
              simp only [retOf, den, List.map_cons, List.map_nil]
              have hm : mCust x.abs = 2 := by
                unfold mCust; simp only [ha1, ha2, ha3, ha4]; rw [if_pos (by omega)]
              rw [hm]
            | false =>
              have h6 := of_decide_eq_false h6
              refine c_if false rfl ?_
              refine c_skip ?_
              refine q_then_normal ?_
              refine c_seq ?_
              refine c_seq ?_
              refine c_region ?_
              refine JL_run 5 [] [38, 1] 1 ⟨[(38, vB (decide ((4 : Int) < ((x.waits.n : Nat) : Int)))), (1, .p 0 0)], [⟨52, [vI x.id, vI x.session, vI x.next, .v (.slice x.waits.A x.waits.n x.waits.c)]⟩]⟩ [] [] (by kernel_rfl) on wn ?_
              cases h7 : decide ((4 : Int) < ((x.waits.n : Nat) : Int)) with
              | true =>
                have h7 := of_decide_eq_true h7
                refine JL_run 10 [] [48, 1] 1 ⟨[(48, vB true), (1, .p 0 0)], [⟨52, [vI x.id, vI x.session, vI x.next, .v (.slice x.waits.A x.waits.n x.waits.c)]⟩]⟩ [] [] (by kernel_rfl) on wn ?_
                refine l_nil (q_then_normal ?_)
                refine c_if true rfl ?_
                refine c_seq ?_
                refine c_region ?_
                refine JL_run 1 [] [2] 0 ⟨[(2, vI 9)], []⟩ [] [] (by kernel_rfl) on wn ?_
                refine l_nil (q_then_normal ?_)
                refine c_ret ?_
                refine q_then_ret (q_ret (.inl rfl) [vI 9] rfl (fun bs w hS => ?_))
                refine ⟨?_, hS.kp⟩
                simp only [retOf, den, List.map_cons, List.map_nil]
                have hm : mCust x.abs = 9 := by
                  unfold mCust; simp only [ha1, ha2, ha3, ha4]; rw [if_neg (by omega), if_pos (by omega)]
                rw [hm]
              | false =>
                have h7 := of_decide_eq_false h7
                refine JL_run 4 [] [42, 38, 1] 1 ⟨[(42, vB (decide (x.session = 0))), (38, vB false), (1, .p 0 0)], [⟨52, [vI x.id, vI x.session, vI x.next, .v (.slice x.waits.A x.waits.n x.waits.c)]⟩]⟩ [] [] (by kernel_rfl) on wn ?_
                cases h8 : decide (x.session = 0) with
                | true =>
                  have h8 := of_decide_eq_true h8
                  refine JL_run 6 [] [48, 1] 1 ⟨[(48, vB (decide ((0 : Int) < ((x.waits.n : Nat) : Int)))), (1, .p 0 0)], [⟨52, [vI x.id, vI x.session, vI x.next, .v (.slice x.waits.A x.waits.n x.waits.c)]⟩]⟩ [] [] (by kernel_rfl) on wn ?_
                  refine l_nil (q_then_normal ?_)
                  cases h9 : decide ((0 : Int) < ((x.waits.n : Nat) : Int)) with
                  | true =>
                    have h9 := of_decide_eq_true h9
                    refine c_if true rfl ?_
                    refine c_seq ?_
                    refine c_region ?_
                    refine JL_run 1 [] [2] 0 ⟨[(2, vI 9)], []⟩ [] [] (by kernel_rfl) on wn ?_
                    refine l_nil (q_then_normal ?_)
                    refine c_ret ?_
                    refine q_then_ret (q_ret (.inl rfl) [vI 9] rfl (fun bs w hS => ?_))
                    refine ⟨?_, hS.kp⟩
                    simp only [retOf, den, List.map_cons, List.map_nil]
                    have hm : mCust x.abs = 9 := by
                      unfold mCust; simp only [ha1, ha2, ha3, ha4]; rw [if_neg (by omega), if_pos (by omega)]
                    rw [hm]
                  | false =>
                    have h9 := of_decide_eq_false h9
                    refine c_if false rfl ?_
                    refine c_skip ?_
                    refine q_then_normal ?_
                    refine c_seq ?_
                    refine c_seq ?_
                    refine c_region ?_
                    refine JL_run 4 [] [52, 51, 50, 1] 1 ⟨[(52, vI 0), (51, vI ((x.waits.n : Nat) : Int)), (50, .v (.slice x.waits.A x.waits.n x.waits.c)), (1, .p 0 0)], [⟨52, [vI x.id, vI x.session, vI x.next, .v (.slice x.waits.A x.waits.n x.waits.c)]⟩]⟩ [] [] (by kernel_rfl) on wn ?_
                    refine l_nil (q_then_normal ?_)
                    refine c_block ?_
                    refine c_loop (σ := Nat) (fun i => i ≤ x.waits.n ∧ mCust x.abs = firstF (custF x.abs) (x.waits.n - i) i ∧ (0 < i → 1 ≤ (x.waits.at 0).seq ∧ (x.waits.at 0).seq < x.next)) (fun i => x.waits.n - i) (fun i => []) (fun i => ⟨[(52, vI ((i : Nat) : Int)), (51, vI ((x.waits.n : Nat) : Int)), (50, .v (.slice x.waits.A x.waits.n x.waits.c)), (1, .p 0 0)], [⟨52, [vI x.id, vI x.session, vI x.next, .v (.slice x.waits.A x.waits.n x.waits.c)]⟩]⟩) 0 ⟨Nat.zero_le _, by unfold mCust; simp only [ha1, ha2, ha3, ha4]; rw [if_neg (by omega), if_neg (by omega)], fun h => absurd h (by omega)⟩ (s_start [52, 51, 50, 1] 1 (by kernel_rfl) rfl) ?_
                    rintro i ⟨hi, hI, h0⟩
                    have hz : i = 0 ∨ (0 < i ∧ 1 ≤ (x.waits.at 0).seq ∧ (x.waits.at 0).seq < x.next) := by rcases Nat.eq_zero_or_pos i with h | h; exact .inl h; exact .inr ⟨h, h0 h⟩
                    have hz2 : i = 0 → (x.waits.at i).seq = (x.waits.at 0).seq := fun h => by rw [h]
                    refine c_seq ?_
                    refine c_region ?_
                    refine JL_run 1 [] [53, 52, 51, 50, 1] 1 ⟨[(53, vB (decide (((i : Nat) : Int) < ((x.waits.n : Nat) : Int)))), (52, vI ((i : Nat) : Int)), (51, vI ((x.waits.n : Nat) : Int)), (50, .v (.slice x.waits.A x.waits.n x.waits.c)), (1, .p 0 0)], [⟨52, [vI x.id, vI x.session, vI x.next, .v (.slice x.waits.A x.waits.n x.waits.c)]⟩]⟩ [] [] (by kernel_rfl) on wn ?_
                    refine l_nil (q_then_normal ?_)
                    refine c_seq ?_
                    cases h10 : decide (((i : Nat) : Int) < ((x.waits.n : Nat) : Int)) with
                    | true =>
                      have h10 := of_decide_eq_true h10
                      refine c_if true rfl ?_
                      refine c_skip ?_
                      refine q_then_normal ?_
                      refine c_seq ?_
                      refine c_block ?_
                      refine c_seq ?_
                      refine c_region ?_
                      refine JL_run 6 [(1, .idx x.waits.ad i), (2, .ext [.int .i64 (x.waits.at i).seq, .int .i64 (x.waits.at i).op.kind, .string (x.waits.at i).op.a, .string (x.waits.at i).op.b, .int .i64 (x.waits.at i).op.n])] [3, 4, 52, 51, 50, 1] 2 ⟨[(3, vI ((i : Nat) : Int)), (4, .p 1 0), (52, vI ((i : Nat) : Int)), (51, vI ((x.waits.n : Nat) : Int)), (50, .v (.slice x.waits.A x.waits.n x.waits.c)), (1, .p 0 0)], [⟨52, [vI x.id, vI x.session, vI x.next, .v (.slice x.waits.A x.waits.n x.waits.c)]⟩, ⟨88, [vI (x.waits.at i).seq, vI (x.waits.at i).op.kind, vS (x.waits.at i).op.a, vS (x.waits.at i).op.b, vI (x.waits.at i).op.n]⟩]⟩ [x.waits.A = some x.waits.ad, ((i : Nat) : Int) = ((i : Nat) : Int), i < x.waits.n] [(x.waits.ad.add (i * 5), [.int .i64 (x.waits.at i).seq, .int .i64 (x.waits.at i).op.kind, .string (x.waits.at i).op.a, .string (x.waits.at i).op.b, .int .i64 (x.waits.at i).op.n])] (by kernel_rfl) (oc (Sl.ok.own (s := x.waits) (i := i) okx (by omega)) (oc rfl (oc (by omega) on))) (fun w hk hr => ⟨(Sl.rd.all (s := x.waits) (i := i) (Rds.kp hx hk) (by omega) rfl), trivial⟩) ?_
                      refine l_nil (q_then_normal ?_)
                      refine c_seq ?_
                      refine c_seq ?_
                      refine c_draw 38 [(0, false), (1, false), (2, false), (3, false), (4, false), (5, false), (6, false), (7, false), (8, false), (9, false), (10, false), (11, false), (12, false), (13, false), (14, false), (15, false), (16, false), (17, false), (18, false), (19, false), (20, false), (21, false), (22, false), (23, false), (24, false), (25, false), (26, false), (27, false), (28, false), (29, false), (30, false), (31, false), (32, false), (33, false), (34, false), (35, false), (36, false), (37, false)] [] [] Try_mixed (by kernel_rfl) (pq_then (pq_then (pq_block (pq_then (pq_then (pq_block (pq_then pq_body))))))) (List.Sublist.refl _) ?_
                      refine h_quiet [] 4 [(60, vB (decide ((x.waits.at i).seq < 1))), (59, vB (decide ((x.waits.at i).seq < 1))), (58, vI (x.waits.at i).seq), (57, .p 1 0), (3, vI ((i : Nat) : Int)), (4, .p 1 0), (52, vI ((i : Nat) : Int)), (51, vI ((x.waits.n : Nat) : Int)), (50, .v (.slice x.waits.A x.waits.n x.waits.c)), (1, .p 0 0)] [] [] rfl rfl (by kernel_rfl) on wn ?_
                      cases h11 : decide ((x.waits.at i).seq < 1) with
                      | true =>
                        have h11 := of_decide_eq_true h11
                        refine h_quiet [] 34 [(94, vB true), (93, .v (undef)), (92, .v (undef)), (91, .v (undef)), (90, .v (undef)), (89, .v (undef)), (88, .v (undef)), (87, .v (undef)), (86, .v (undef)), (85, .v (undef)), (84, .v (undef)), (83, vB true), (82, vB true), (81, .v (undef)), (80, .v (undef)), (79, .v (undef)), (78, .v (undef)), (77, .v (undef)), (76, .v (undef)), (75, .v (undef)), (74, .v (undef)), (73, .v (undef)), (72, .v (undef)), (71, .v (undef)), (70, .v (undef)), (69, .v (undef)), (68, .v (undef)), (67, vB true), (66, vB true), (65, .v (undef)), (64, .v (undef)), (63, .v (undef)), (62, .v (undef)), (61, .v (undef)), (60, vB true), (59, vB true), (58, vI (x.waits.at i).seq), (57, .p 1 0), (3, vI ((i : Nat) : Int)), (4, .p 1 0), (52, vI ((i : Nat) : Int)), (51, vI ((x.waits.n : Nat) : Int)), (50, .v (.slice x.waits.A x.waits.n x.waits.c)), (1, .p 0 0)] [] [] rfl rfl (by kernel_rfl) on wn ?_
                        refine h_nil ?_
                        refine l_nil (q_then_normal ?_)
                        refine c_if true rfl ?_
                        refine c_seq ?_
                        refine c_region ?_
                        refine JL_run 1 [] [2] 0 ⟨[(2, vI 9)], []⟩ [] [] (by kernel_rfl) on wn ?_
                        refine l_nil (q_then_normal ?_)
                        refine c_ret ?_
                        refine q_then_ret (q_block_ret (q_then_ret (q_then_ret (q_block_ret (q_then_ret (q_ret (.inl rfl) [vI 9] rfl (fun bs w hS => ?_)))))))
                        refine ⟨?_, hS.kp⟩
                        simp only [retOf, den, List.map_cons, List.map_nil]
                        have hf : custF x.abs i = 9 := by
                          unfold custF
                          simp only [hat, ha1, ha2, ha3, ha4]
                          first | (rw [if_pos (by omega)] <;> first | rfl | (exfalso; omega)) | (rw [if_neg (by omega)] <;> first | rfl | assumption | (exfalso; omega))
                        rw [hI, firstF_here (by omega) hf (by first | assumption | omega)]
                      | false =>
                        have h11 := of_decide_eq_false h11
                        refine h_quiet [] 7 [(67, vB (decide (x.next ≤ (x.waits.at i).seq))), (66, vB (decide (x.next ≤ (x.waits.at i).seq))), (65, vB (decide (x.next ≤ (x.waits.at i).seq))), (64, vI x.next), (63, .p 0 2), (62, vI (x.waits.at i).seq), (61, .p 1 0), (60, vB false), (59, vB false), (58, vI (x.waits.at i).seq), (57, .p 1 0), (3, vI ((i : Nat) : Int)), (4, .p 1 0), (52, vI ((i : Nat) : Int)), (51, vI ((x.waits.n : Nat) : Int)), (50, .v (.slice x.waits.A x.waits.n x.waits.c)), (1, .p 0 0)] [] [] rfl rfl (by kernel_rfl) on wn ?_
                        cases h12 : decide (x.next ≤ (x.waits.at i).seq) with
                        | true =>
                          have h12 := of_decide_eq_true h12
                          refine h_quiet [] 27 [(94, vB true), (93, .v (undef)), (92, .v (undef)), (91, .v (undef)), (90, .v (undef)), (89, .v (undef)), (88, .v (undef)), (87, .v (undef)), (86, .v (undef)), (85, .v (undef)), (84, .v (undef)), (83, vB true), (82, vB true), (81, .v (undef)), (80, .v (undef)), (79, .v (undef)), (78, .v (undef)), (77, .v (undef)), (76, .v (undef)), (75, .v (undef)), (74, .v (undef)), (73, .v (undef)), (72, .v (undef)), (71, .v (undef)), (70, .v (undef)), (69, .v (undef)), (68, .v (undef)), (67, vB true), (66, vB true), (65, vB true), (64, vI x.next), (63, .p 0 2), (62, vI (x.waits.at i).seq), (61, .p 1 0), (60, vB false), (59, vB false), (58, vI (x.waits.at i).seq), (57, .p 1 0), (3, vI ((i : Nat) : Int)), (4, .p 1 0), (52, vI ((i : Nat) : Int)), (51, vI ((x.waits.n : Nat) : Int)), (50, .v (.slice x.waits.A x.waits.n x.waits.c)), (1, .p 0 0)] [] [] rfl rfl (by kernel_rfl) on wn ?_
                          refine h_nil ?_
                          refine l_nil (q_then_normal ?_)
                          refine c_if true rfl ?_
                          refine c_seq ?_
                          refine c_region ?_
                          refine JL_run 1 [] [2] 0 ⟨[(2, vI 9)], []⟩ [] [] (by kernel_rfl) on wn ?_
                          refine l_nil (q_then_normal ?_)
                          refine c_ret ?_
                          refine q_then_ret (q_block_ret (q_then_ret (q_then_ret (q_block_ret (q_then_ret (q_ret (.inl rfl) [vI 9] rfl (fun bs w hS => ?_)))))))
                          refine ⟨?_, hS.kp⟩
                          simp only [retOf, den, List.map_cons, List.map_nil]
                          have hf : custF x.abs i = 9 := by
                            unfold custF
                            simp only [hat, ha1, ha2, ha3, ha4]
                            first | (rw [if_pos (by omega)] <;> first | rfl | (exfalso; omega)) | (rw [if_neg (by omega)] <;> first | rfl | assumption | (exfalso; omega))
                          rw [hI, firstF_here (by omega) hf (by first | assumption | omega)]
                        | false =>
                          have h12 := of_decide_eq_false h12
                          refine h_quiet [] 3 [(70, vB (decide ((0 : Int) < ((i : Nat) : Int)))), (69, vB (decide ((0 : Int) < ((i : Nat) : Int)))), (68, vI ((i : Nat) : Int)), (67, vB false), (66, vB false), (65, vB false), (64, vI x.next), (63, .p 0 2), (62, vI (x.waits.at i).seq), (61, .p 1 0), (60, vB false), (59, vB false), (58, vI (x.waits.at i).seq), (57, .p 1 0), (3, vI ((i : Nat) : Int)), (4, .p 1 0), (52, vI ((i : Nat) : Int)), (51, vI ((x.waits.n : Nat) : Int)), (50, .v (.slice x.waits.A x.waits.n x.waits.c)), (1, .p 0 0)] [] [] rfl rfl (by kernel_rfl) on wn ?_
                          cases h13 : decide ((0 : Int) < ((i : Nat) : Int)) with
                          | true =>
                            have h13 := of_decide_eq_true h13
                            refine h_quiet [(18, .idx x.waits.ad (i - 1)), (20, .ext [.int .i64 (x.waits.at (i - 1)).seq])] 13 [(83, vB (decide ((x.waits.at i).seq ≤ (x.waits.at (i - 1)).seq))), (82, vB (decide ((x.waits.at i).seq ≤ (x.waits.at (i - 1)).seq))), (81, vB (decide ((x.waits.at i).seq ≤ (x.waits.at (i - 1)).seq))), (80, vB (decide ((x.waits.at i).seq ≤ (x.waits.at (i - 1)).seq))), (79, vI (x.waits.at i).seq), (78, .p 1 0), (77, vI (x.waits.at (i - 1)).seq), (76, .v (.pointer (some ((x.waits.ad.add ((i - 1) * 5)).add 0)))), (75, .v (.pointer (some (x.waits.ad.add ((i - 1) * 5))))), (74, vI (((i : Nat) : Int) - 1)), (73, vI ((i : Nat) : Int)), (72, .v (.slice x.waits.A x.waits.n x.waits.c)), (71, .p 0 3), (70, vB true), (69, vB true), (68, vI ((i : Nat) : Int)), (67, vB false), (66, vB false), (65, vB false), (64, vI x.next), (63, .p 0 2), (62, vI (x.waits.at i).seq), (61, .p 1 0), (60, vB false), (59, vB false), (58, vI (x.waits.at i).seq), (57, .p 1 0), (3, vI ((i : Nat) : Int)), (4, .p 1 0), (52, vI ((i : Nat) : Int)), (51, vI ((x.waits.n : Nat) : Int)), (50, .v (.slice x.waits.A x.waits.n x.waits.c)), (1, .p 0 0)] [inR (((i : Nat) : Int) - 1), x.waits.A = some x.waits.ad, ((i : Nat) : Int) - 1 = (((i - 1) : Nat) : Int), (i - 1) < x.waits.n] [((x.waits.ad.add ((i - 1) * 5)).add 0, [.int .i64 (x.waits.at (i - 1)).seq])] rfl rfl (by kernel_rfl) (oc (by unfold inR; omega) (oc (Sl.ok.own (s := x.waits) (i := (i - 1)) okx (by omega)) (oc (by omega) (oc (by omega) on)))) (fun w hk hr => ⟨(Sl.rd.fld (s := x.waits) (i := (i - 1)) (Rds.kp hx hk) (by omega) 0 1 rfl), trivial⟩) ?_
                            cases h14 : decide ((x.waits.at i).seq ≤ (x.waits.at (i - 1)).seq) with
                            | true =>
                              have h14 := of_decide_eq_true h14
                              refine h_quiet [] 11 [(94, vB true), (93, .v (undef)), (92, .v (undef)), (91, .v (undef)), (90, .v (undef)), (89, .v (undef)), (88, .v (undef)), (87, .v (undef)), (86, .v (undef)), (85, .v (undef)), (84, .v (undef)), (83, vB true), (82, vB true), (81, vB true), (80, vB true), (79, vI (x.waits.at i).seq), (78, .p 1 0), (77, vI (x.waits.at (i - 1)).seq), (76, .v (.pointer (some ((x.waits.ad.add ((i - 1) * 5)).add 0)))), (75, .v (.pointer (some (x.waits.ad.add ((i - 1) * 5))))), (74, vI (((i : Nat) : Int) - 1)), (73, vI ((i : Nat) : Int)), (72, .v (.slice x.waits.A x.waits.n x.waits.c)), (71, .p 0 3), (70, vB true), (69, vB true), (68, vI ((i : Nat) : Int)), (67, vB false), (66, vB false), (65, vB false), (64, vI x.next), (63, .p 0 2), (62, vI (x.waits.at i).seq), (61, .p 1 0), (60, vB false), (59, vB false), (58, vI (x.waits.at i).seq), (57, .p 1 0), (3, vI ((i : Nat) : Int)), (4, .p 1 0), (52, vI ((i : Nat) : Int)), (51, vI ((x.waits.n : Nat) : Int)), (50, .v (.slice x.waits.A x.waits.n x.waits.c)), (1, .p 0 0)] [] [] rfl rfl (by kernel_rfl) on wn ?_
                              refine h_nil ?_
                              refine l_nil (q_then_normal ?_)
                              refine c_if true rfl ?_
                              refine c_seq ?_
                              refine c_region ?_
                              refine JL_run 1 [] [2] 0 ⟨[(2, vI 9)], []⟩ [] [] (by kernel_rfl) on wn ?_
                              refine l_nil (q_then_normal ?_)
                              refine c_ret ?_
                              refine q_then_ret (q_block_ret (q_then_ret (q_then_ret (q_block_ret (q_then_ret (q_ret (.inl rfl) [vI 9] rfl (fun bs w hS => ?_)))))))
                              refine ⟨?_, hS.kp⟩
                              simp only [retOf, den, List.map_cons, List.map_nil]
                              have hf : custF x.abs i = 9 := by
                                unfold custF
                                simp only [hat, ha1, ha2, ha3, ha4]
                                first | (rw [if_pos (by omega)] <;> first | rfl | (exfalso; omega)) | (rw [if_neg (by omega)] <;> first | rfl | assumption | (exfalso; omega))
                              rw [hI, firstF_here (by omega) hf (by first | assumption | omega)]
                            | false =>
                              have h14 := of_decide_eq_false h14
                              refine h_quiet [(31, .idx x.waits.ad 0), (33, .ext [.int .i64 (x.waits.at 0).seq])] 11 [(94, vB (decide (((x.waits.at 0).seq + 4) - 1 < (x.waits.at i).seq))), (93, vB (decide (((x.waits.at 0).seq + 4) - 1 < (x.waits.at i).seq))), (92, vI (((x.waits.at 0).seq + 4) - 1)), (91, vI ((x.waits.at 0).seq + 4)), (90, vI (x.waits.at 0).seq), (89, .v (.pointer (some ((x.waits.ad.add (0 * 5)).add 0)))), (88, .v (.pointer (some (x.waits.ad.add (0 * 5))))), (87, .v (.slice x.waits.A x.waits.n x.waits.c)), (86, .p 0 3), (85, vI (x.waits.at i).seq), (84, .p 1 0), (83, vB false), (82, vB false), (81, vB false), (80, vB false), (79, vI (x.waits.at i).seq), (78, .p 1 0), (77, vI (x.waits.at (i - 1)).seq), (76, .v (.pointer (some ((x.waits.ad.add ((i - 1) * 5)).add 0)))), (75, .v (.pointer (some (x.waits.ad.add ((i - 1) * 5))))), (74, vI (((i : Nat) : Int) - 1)), (73, vI ((i : Nat) : Int)), (72, .v (.slice x.waits.A x.waits.n x.waits.c)), (71, .p 0 3), (70, vB true), (69, vB true), (68, vI ((i : Nat) : Int)), (67, vB false), (66, vB false), (65, vB false), (64, vI x.next), (63, .p 0 2), (62, vI (x.waits.at i).seq), (61, .p 1 0), (60, vB false), (59, vB false), (58, vI (x.waits.at i).seq), (57, .p 1 0), (3, vI ((i : Nat) : Int)), (4, .p 1 0), (52, vI ((i : Nat) : Int)), (51, vI ((x.waits.n : Nat) : Int)), (50, .v (.slice x.waits.A x.waits.n x.waits.c)), (1, .p 0 0)] [x.waits.A = some x.waits.ad, (0 : Int) = ((0 : Nat) : Int), 0 < x.waits.n, inR ((x.waits.at 0).seq + 4), inR (((x.waits.at 0).seq + 4) - 1)] [((x.waits.ad.add (0 * 5)).add 0, [.int .i64 (x.waits.at 0).seq])] rfl rfl (by kernel_rfl) (oc (Sl.ok.own (s := x.waits) (i := 0) okx (by omega)) (oc rfl (oc (by omega) (oc (by unfold inR; omega) (oc (by unfold inR; omega) on))))) (fun w hk hr => ⟨(Sl.rd.fld (s := x.waits) (i := 0) (Rds.kp hx hk) (by omega) 0 1 rfl), trivial⟩) ?_
                              refine h_nil ?_
                              refine l_nil (q_then_normal ?_)
                              cases h15 : decide (((x.waits.at 0).seq + 4) - 1 < (x.waits.at i).seq) with
                              | true =>
                                have h15 := of_decide_eq_true h15
                                refine c_if true rfl ?_
                                refine c_seq ?_
                                refine c_region ?_
                                refine JL_run 1 [] [2] 0 ⟨[(2, vI 9)], []⟩ [] [] (by kernel_rfl) on wn ?_
                                refine l_nil (q_then_normal ?_)
                                refine c_ret ?_
                                refine q_then_ret (q_block_ret (q_then_ret (q_then_ret (q_block_ret (q_then_ret (q_ret (.inl rfl) [vI 9] rfl (fun bs w hS => ?_)))))))
                                refine ⟨?_, hS.kp⟩
                                simp only [retOf, den, List.map_cons, List.map_nil]
                                have hf : custF x.abs i = 9 := by
                                  unfold custF
                                  simp only [hat, ha1, ha2, ha3, ha4]
                                  first | (rw [if_pos (by omega)] <;> first | rfl | (exfalso; omega)) | (rw [if_neg (by omega)] <;> first | rfl | assumption | (exfalso; omega))
                                rw [hI, firstF_here (by omega) hf (by first | assumption | omega)]
                              | false =>
                                have h15 := of_decide_eq_false h15
                                refine c_if false rfl ?_
                                refine c_skip ?_
                                refine q_then_normal ?_
                                refine c_seq ?_
                                refine c_region ?_
                                refine JL_run 2 [] [96, 52, 51, 50, 1] 1 ⟨[(96, .v (.agg #[.int .i64 (x.waits.at i).op.kind, .string (x.waits.at i).op.a, .string (x.waits.at i).op.b, .int .i64 (x.waits.at i).op.n])), (52, vI ((i : Nat) : Int)), (51, vI ((x.waits.n : Nat) : Int)), (50, .v (.slice x.waits.A x.waits.n x.waits.c)), (1, .p 0 0)], [⟨52, [vI x.id, vI x.session, vI x.next, .v (.slice x.waits.A x.waits.n x.waits.c)]⟩]⟩ [] [] (by kernel_rfl) on wn ?_
                                refine l_pure 17 [] [.v (.agg #[.int .i64 (x.waits.at i).op.kind, .string (x.waits.at i).op.a, .string (x.waits.at i).op.b, .int .i64 (x.waits.at i).op.n])] (.int .i64 (mOp (x.waits.at i).op)) Try.call17 rfl rfl rfl rfl (fun bs w hS => command_CheckOp (B := anyB) (x.waits.at i).op w ⟨(And.left (Sl.ok.at (s := x.waits) (i := i) okx (by omega))), (And.right (Sl.ok.at (s := x.waits) (i := i) okx (by omega)))⟩) ?_
                                refine JL_run 1 [] [5, 52, 51, 50, 1] 1 ⟨[(5, vI (mOp (x.waits.at i).op)), (52, vI ((i : Nat) : Int)), (51, vI ((x.waits.n : Nat) : Int)), (50, .v (.slice x.waits.A x.waits.n x.waits.c)), (1, .p 0 0)], [⟨52, [vI x.id, vI x.session, vI x.next, .v (.slice x.waits.A x.waits.n x.waits.c)]⟩]⟩ [] [] (by kernel_rfl) on wn ?_
                                refine l_nil (q_then_normal ?_)
                                refine c_seq ?_
                                refine c_region ?_
                                refine JL_run 2 [] [99, 5, 52, 51, 50, 1] 1 ⟨[(99, vB (!(decide (mOp (x.waits.at i).op = 0)))), (5, vI (mOp (x.waits.at i).op)), (52, vI ((i : Nat) : Int)), (51, vI ((x.waits.n : Nat) : Int)), (50, .v (.slice x.waits.A x.waits.n x.waits.c)), (1, .p 0 0)], [⟨52, [vI x.id, vI x.session, vI x.next, .v (.slice x.waits.A x.waits.n x.waits.c)]⟩]⟩ [] [] (by kernel_rfl) on wn ?_
                                refine l_nil (q_then_normal ?_)
                                cases h16 : decide (mOp (x.waits.at i).op = 0) with
                                | true =>
                                  have h16 := of_decide_eq_true h16
                                  refine c_if false rfl ?_
                                  refine c_skip ?_
                                  refine q_block_normal (q_then_normal ?_)
                                  refine c_region ?_
                                  refine JL_run 2 [] [52, 51, 50, 1] 1 ⟨[(52, vI (((i : Nat) : Int) + 1)), (51, vI ((x.waits.n : Nat) : Int)), (50, .v (.slice x.waits.A x.waits.n x.waits.c)), (1, .p 0 0)], [⟨52, [vI x.id, vI x.session, vI x.next, .v (.slice x.waits.A x.waits.n x.waits.c)]⟩]⟩ [inR (((i : Nat) : Int) + 1)] [] (by kernel_rfl) (oc (by unfold inR; omega) on) wn ?_
                                  have hf0 : custF x.abs i = 0 := by
                                    unfold custF
                                    simp only [hat, ha1, ha2, ha3, ha4]
                                    first | (rw [if_pos (by omega)] <;> first | rfl | (exfalso; omega)) | (rw [if_neg (by omega)] <;> first | rfl | assumption | (exfalso; omega))
                                  refine l_nil (q_loop (x := (i : Nat)) ((i + 1) : Nat) ⟨by omega, by rw [hI]; exact firstF_step (by omega) hf0, fun _ => by omega⟩ (by omega) (s_start [52, 51, 50, 1] 1 (by kernel_rfl) rfl))
                                | false =>
                                  have h16 := of_decide_eq_false h16
                                  refine c_if true rfl ?_
                                  refine c_seq ?_
                                  refine c_region ?_
                                  refine JL_run 2 [] [2] 0 ⟨[(2, vI (mOp (x.waits.at i).op))], []⟩ [] [] (by kernel_rfl) on wn ?_
                                  refine l_nil (q_then_normal ?_)
                                  refine c_ret ?_
                                  refine q_block_ret (q_then_ret (q_then_ret (q_block_ret (q_then_ret (q_ret (.inl rfl) [vI (mOp (x.waits.at i).op)] rfl (fun bs w hS => ?_))))))
                                  refine ⟨?_, hS.kp⟩
                                  simp only [retOf, den, List.map_cons, List.map_nil]
                                  have hf : custF x.abs i = mOp (x.waits.at i).op := by
                                    unfold custF
                                    simp only [hat, ha1, ha2, ha3, ha4]
                                    first | (rw [if_pos (by omega)] <;> first | rfl | (exfalso; omega)) | (rw [if_neg (by omega)] <;> first | rfl | assumption | (exfalso; omega))
                                  rw [hI, firstF_here (by omega) hf (by first | assumption | omega)]
                          | false =>
                            have h13 := of_decide_eq_false h13
                            refine h_quiet [(31, .idx x.waits.ad 0), (33, .ext [.int .i64 (x.waits.at 0).seq])] 24 [(94, vB (decide (((x.waits.at 0).seq + 4) - 1 < (x.waits.at i).seq))), (93, vB (decide (((x.waits.at 0).seq + 4) - 1 < (x.waits.at i).seq))), (92, vI (((x.waits.at 0).seq + 4) - 1)), (91, vI ((x.waits.at 0).seq + 4)), (90, vI (x.waits.at 0).seq), (89, .v (.pointer (some ((x.waits.ad.add (0 * 5)).add 0)))), (88, .v (.pointer (some (x.waits.ad.add (0 * 5))))), (87, .v (.slice x.waits.A x.waits.n x.waits.c)), (86, .p 0 3), (85, vI (x.waits.at i).seq), (84, .p 1 0), (83, vB false), (82, vB false), (81, vB false), (80, .v (undef)), (79, .v (undef)), (78, .v (undef)), (77, .v (undef)), (76, .v (undef)), (75, .v (undef)), (74, .v (undef)), (73, .v (undef)), (72, .v (undef)), (71, .v (undef)), (70, vB false), (69, vB false), (68, vI ((i : Nat) : Int)), (67, vB false), (66, vB false), (65, vB false), (64, vI x.next), (63, .p 0 2), (62, vI (x.waits.at i).seq), (61, .p 1 0), (60, vB false), (59, vB false), (58, vI (x.waits.at i).seq), (57, .p 1 0), (3, vI ((i : Nat) : Int)), (4, .p 1 0), (52, vI ((i : Nat) : Int)), (51, vI ((x.waits.n : Nat) : Int)), (50, .v (.slice x.waits.A x.waits.n x.waits.c)), (1, .p 0 0)] [x.waits.A = some x.waits.ad, (0 : Int) = ((0 : Nat) : Int), 0 < x.waits.n, inR ((x.waits.at 0).seq + 4), inR (((x.waits.at 0).seq + 4) - 1)] [((x.waits.ad.add (0 * 5)).add 0, [.int .i64 (x.waits.at 0).seq])] rfl rfl (by kernel_rfl) (oc (Sl.ok.own (s := x.waits) (i := 0) okx (by omega)) (oc rfl (oc (by omega) (oc (by unfold inR; omega) (oc (by unfold inR; omega) on))))) (fun w hk hr => ⟨(Sl.rd.fld (s := x.waits) (i := 0) (Rds.kp hx hk) (by omega) 0 1 rfl), trivial⟩) ?_
                            refine h_nil ?_
                            refine l_nil (q_then_normal ?_)
                            cases h17 : decide (((x.waits.at 0).seq + 4) - 1 < (x.waits.at i).seq) with
                            | true =>
                              have h17 := of_decide_eq_true h17
                              refine c_if true rfl ?_
                              refine c_seq ?_
                              refine c_region ?_
                              refine JL_run 1 [] [2] 0 ⟨[(2, vI 9)], []⟩ [] [] (by kernel_rfl) on wn ?_
                              refine l_nil (q_then_normal ?_)
                              refine c_ret ?_
                              refine q_then_ret (q_block_ret (q_then_ret (q_then_ret (q_block_ret (q_then_ret (q_ret (.inl rfl) [vI 9] rfl (fun bs w hS => ?_)))))))
                              refine ⟨?_, hS.kp⟩
                              simp only [retOf, den, List.map_cons, List.map_nil]
                              have hf : custF x.abs i = 9 := by
                                unfold custF
                                simp only [hat, ha1, ha2, ha3, ha4]
                                first | (rw [if_pos (by omega)] <;> first | rfl | (exfalso; omega)) | (rw [if_neg (by omega)] <;> first | rfl | assumption | (exfalso; omega))
                              rw [hI, firstF_here (by omega) hf (by first | assumption | omega)]
                            | false =>
                              have h17 := of_decide_eq_false h17
                              refine c_if false rfl ?_
                              refine c_skip ?_
                              refine q_then_normal ?_
                              refine c_seq ?_
                              refine c_region ?_
                              refine JL_run 2 [] [96, 52, 51, 50, 1] 1 ⟨[(96, .v (.agg #[.int .i64 (x.waits.at i).op.kind, .string (x.waits.at i).op.a, .string (x.waits.at i).op.b, .int .i64 (x.waits.at i).op.n])), (52, vI ((i : Nat) : Int)), (51, vI ((x.waits.n : Nat) : Int)), (50, .v (.slice x.waits.A x.waits.n x.waits.c)), (1, .p 0 0)], [⟨52, [vI x.id, vI x.session, vI x.next, .v (.slice x.waits.A x.waits.n x.waits.c)]⟩]⟩ [] [] (by kernel_rfl) on wn ?_
                              refine l_pure 17 [] [.v (.agg #[.int .i64 (x.waits.at i).op.kind, .string (x.waits.at i).op.a, .string (x.waits.at i).op.b, .int .i64 (x.waits.at i).op.n])] (.int .i64 (mOp (x.waits.at i).op)) Try.call17 rfl rfl rfl rfl (fun bs w hS => command_CheckOp (B := anyB) (x.waits.at i).op w ⟨(And.left (Sl.ok.at (s := x.waits) (i := i) okx (by omega))), (And.right (Sl.ok.at (s := x.waits) (i := i) okx (by omega)))⟩) ?_
                              refine JL_run 1 [] [5, 52, 51, 50, 1] 1 ⟨[(5, vI (mOp (x.waits.at i).op)), (52, vI ((i : Nat) : Int)), (51, vI ((x.waits.n : Nat) : Int)), (50, .v (.slice x.waits.A x.waits.n x.waits.c)), (1, .p 0 0)], [⟨52, [vI x.id, vI x.session, vI x.next, .v (.slice x.waits.A x.waits.n x.waits.c)]⟩]⟩ [] [] (by kernel_rfl) on wn ?_
                              refine l_nil (q_then_normal ?_)
                              refine c_seq ?_
                              refine c_region ?_
                              refine JL_run 2 [] [99, 5, 52, 51, 50, 1] 1 ⟨[(99, vB (!(decide (mOp (x.waits.at i).op = 0)))), (5, vI (mOp (x.waits.at i).op)), (52, vI ((i : Nat) : Int)), (51, vI ((x.waits.n : Nat) : Int)), (50, .v (.slice x.waits.A x.waits.n x.waits.c)), (1, .p 0 0)], [⟨52, [vI x.id, vI x.session, vI x.next, .v (.slice x.waits.A x.waits.n x.waits.c)]⟩]⟩ [] [] (by kernel_rfl) on wn ?_
                              refine l_nil (q_then_normal ?_)
                              cases h18 : decide (mOp (x.waits.at i).op = 0) with
                              | true =>
                                have h18 := of_decide_eq_true h18
                                refine c_if false rfl ?_
                                refine c_skip ?_
                                refine q_block_normal (q_then_normal ?_)
                                refine c_region ?_
                                refine JL_run 2 [] [52, 51, 50, 1] 1 ⟨[(52, vI (((i : Nat) : Int) + 1)), (51, vI ((x.waits.n : Nat) : Int)), (50, .v (.slice x.waits.A x.waits.n x.waits.c)), (1, .p 0 0)], [⟨52, [vI x.id, vI x.session, vI x.next, .v (.slice x.waits.A x.waits.n x.waits.c)]⟩]⟩ [inR (((i : Nat) : Int) + 1)] [] (by kernel_rfl) (oc (by unfold inR; omega) on) wn ?_
                                have hf0 : custF x.abs i = 0 := by
                                  unfold custF
                                  simp only [hat, ha1, ha2, ha3, ha4]
                                  first | (rw [if_pos (by omega)] <;> first | rfl | (exfalso; omega)) | (rw [if_neg (by omega)] <;> first | rfl | assumption | (exfalso; omega))
                                refine l_nil (q_loop (x := (i : Nat)) ((i + 1) : Nat) ⟨by omega, by rw [hI]; exact firstF_step (by omega) hf0, fun _ => by omega⟩ (by omega) (s_start [52, 51, 50, 1] 1 (by kernel_rfl) rfl))
                              | false =>
                                have h18 := of_decide_eq_false h18
                                refine c_if true rfl ?_
                                refine c_seq ?_
                                refine c_region ?_
                                refine JL_run 2 [] [2] 0 ⟨[(2, vI (mOp (x.waits.at i).op))], []⟩ [] [] (by kernel_rfl) on wn ?_
                                refine l_nil (q_then_normal ?_)
                                refine c_ret ?_
                                refine q_block_ret (q_then_ret (q_then_ret (q_block_ret (q_then_ret (q_ret (.inl rfl) [vI (mOp (x.waits.at i).op)] rfl (fun bs w hS => ?_))))))
                                refine ⟨?_, hS.kp⟩
                                simp only [retOf, den, List.map_cons, List.map_nil]
                                have hf : custF x.abs i = mOp (x.waits.at i).op := by
                                  unfold custF
                                  simp only [hat, ha1, ha2, ha3, ha4]
                                  first | (rw [if_pos (by omega)] <;> first | rfl | (exfalso; omega)) | (rw [if_neg (by omega)] <;> first | rfl | assumption | (exfalso; omega))
                                rw [hI, firstF_here (by omega) hf (by first | assumption | omega)]
                    | false =>
                      have h10 := of_decide_eq_false h10
                      refine c_if false rfl ?_
                      refine c_exit ?_
                      refine q_then_exit (q_then_exit (q_block_hit (q_then_normal ?_)))
                      refine c_seq ?_
                      refine c_region ?_
                      refine JL_run 1 [] [2] 0 ⟨[(2, vI 0)], []⟩ [] [] (by kernel_rfl) on wn ?_
                      refine l_nil (q_then_normal ?_)
                      refine c_ret ?_
                      refine q_ret (.inl rfl) [vI 0] rfl (fun bs w hS => ?_)
                      refine ⟨?_, hS.kp⟩
                      simp only [retOf, den, List.map_cons, List.map_nil]
                      rw [hI, firstF_end (by omega)]
                | false =>
                  have h8 := of_decide_eq_false h8
                  refine JL_run 6 [] [48, 1] 1 ⟨[(48, vB false), (1, .p 0 0)], [⟨52, [vI x.id, vI x.session, vI x.next, .v (.slice x.waits.A x.waits.n x.waits.c)]⟩]⟩ [] [] (by kernel_rfl) on wn ?_
                  refine l_nil (q_then_normal ?_)
                  refine c_if false rfl ?_
                  refine c_skip ?_
                  refine q_then_normal ?_
                  refine c_seq ?_
                  refine c_seq ?_
                  refine c_region ?_
                  refine JL_run 4 [] [52, 51, 50, 1] 1 ⟨[(52, vI 0), (51, vI ((x.waits.n : Nat) : Int)), (50, .v (.slice x.waits.A x.waits.n x.waits.c)), (1, .p 0 0)], [⟨52, [vI x.id, vI x.session, vI x.next, .v (.slice x.waits.A x.waits.n x.waits.c)]⟩]⟩ [] [] (by kernel_rfl) on wn ?_
                  refine l_nil (q_then_normal ?_)
                  refine c_block ?_
                  refine c_loop (σ := Nat) (fun i => i ≤ x.waits.n ∧ mCust x.abs = firstF (custF x.abs) (x.waits.n - i) i ∧ (0 < i → 1 ≤ (x.waits.at 0).seq ∧ (x.waits.at 0).seq < x.next)) (fun i => x.waits.n - i) (fun i => []) (fun i => ⟨[(52, vI ((i : Nat) : Int)), (51, vI ((x.waits.n : Nat) : Int)), (50, .v (.slice x.waits.A x.waits.n x.waits.c)), (1, .p 0 0)], [⟨52, [vI x.id, vI x.session, vI x.next, .v (.slice x.waits.A x.waits.n x.waits.c)]⟩]⟩) 0 ⟨Nat.zero_le _, by unfold mCust; simp only [ha1, ha2, ha3, ha4]; rw [if_neg (by omega), if_neg (by omega)], fun h => absurd h (by omega)⟩ (s_start [52, 51, 50, 1] 1 (by kernel_rfl) rfl) ?_
                  rintro i ⟨hi, hI, h0⟩
                  have hz : i = 0 ∨ (0 < i ∧ 1 ≤ (x.waits.at 0).seq ∧ (x.waits.at 0).seq < x.next) := by rcases Nat.eq_zero_or_pos i with h | h; exact .inl h; exact .inr ⟨h, h0 h⟩
                  have hz2 : i = 0 → (x.waits.at i).seq = (x.waits.at 0).seq := fun h => by rw [h]
                  refine c_seq ?_
                  refine c_region ?_
                  refine JL_run 1 [] [53, 52, 51, 50, 1] 1 ⟨[(53, vB (decide (((i : Nat) : Int) < ((x.waits.n : Nat) : Int)))), (52, vI ((i : Nat) : Int)), (51, vI ((x.waits.n : Nat) : Int)), (50, .v (.slice x.waits.A x.waits.n x.waits.c)), (1, .p 0 0)], [⟨52, [vI x.id, vI x.session, vI x.next, .v (.slice x.waits.A x.waits.n x.waits.c)]⟩]⟩ [] [] (by kernel_rfl) on wn ?_
                  refine l_nil (q_then_normal ?_)
                  refine c_seq ?_
                  cases h19 : decide (((i : Nat) : Int) < ((x.waits.n : Nat) : Int)) with
                  | true =>
                    have h19 := of_decide_eq_true h19
                    refine c_if true rfl ?_
                    refine c_skip ?_
                    refine q_then_normal ?_
                    refine c_seq ?_
                    refine c_block ?_
                    refine c_seq ?_
                    refine c_region ?_
                    refine JL_run 6 [(1, .idx x.waits.ad i), (2, .ext [.int .i64 (x.waits.at i).seq, .int .i64 (x.waits.at i).op.kind, .string (x.waits.at i).op.a, .string (x.waits.at i).op.b, .int .i64 (x.waits.at i).op.n])] [3, 4, 52, 51, 50, 1] 2 ⟨[(3, vI ((i : Nat) : Int)), (4, .p 1 0), (52, vI ((i : Nat) : Int)), (51, vI ((x.waits.n : Nat) : Int)), (50, .v (.slice x.waits.A x.waits.n x.waits.c)), (1, .p 0 0)], [⟨52, [vI x.id, vI x.session, vI x.next, .v (.slice x.waits.A x.waits.n x.waits.c)]⟩, ⟨88, [vI (x.waits.at i).seq, vI (x.waits.at i).op.kind, vS (x.waits.at i).op.a, vS (x.waits.at i).op.b, vI (x.waits.at i).op.n]⟩]⟩ [x.waits.A = some x.waits.ad, ((i : Nat) : Int) = ((i : Nat) : Int), i < x.waits.n] [(x.waits.ad.add (i * 5), [.int .i64 (x.waits.at i).seq, .int .i64 (x.waits.at i).op.kind, .string (x.waits.at i).op.a, .string (x.waits.at i).op.b, .int .i64 (x.waits.at i).op.n])] (by kernel_rfl) (oc (Sl.ok.own (s := x.waits) (i := i) okx (by omega)) (oc rfl (oc (by omega) on))) (fun w hk hr => ⟨(Sl.rd.all (s := x.waits) (i := i) (Rds.kp hx hk) (by omega) rfl), trivial⟩) ?_
                    refine l_nil (q_then_normal ?_)
                    refine c_seq ?_
                    refine c_seq ?_
                    refine c_draw 38 [(0, false), (1, false), (2, false), (3, false), (4, false), (5, false), (6, false), (7, false), (8, false), (9, false), (10, false), (11, false), (12, false), (13, false), (14, false), (15, false), (16, false), (17, false), (18, false), (19, false), (20, false), (21, false), (22, false), (23, false), (24, false), (25, false), (26, false), (27, false), (28, false), (29, false), (30, false), (31, false), (32, false), (33, false), (34, false), (35, false), (36, false), (37, false)] [] [] Try_mixed (by kernel_rfl) (pq_then (pq_then (pq_block (pq_then (pq_then (pq_block (pq_then pq_body))))))) (List.Sublist.refl _) ?_
                    refine h_quiet [] 4 [(60, vB (decide ((x.waits.at i).seq < 1))), (59, vB (decide ((x.waits.at i).seq < 1))), (58, vI (x.waits.at i).seq), (57, .p 1 0), (3, vI ((i : Nat) : Int)), (4, .p 1 0), (52, vI ((i : Nat) : Int)), (51, vI ((x.waits.n : Nat) : Int)), (50, .v (.slice x.waits.A x.waits.n x.waits.c)), (1, .p 0 0)] [] [] rfl rfl (by kernel_rfl) on wn ?_
                    cases h20 : decide ((x.waits.at i).seq < 1) with
                    | true =>
                      have h20 := of_decide_eq_true h20
                      refine h_quiet [] 34 [(94, vB true), (93, .v (undef)), (92, .v (undef)), (91, .v (undef)), (90, .v (undef)), (89, .v (undef)), (88, .v (undef)), (87, .v (undef)), (86, .v (undef)), (85, .v (undef)), (84, .v (undef)), (83, vB true), (82, vB true), (81, .v (undef)), (80, .v (undef)), (79, .v (undef)), (78, .v (undef)), (77, .v (undef)), (76, .v (undef)), (75, .v (undef)), (74, .v (undef)), (73, .v (undef)), (72, .v (undef)), (71, .v (undef)), (70, .v (undef)), (69, .v (undef)), (68, .v (undef)), (67, vB true), (66, vB true), (65, .v (undef)), (64, .v (undef)), (63, .v (undef)), (62, .v (undef)), (61, .v (undef)), (60, vB true), (59, vB true), (58, vI (x.waits.at i).seq), (57, .p 1 0), (3, vI ((i : Nat) : Int)), (4, .p 1 0), (52, vI ((i : Nat) : Int)), (51, vI ((x.waits.n : Nat) : Int)), (50, .v (.slice x.waits.A x.waits.n x.waits.c)), (1, .p 0 0)] [] [] rfl rfl (by kernel_rfl) on wn ?_
                      refine h_nil ?_
                      refine l_nil (q_then_normal ?_)
                      refine c_if true rfl ?_
                      refine c_seq ?_
                      refine c_region ?_
                      refine JL_run 1 [] [2] 0 ⟨[(2, vI 9)], []⟩ [] [] (by kernel_rfl) on wn ?_
                      refine l_nil (q_then_normal ?_)
                      refine c_ret ?_
                      refine q_then_ret (q_block_ret (q_then_ret (q_then_ret (q_block_ret (q_then_ret (q_ret (.inl rfl) [vI 9] rfl (fun bs w hS => ?_)))))))
                      refine ⟨?_, hS.kp⟩
                      simp only [retOf, den, List.map_cons, List.map_nil]
                      have hf : custF x.abs i = 9 := by
                        unfold custF
                        simp only [hat, ha1, ha2, ha3, ha4]
                        first | (rw [if_pos (by omega)] <;> first | rfl | (exfalso; omega)) | (rw [if_neg (by omega)] <;> first | rfl | assumption | (exfalso; omega))
                      rw [hI, firstF_here (by omega) hf (by first | assumption | omega)]
                    | false =>
                      have h20 := of_decide_eq_false h20
                      refine h_quiet [] 7 [(67, vB (decide (x.next ≤ (x.waits.at i).seq))), (66, vB (decide (x.next ≤ (x.waits.at i).seq))), (65, vB (decide (x.next ≤ (x.waits.at i).seq))), (64, vI x.next), (63, .p 0 2), (62, vI (x.waits.at i).seq), (61, .p 1 0), (60, vB false), (59, vB false), (58, vI (x.waits.at i).seq), (57, .p 1 0), (3, vI ((i : Nat) : Int)), (4, .p 1 0), (52, vI ((i : Nat) : Int)), (51, vI ((x.waits.n : Nat) : Int)), (50, .v (.slice x.waits.A x.waits.n x.waits.c)), (1, .p 0 0)] [] [] rfl rfl (by kernel_rfl) on wn ?_
                      cases h21 : decide (x.next ≤ (x.waits.at i).seq) with
                      | true =>
                        have h21 := of_decide_eq_true h21
                        refine h_quiet [] 27 [(94, vB true), (93, .v (undef)), (92, .v (undef)), (91, .v (undef)), (90, .v (undef)), (89, .v (undef)), (88, .v (undef)), (87, .v (undef)), (86, .v (undef)), (85, .v (undef)), (84, .v (undef)), (83, vB true), (82, vB true), (81, .v (undef)), (80, .v (undef)), (79, .v (undef)), (78, .v (undef)), (77, .v (undef)), (76, .v (undef)), (75, .v (undef)), (74, .v (undef)), (73, .v (undef)), (72, .v (undef)), (71, .v (undef)), (70, .v (undef)), (69, .v (undef)), (68, .v (undef)), (67, vB true), (66, vB true), (65, vB true), (64, vI x.next), (63, .p 0 2), (62, vI (x.waits.at i).seq), (61, .p 1 0), (60, vB false), (59, vB false), (58, vI (x.waits.at i).seq), (57, .p 1 0), (3, vI ((i : Nat) : Int)), (4, .p 1 0), (52, vI ((i : Nat) : Int)), (51, vI ((x.waits.n : Nat) : Int)), (50, .v (.slice x.waits.A x.waits.n x.waits.c)), (1, .p 0 0)] [] [] rfl rfl (by kernel_rfl) on wn ?_
                        refine h_nil ?_
                        refine l_nil (q_then_normal ?_)
                        refine c_if true rfl ?_
                        refine c_seq ?_
                        refine c_region ?_
                        refine JL_run 1 [] [2] 0 ⟨[(2, vI 9)], []⟩ [] [] (by kernel_rfl) on wn ?_
                        refine l_nil (q_then_normal ?_)
                        refine c_ret ?_
                        refine q_then_ret (q_block_ret (q_then_ret (q_then_ret (q_block_ret (q_then_ret (q_ret (.inl rfl) [vI 9] rfl (fun bs w hS => ?_)))))))
                        refine ⟨?_, hS.kp⟩
                        simp only [retOf, den, List.map_cons, List.map_nil]
                        have hf : custF x.abs i = 9 := by
                          unfold custF
                          simp only [hat, ha1, ha2, ha3, ha4]
                          first | (rw [if_pos (by omega)] <;> first | rfl | (exfalso; omega)) | (rw [if_neg (by omega)] <;> first | rfl | assumption | (exfalso; omega))
                        rw [hI, firstF_here (by omega) hf (by first | assumption | omega)]
                      | false =>
                        have h21 := of_decide_eq_false h21
                        refine h_quiet [] 3 [(70, vB (decide ((0 : Int) < ((i : Nat) : Int)))), (69, vB (decide ((0 : Int) < ((i : Nat) : Int)))), (68, vI ((i : Nat) : Int)), (67, vB false), (66, vB false), (65, vB false), (64, vI x.next), (63, .p 0 2), (62, vI (x.waits.at i).seq), (61, .p 1 0), (60, vB false), (59, vB false), (58, vI (x.waits.at i).seq), (57, .p 1 0), (3, vI ((i : Nat) : Int)), (4, .p 1 0), (52, vI ((i : Nat) : Int)), (51, vI ((x.waits.n : Nat) : Int)), (50, .v (.slice x.waits.A x.waits.n x.waits.c)), (1, .p 0 0)] [] [] rfl rfl (by kernel_rfl) on wn ?_
                        cases h22 : decide ((0 : Int) < ((i : Nat) : Int)) with
                        | true =>
                          have h22 := of_decide_eq_true h22
                          refine h_quiet [(18, .idx x.waits.ad (i - 1)), (20, .ext [.int .i64 (x.waits.at (i - 1)).seq])] 13 [(83, vB (decide ((x.waits.at i).seq ≤ (x.waits.at (i - 1)).seq))), (82, vB (decide ((x.waits.at i).seq ≤ (x.waits.at (i - 1)).seq))), (81, vB (decide ((x.waits.at i).seq ≤ (x.waits.at (i - 1)).seq))), (80, vB (decide ((x.waits.at i).seq ≤ (x.waits.at (i - 1)).seq))), (79, vI (x.waits.at i).seq), (78, .p 1 0), (77, vI (x.waits.at (i - 1)).seq), (76, .v (.pointer (some ((x.waits.ad.add ((i - 1) * 5)).add 0)))), (75, .v (.pointer (some (x.waits.ad.add ((i - 1) * 5))))), (74, vI (((i : Nat) : Int) - 1)), (73, vI ((i : Nat) : Int)), (72, .v (.slice x.waits.A x.waits.n x.waits.c)), (71, .p 0 3), (70, vB true), (69, vB true), (68, vI ((i : Nat) : Int)), (67, vB false), (66, vB false), (65, vB false), (64, vI x.next), (63, .p 0 2), (62, vI (x.waits.at i).seq), (61, .p 1 0), (60, vB false), (59, vB false), (58, vI (x.waits.at i).seq), (57, .p 1 0), (3, vI ((i : Nat) : Int)), (4, .p 1 0), (52, vI ((i : Nat) : Int)), (51, vI ((x.waits.n : Nat) : Int)), (50, .v (.slice x.waits.A x.waits.n x.waits.c)), (1, .p 0 0)] [inR (((i : Nat) : Int) - 1), x.waits.A = some x.waits.ad, ((i : Nat) : Int) - 1 = (((i - 1) : Nat) : Int), (i - 1) < x.waits.n] [((x.waits.ad.add ((i - 1) * 5)).add 0, [.int .i64 (x.waits.at (i - 1)).seq])] rfl rfl (by kernel_rfl) (oc (by unfold inR; omega) (oc (Sl.ok.own (s := x.waits) (i := (i - 1)) okx (by omega)) (oc (by omega) (oc (by omega) on)))) (fun w hk hr => ⟨(Sl.rd.fld (s := x.waits) (i := (i - 1)) (Rds.kp hx hk) (by omega) 0 1 rfl), trivial⟩) ?_
                          cases h23 : decide ((x.waits.at i).seq ≤ (x.waits.at (i - 1)).seq) with
                          | true =>
                            have h23 := of_decide_eq_true h23
                            refine h_quiet [] 11 [(94, vB true), (93, .v (undef)), (92, .v (undef)), (91, .v (undef)), (90, .v (undef)), (89, .v (undef)), (88, .v (undef)), (87, .v (undef)), (86, .v (undef)), (85, .v (undef)), (84, .v (undef)), (83, vB true), (82, vB true), (81, vB true), (80, vB true), (79, vI (x.waits.at i).seq), (78, .p 1 0), (77, vI (x.waits.at (i - 1)).seq), (76, .v (.pointer (some ((x.waits.ad.add ((i - 1) * 5)).add 0)))), (75, .v (.pointer (some (x.waits.ad.add ((i - 1) * 5))))), (74, vI (((i : Nat) : Int) - 1)), (73, vI ((i : Nat) : Int)), (72, .v (.slice x.waits.A x.waits.n x.waits.c)), (71, .p 0 3), (70, vB true), (69, vB true), (68, vI ((i : Nat) : Int)), (67, vB false), (66, vB false), (65, vB false), (64, vI x.next), (63, .p 0 2), (62, vI (x.waits.at i).seq), (61, .p 1 0), (60, vB false), (59, vB false), (58, vI (x.waits.at i).seq), (57, .p 1 0), (3, vI ((i : Nat) : Int)), (4, .p 1 0), (52, vI ((i : Nat) : Int)), (51, vI ((x.waits.n : Nat) : Int)), (50, .v (.slice x.waits.A x.waits.n x.waits.c)), (1, .p 0 0)] [] [] rfl rfl (by kernel_rfl) on wn ?_
                            refine h_nil ?_
                            refine l_nil (q_then_normal ?_)
                            refine c_if true rfl ?_
                            refine c_seq ?_
                            refine c_region ?_
                            refine JL_run 1 [] [2] 0 ⟨[(2, vI 9)], []⟩ [] [] (by kernel_rfl) on wn ?_
                            refine l_nil (q_then_normal ?_)
                            refine c_ret ?_
                            refine q_then_ret (q_block_ret (q_then_ret (q_then_ret (q_block_ret (q_then_ret (q_ret (.inl rfl) [vI 9] rfl (fun bs w hS => ?_)))))))
                            refine ⟨?_, hS.kp⟩
                            simp only [retOf, den, List.map_cons, List.map_nil]
                            have hf : custF x.abs i = 9 := by
                              unfold custF
                              simp only [hat, ha1, ha2, ha3, ha4]
                              first | (rw [if_pos (by omega)] <;> first | rfl | (exfalso; omega)) | (rw [if_neg (by omega)] <;> first | rfl | assumption | (exfalso; omega))
                            rw [hI, firstF_here (by omega) hf (by first | assumption | omega)]
                          | false =>
                            have h23 := of_decide_eq_false h23
                            refine h_quiet [(31, .idx x.waits.ad 0), (33, .ext [.int .i64 (x.waits.at 0).seq])] 11 [(94, vB (decide (((x.waits.at 0).seq + 4) - 1 < (x.waits.at i).seq))), (93, vB (decide (((x.waits.at 0).seq + 4) - 1 < (x.waits.at i).seq))), (92, vI (((x.waits.at 0).seq + 4) - 1)), (91, vI ((x.waits.at 0).seq + 4)), (90, vI (x.waits.at 0).seq), (89, .v (.pointer (some ((x.waits.ad.add (0 * 5)).add 0)))), (88, .v (.pointer (some (x.waits.ad.add (0 * 5))))), (87, .v (.slice x.waits.A x.waits.n x.waits.c)), (86, .p 0 3), (85, vI (x.waits.at i).seq), (84, .p 1 0), (83, vB false), (82, vB false), (81, vB false), (80, vB false), (79, vI (x.waits.at i).seq), (78, .p 1 0), (77, vI (x.waits.at (i - 1)).seq), (76, .v (.pointer (some ((x.waits.ad.add ((i - 1) * 5)).add 0)))), (75, .v (.pointer (some (x.waits.ad.add ((i - 1) * 5))))), (74, vI (((i : Nat) : Int) - 1)), (73, vI ((i : Nat) : Int)), (72, .v (.slice x.waits.A x.waits.n x.waits.c)), (71, .p 0 3), (70, vB true), (69, vB true), (68, vI ((i : Nat) : Int)), (67, vB false), (66, vB false), (65, vB false), (64, vI x.next), (63, .p 0 2), (62, vI (x.waits.at i).seq), (61, .p 1 0), (60, vB false), (59, vB false), (58, vI (x.waits.at i).seq), (57, .p 1 0), (3, vI ((i : Nat) : Int)), (4, .p 1 0), (52, vI ((i : Nat) : Int)), (51, vI ((x.waits.n : Nat) : Int)), (50, .v (.slice x.waits.A x.waits.n x.waits.c)), (1, .p 0 0)] [x.waits.A = some x.waits.ad, (0 : Int) = ((0 : Nat) : Int), 0 < x.waits.n, inR ((x.waits.at 0).seq + 4), inR (((x.waits.at 0).seq + 4) - 1)] [((x.waits.ad.add (0 * 5)).add 0, [.int .i64 (x.waits.at 0).seq])] rfl rfl (by kernel_rfl) (oc (Sl.ok.own (s := x.waits) (i := 0) okx (by omega)) (oc rfl (oc (by omega) (oc (by unfold inR; omega) (oc (by unfold inR; omega) on))))) (fun w hk hr => ⟨(Sl.rd.fld (s := x.waits) (i := 0) (Rds.kp hx hk) (by omega) 0 1 rfl), trivial⟩) ?_
                            refine h_nil ?_
                            refine l_nil (q_then_normal ?_)
                            cases h24 : decide (((x.waits.at 0).seq + 4) - 1 < (x.waits.at i).seq) with
                            | true =>
                              have h24 := of_decide_eq_true h24
                              refine c_if true rfl ?_
                              refine c_seq ?_
                              refine c_region ?_
                              refine JL_run 1 [] [2] 0 ⟨[(2, vI 9)], []⟩ [] [] (by kernel_rfl) on wn ?_
                              refine l_nil (q_then_normal ?_)
                              refine c_ret ?_
                              refine q_then_ret (q_block_ret (q_then_ret (q_then_ret (q_block_ret (q_then_ret (q_ret (.inl rfl) [vI 9] rfl (fun bs w hS => ?_)))))))
                              refine ⟨?_, hS.kp⟩
                              simp only [retOf, den, List.map_cons, List.map_nil]
                              have hf : custF x.abs i = 9 := by
                                unfold custF
                                simp only [hat, ha1, ha2, ha3, ha4]
                                first | (rw [if_pos (by omega)] <;> first | rfl | (exfalso; omega)) | (rw [if_neg (by omega)] <;> first | rfl | assumption | (exfalso; omega))
                              rw [hI, firstF_here (by omega) hf (by first | assumption | omega)]
                            | false =>
                              have h24 := of_decide_eq_false h24
                              refine c_if false rfl ?_
                              refine c_skip ?_
                              refine q_then_normal ?_
                              refine c_seq ?_
                              refine c_region ?_
                              refine JL_run 2 [] [96, 52, 51, 50, 1] 1 ⟨[(96, .v (.agg #[.int .i64 (x.waits.at i).op.kind, .string (x.waits.at i).op.a, .string (x.waits.at i).op.b, .int .i64 (x.waits.at i).op.n])), (52, vI ((i : Nat) : Int)), (51, vI ((x.waits.n : Nat) : Int)), (50, .v (.slice x.waits.A x.waits.n x.waits.c)), (1, .p 0 0)], [⟨52, [vI x.id, vI x.session, vI x.next, .v (.slice x.waits.A x.waits.n x.waits.c)]⟩]⟩ [] [] (by kernel_rfl) on wn ?_
                              refine l_pure 17 [] [.v (.agg #[.int .i64 (x.waits.at i).op.kind, .string (x.waits.at i).op.a, .string (x.waits.at i).op.b, .int .i64 (x.waits.at i).op.n])] (.int .i64 (mOp (x.waits.at i).op)) Try.call17 rfl rfl rfl rfl (fun bs w hS => command_CheckOp (B := anyB) (x.waits.at i).op w ⟨(And.left (Sl.ok.at (s := x.waits) (i := i) okx (by omega))), (And.right (Sl.ok.at (s := x.waits) (i := i) okx (by omega)))⟩) ?_
                              refine JL_run 1 [] [5, 52, 51, 50, 1] 1 ⟨[(5, vI (mOp (x.waits.at i).op)), (52, vI ((i : Nat) : Int)), (51, vI ((x.waits.n : Nat) : Int)), (50, .v (.slice x.waits.A x.waits.n x.waits.c)), (1, .p 0 0)], [⟨52, [vI x.id, vI x.session, vI x.next, .v (.slice x.waits.A x.waits.n x.waits.c)]⟩]⟩ [] [] (by kernel_rfl) on wn ?_
                              refine l_nil (q_then_normal ?_)
                              refine c_seq ?_
                              refine c_region ?_
                              refine JL_run 2 [] [99, 5, 52, 51, 50, 1] 1 ⟨[(99, vB (!(decide (mOp (x.waits.at i).op = 0)))), (5, vI (mOp (x.waits.at i).op)), (52, vI ((i : Nat) : Int)), (51, vI ((x.waits.n : Nat) : Int)), (50, .v (.slice x.waits.A x.waits.n x.waits.c)), (1, .p 0 0)], [⟨52, [vI x.id, vI x.session, vI x.next, .v (.slice x.waits.A x.waits.n x.waits.c)]⟩]⟩ [] [] (by kernel_rfl) on wn ?_
                              refine l_nil (q_then_normal ?_)
                              cases h25 : decide (mOp (x.waits.at i).op = 0) with
                              | true =>
                                have h25 := of_decide_eq_true h25
                                refine c_if false rfl ?_
                                refine c_skip ?_
                                refine q_block_normal (q_then_normal ?_)
                                refine c_region ?_
                                refine JL_run 2 [] [52, 51, 50, 1] 1 ⟨[(52, vI (((i : Nat) : Int) + 1)), (51, vI ((x.waits.n : Nat) : Int)), (50, .v (.slice x.waits.A x.waits.n x.waits.c)), (1, .p 0 0)], [⟨52, [vI x.id, vI x.session, vI x.next, .v (.slice x.waits.A x.waits.n x.waits.c)]⟩]⟩ [inR (((i : Nat) : Int) + 1)] [] (by kernel_rfl) (oc (by unfold inR; omega) on) wn ?_
                                have hf0 : custF x.abs i = 0 := by
                                  unfold custF
                                  simp only [hat, ha1, ha2, ha3, ha4]
                                  first | (rw [if_pos (by omega)] <;> first | rfl | (exfalso; omega)) | (rw [if_neg (by omega)] <;> first | rfl | assumption | (exfalso; omega))
                                refine l_nil (q_loop (x := (i : Nat)) ((i + 1) : Nat) ⟨by omega, by rw [hI]; exact firstF_step (by omega) hf0, fun _ => by omega⟩ (by omega) (s_start [52, 51, 50, 1] 1 (by kernel_rfl) rfl))
                              | false =>
                                have h25 := of_decide_eq_false h25
                                refine c_if true rfl ?_
                                refine c_seq ?_
                                refine c_region ?_
                                refine JL_run 2 [] [2] 0 ⟨[(2, vI (mOp (x.waits.at i).op))], []⟩ [] [] (by kernel_rfl) on wn ?_
                                refine l_nil (q_then_normal ?_)
                                refine c_ret ?_
                                refine q_block_ret (q_then_ret (q_then_ret (q_block_ret (q_then_ret (q_ret (.inl rfl) [vI (mOp (x.waits.at i).op)] rfl (fun bs w hS => ?_))))))
                                refine ⟨?_, hS.kp⟩
                                simp only [retOf, den, List.map_cons, List.map_nil]
                                have hf : custF x.abs i = mOp (x.waits.at i).op := by
                                  unfold custF
                                  simp only [hat, ha1, ha2, ha3, ha4]
                                  first | (rw [if_pos (by omega)] <;> first | rfl | (exfalso; omega)) | (rw [if_neg (by omega)] <;> first | rfl | assumption | (exfalso; omega))
                                rw [hI, firstF_here (by omega) hf (by first | assumption | omega)]
                        | false =>
                          have h22 := of_decide_eq_false h22
                          refine h_quiet [(31, .idx x.waits.ad 0), (33, .ext [.int .i64 (x.waits.at 0).seq])] 24 [(94, vB (decide (((x.waits.at 0).seq + 4) - 1 < (x.waits.at i).seq))), (93, vB (decide (((x.waits.at 0).seq + 4) - 1 < (x.waits.at i).seq))), (92, vI (((x.waits.at 0).seq + 4) - 1)), (91, vI ((x.waits.at 0).seq + 4)), (90, vI (x.waits.at 0).seq), (89, .v (.pointer (some ((x.waits.ad.add (0 * 5)).add 0)))), (88, .v (.pointer (some (x.waits.ad.add (0 * 5))))), (87, .v (.slice x.waits.A x.waits.n x.waits.c)), (86, .p 0 3), (85, vI (x.waits.at i).seq), (84, .p 1 0), (83, vB false), (82, vB false), (81, vB false), (80, .v (undef)), (79, .v (undef)), (78, .v (undef)), (77, .v (undef)), (76, .v (undef)), (75, .v (undef)), (74, .v (undef)), (73, .v (undef)), (72, .v (undef)), (71, .v (undef)), (70, vB false), (69, vB false), (68, vI ((i : Nat) : Int)), (67, vB false), (66, vB false), (65, vB false), (64, vI x.next), (63, .p 0 2), (62, vI (x.waits.at i).seq), (61, .p 1 0), (60, vB false), (59, vB false), (58, vI (x.waits.at i).seq), (57, .p 1 0), (3, vI ((i : Nat) : Int)), (4, .p 1 0), (52, vI ((i : Nat) : Int)), (51, vI ((x.waits.n : Nat) : Int)), (50, .v (.slice x.waits.A x.waits.n x.waits.c)), (1, .p 0 0)] [x.waits.A = some x.waits.ad, (0 : Int) = ((0 : Nat) : Int), 0 < x.waits.n, inR ((x.waits.at 0).seq + 4), inR (((x.waits.at 0).seq + 4) - 1)] [((x.waits.ad.add (0 * 5)).add 0, [.int .i64 (x.waits.at 0).seq])] rfl rfl (by kernel_rfl) (oc (Sl.ok.own (s := x.waits) (i := 0) okx (by omega)) (oc rfl (oc (by omega) (oc (by unfold inR; omega) (oc (by unfold inR; omega) on))))) (fun w hk hr => ⟨(Sl.rd.fld (s := x.waits) (i := 0) (Rds.kp hx hk) (by omega) 0 1 rfl), trivial⟩) ?_
                          refine h_nil ?_
                          refine l_nil (q_then_normal ?_)
                          cases h26 : decide (((x.waits.at 0).seq + 4) - 1 < (x.waits.at i).seq) with
                          | true =>
                            have h26 := of_decide_eq_true h26
                            refine c_if true rfl ?_
                            refine c_seq ?_
                            refine c_region ?_
                            refine JL_run 1 [] [2] 0 ⟨[(2, vI 9)], []⟩ [] [] (by kernel_rfl) on wn ?_
                            refine l_nil (q_then_normal ?_)
                            refine c_ret ?_
                            refine q_then_ret (q_block_ret (q_then_ret (q_then_ret (q_block_ret (q_then_ret (q_ret (.inl rfl) [vI 9] rfl (fun bs w hS => ?_)))))))
                            refine ⟨?_, hS.kp⟩
                            simp only [retOf, den, List.map_cons, List.map_nil]
                            have hf : custF x.abs i = 9 := by
                              unfold custF
                              simp only [hat, ha1, ha2, ha3, ha4]
                              first | (rw [if_pos (by omega)] <;> first | rfl | (exfalso; omega)) | (rw [if_neg (by omega)] <;> first | rfl | assumption | (exfalso; omega))
                            rw [hI, firstF_here (by omega) hf (by first | assumption | omega)]
                          | false =>
                            have h26 := of_decide_eq_false h26
                            refine c_if false rfl ?_
                            refine c_skip ?_
                            refine q_then_normal ?_
                            refine c_seq ?_
                            refine c_region ?_
                            refine JL_run 2 [] [96, 52, 51, 50, 1] 1 ⟨[(96, .v (.agg #[.int .i64 (x.waits.at i).op.kind, .string (x.waits.at i).op.a, .string (x.waits.at i).op.b, .int .i64 (x.waits.at i).op.n])), (52, vI ((i : Nat) : Int)), (51, vI ((x.waits.n : Nat) : Int)), (50, .v (.slice x.waits.A x.waits.n x.waits.c)), (1, .p 0 0)], [⟨52, [vI x.id, vI x.session, vI x.next, .v (.slice x.waits.A x.waits.n x.waits.c)]⟩]⟩ [] [] (by kernel_rfl) on wn ?_
                            refine l_pure 17 [] [.v (.agg #[.int .i64 (x.waits.at i).op.kind, .string (x.waits.at i).op.a, .string (x.waits.at i).op.b, .int .i64 (x.waits.at i).op.n])] (.int .i64 (mOp (x.waits.at i).op)) Try.call17 rfl rfl rfl rfl (fun bs w hS => command_CheckOp (B := anyB) (x.waits.at i).op w ⟨(And.left (Sl.ok.at (s := x.waits) (i := i) okx (by omega))), (And.right (Sl.ok.at (s := x.waits) (i := i) okx (by omega)))⟩) ?_
                            refine JL_run 1 [] [5, 52, 51, 50, 1] 1 ⟨[(5, vI (mOp (x.waits.at i).op)), (52, vI ((i : Nat) : Int)), (51, vI ((x.waits.n : Nat) : Int)), (50, .v (.slice x.waits.A x.waits.n x.waits.c)), (1, .p 0 0)], [⟨52, [vI x.id, vI x.session, vI x.next, .v (.slice x.waits.A x.waits.n x.waits.c)]⟩]⟩ [] [] (by kernel_rfl) on wn ?_
                            refine l_nil (q_then_normal ?_)
                            refine c_seq ?_
                            refine c_region ?_
                            refine JL_run 2 [] [99, 5, 52, 51, 50, 1] 1 ⟨[(99, vB (!(decide (mOp (x.waits.at i).op = 0)))), (5, vI (mOp (x.waits.at i).op)), (52, vI ((i : Nat) : Int)), (51, vI ((x.waits.n : Nat) : Int)), (50, .v (.slice x.waits.A x.waits.n x.waits.c)), (1, .p 0 0)], [⟨52, [vI x.id, vI x.session, vI x.next, .v (.slice x.waits.A x.waits.n x.waits.c)]⟩]⟩ [] [] (by kernel_rfl) on wn ?_
                            refine l_nil (q_then_normal ?_)
                            cases h27 : decide (mOp (x.waits.at i).op = 0) with
                            | true =>
                              have h27 := of_decide_eq_true h27
                              refine c_if false rfl ?_
                              refine c_skip ?_
                              refine q_block_normal (q_then_normal ?_)
                              refine c_region ?_
                              refine JL_run 2 [] [52, 51, 50, 1] 1 ⟨[(52, vI (((i : Nat) : Int) + 1)), (51, vI ((x.waits.n : Nat) : Int)), (50, .v (.slice x.waits.A x.waits.n x.waits.c)), (1, .p 0 0)], [⟨52, [vI x.id, vI x.session, vI x.next, .v (.slice x.waits.A x.waits.n x.waits.c)]⟩]⟩ [inR (((i : Nat) : Int) + 1)] [] (by kernel_rfl) (oc (by unfold inR; omega) on) wn ?_
                              have hf0 : custF x.abs i = 0 := by
                                unfold custF
                                simp only [hat, ha1, ha2, ha3, ha4]
                                first | (rw [if_pos (by omega)] <;> first | rfl | (exfalso; omega)) | (rw [if_neg (by omega)] <;> first | rfl | assumption | (exfalso; omega))
                              refine l_nil (q_loop (x := (i : Nat)) ((i + 1) : Nat) ⟨by omega, by rw [hI]; exact firstF_step (by omega) hf0, fun _ => by omega⟩ (by omega) (s_start [52, 51, 50, 1] 1 (by kernel_rfl) rfl))
                            | false =>
                              have h27 := of_decide_eq_false h27
                              refine c_if true rfl ?_
                              refine c_seq ?_
                              refine c_region ?_
                              refine JL_run 2 [] [2] 0 ⟨[(2, vI (mOp (x.waits.at i).op))], []⟩ [] [] (by kernel_rfl) on wn ?_
                              refine l_nil (q_then_normal ?_)
                              refine c_ret ?_
                              refine q_block_ret (q_then_ret (q_then_ret (q_block_ret (q_then_ret (q_ret (.inl rfl) [vI (mOp (x.waits.at i).op)] rfl (fun bs w hS => ?_))))))
                              refine ⟨?_, hS.kp⟩
                              simp only [retOf, den, List.map_cons, List.map_nil]
                              have hf : custF x.abs i = mOp (x.waits.at i).op := by
                                unfold custF
                                simp only [hat, ha1, ha2, ha3, ha4]
                                first | (rw [if_pos (by omega)] <;> first | rfl | (exfalso; omega)) | (rw [if_neg (by omega)] <;> first | rfl | assumption | (exfalso; omega))
                              rw [hI, firstF_here (by omega) hf (by first | assumption | omega)]
                  | false =>
                    have h19 := of_decide_eq_false h19
                    refine c_if false rfl ?_
                    refine c_exit ?_
                    refine q_then_exit (q_then_exit (q_block_hit (q_then_normal ?_)))
                    refine c_seq ?_
                    refine c_region ?_
                    refine JL_run 1 [] [2] 0 ⟨[(2, vI 0)], []⟩ [] [] (by kernel_rfl) on wn ?_
                    refine l_nil (q_then_normal ?_)
                    refine c_ret ?_
                    refine q_ret (.inl rfl) [vI 0] rfl (fun bs w hS => ?_)
                    refine ⟨?_, hS.kp⟩
                    simp only [retOf, den, List.map_cons, List.map_nil]
                    rw [hI, firstF_end (by omega)]

theorem ref_CustomerFault {B : Nat → Prop} (x : CCustomer) (w : World) (hx : Rds.sub B w x) : Calls Try.prog 28 #[.agg #[.int .i64 x.id, .int .i64 x.session, .int .i64 x.next, .slice x.waits.A x.waits.n x.waits.c]] w fun e w' => e = .returned (.int .i64 (mCust x.abs)) ∧ Kp [] w w' := by
  have okx := Rds.okof hx
  have ncx := Sl.ok.nc okx
  have hns : x.waits.n = x.waits.xs.length := rfl
  have hat : ∀ q, x.abs.waits.getD q default = x.waits.at q := fun _ => rfl
  have ha1 : x.abs.id = x.id := rfl
  have ha2 : x.abs.session = x.session := rfl
  have ha3 : x.abs.next = x.next := rfl
  have ha4 : x.abs.waits.length = x.waits.n := rfl
  refine calls_J0 89 Try.func28 rfl rfl [.agg #[.int .i64 x.id, .int .i64 x.session, .int .i64 x.next, .slice x.waits.A x.waits.n x.waits.c]] rfl ?_
  refine c_seq ?_
  refine c_region ?_
  refine JL_run 2 [] [1] 1 ⟨[(1, .p 0 0)], [⟨52, [vI x.id, vI x.session, vI x.next, .v (.slice x.waits.A x.waits.n x.waits.c)]⟩]⟩ [] [] (by kernel_rfl) on wn ?_
  refine l_nil (q_then_normal ?_)
  refine c_seq ?_
  refine c_seq ?_
  refine c_region ?_
  refine JL_run 2 [] [7, 1] 1 ⟨[(7, vI x.id), (1, .p 0 0)], [⟨52, [vI x.id, vI x.session, vI x.next, .v (.slice x.waits.A x.waits.n x.waits.c)]⟩]⟩ [] [] (by kernel_rfl) on wn ?_
  refine l_pure 47 [] [vI x.id, vI 1, vI 9] (.bool (inB x.id 1 9)) Try.call47 rfl rfl rfl rfl (fun bs w hS => ref_In _ _ _ w) ?_
  refine JL_run 2 [] [10, 1] 1 ⟨[(10, vB (!(inB x.id 1 9))), (1, .p 0 0)], [⟨52, [vI x.id, vI x.session, vI x.next, .v (.slice x.waits.A x.waits.n x.waits.c)]⟩]⟩ [] [] (by kernel_rfl) on wn ?_
  cases h1 : inB x.id 1 9 with
  | true =>
    simp only [inB, Bool.and_eq_true, Bool.and_eq_false_iff, decide_eq_true_eq, decide_eq_false_iff_not] at h1
    refine JL_run 2 [] [12, 10, 1] 1 ⟨[(12, vI x.session), (10, vB false), (1, .p 0 0)], [⟨52, [vI x.id, vI x.session, vI x.next, .v (.slice x.waits.A x.waits.n x.waits.c)]⟩]⟩ [] [] (by kernel_rfl) on wn ?_
    refine l_pure 47 [] [vI x.session, vI 0, vI 1073741824] (.bool (inB x.session 0 1073741824)) Try.call47 rfl rfl rfl rfl (fun bs w hS => ref_In _ _ _ w) ?_
    refine JL_run 3 [] [16, 1] 1 ⟨[(16, vB (!(inB x.session 0 1073741824))), (1, .p 0 0)], [⟨52, [vI x.id, vI x.session, vI x.next, .v (.slice x.waits.A x.waits.n x.waits.c)]⟩]⟩ [] [] (by kernel_rfl) on wn ?_
    cases h2 : inB x.session 0 1073741824 with
    | true =>
      simp only [inB, Bool.and_eq_true, Bool.and_eq_false_iff, decide_eq_true_eq, decide_eq_false_iff_not] at h2
      refine JL_run 2 [] [18, 16, 1] 1 ⟨[(18, vI x.next), (16, vB false), (1, .p 0 0)], [⟨52, [vI x.id, vI x.session, vI x.next, .v (.slice x.waits.A x.waits.n x.waits.c)]⟩]⟩ [] [] (by kernel_rfl) on wn ?_
      refine l_pure 47 [] [vI x.next, vI 1, vI 1048577] (.bool (inB x.next 1 1048577)) Try.call47 rfl rfl rfl rfl (fun bs w hS => ref_In _ _ _ w) ?_
      refine JL_run 2 [] [21, 1] 1 ⟨[(21, vB (!(inB x.next 1 1048577))), (1, .p 0 0)], [⟨52, [vI x.id, vI x.session, vI x.next, .v (.slice x.waits.A x.waits.n x.waits.c)]⟩]⟩ [] [] (by kernel_rfl) on wn ?_
      refine l_nil (q_then_normal ?_)
      cases h3 : inB x.next 1 1048577 with
      | true =>
        simp only [inB, Bool.and_eq_true, Bool.and_eq_false_iff, decide_eq_true_eq, decide_eq_false_iff_not] at h3
        refine c_if false rfl ?_
        refine c_skip ?_
        refine q_then_normal ?_
        refine c_seq ?_
        refine c_seq ?_
        refine c_region ?_
        refine JL_run 5 [] [26, 1] 1 ⟨[(26, vB (decide ((4 : Int) < ((x.waits.n : Nat) : Int)))), (1, .p 0 0)], [⟨52, [vI x.id, vI x.session, vI x.next, .v (.slice x.waits.A x.waits.n x.waits.c)]⟩]⟩ [] [] (by kernel_rfl) on wn ?_
        cases h4 : decide ((4 : Int) < ((x.waits.n : Nat) : Int)) with
        | true =>
          have h4 := of_decide_eq_true h4
          refine JL_run 10 [] [36, 1] 1 ⟨[(36, vB true), (1, .p 0 0)], [⟨52, [vI x.id, vI x.session, vI x.next, .v (.slice x.waits.A x.waits.n x.waits.c)]⟩]⟩ [] [] (by kernel_rfl) on wn ?_
          refine l_nil (q_then_normal ?_)
          refine c_if true rfl ?_
          refine c_seq ?_
          refine c_region ?_
          refine JL_run 1 [] [2] 0 ⟨[(2, vI 9)], []⟩ [] [] (by kernel_rfl) on wn ?_
          refine l_nil (q_then_normal ?_)
          refine c_ret ?_
          refine q_then_ret (q_ret (.inl rfl) [vI 9] rfl (fun bs w hS => ?_))
          refine ⟨?_, hS.kp⟩
          simp only [retOf, den, List.map_cons, List.map_nil]
          have hm : mCust x.abs = 9 := by
            unfold mCust; simp only [ha1, ha2, ha3, ha4]; rw [if_neg (by omega), if_pos (by omega)]
          rw [hm]
        | false =>
          have h4 := of_decide_eq_false h4
          refine JL_run 5 [] [31, 26, 1] 1 ⟨[(31, vB (decide ((0 : Int) < ((x.waits.n : Nat) : Int)))), (26, vB false), (1, .p 0 0)], [⟨52, [vI x.id, vI x.session, vI x.next, .v (.slice x.waits.A x.waits.n x.waits.c)]⟩]⟩ [] [] (by kernel_rfl) on wn ?_
          cases h5 : decide ((0 : Int) < ((x.waits.n : Nat) : Int)) with
          | true =>
            have h5 := of_decide_eq_true h5
            refine JL_run 5 [] [36, 1] 1 ⟨[(36, vB (decide (x.session = 0))), (1, .p 0 0)], [⟨52, [vI x.id, vI x.session, vI x.next, .v (.slice x.waits.A x.waits.n x.waits.c)]⟩]⟩ [] [] (by kernel_rfl) on wn ?_
            refine l_nil (q_then_normal ?_)
            cases h6 : decide (x.session = 0) with
            | true =>
              have h6 := of_decide_eq_true h6
              refine c_if true rfl ?_
              refine c_seq ?_
              refine c_region ?_
              refine JL_run 1 [] [2] 0 ⟨[(2, vI 9)], []⟩ [] [] (by kernel_rfl) on wn ?_
              refine l_nil (q_then_normal ?_)
              refine c_ret ?_
              refine q_then_ret (q_ret (.inl rfl) [vI 9] rfl (fun bs w hS => ?_))
              refine ⟨?_, hS.kp⟩
              simp only [retOf, den, List.map_cons, List.map_nil]
              have hm : mCust x.abs = 9 := by
                unfold mCust; simp only [ha1, ha2, ha3, ha4]; rw [if_neg (by omega), if_pos (by omega)]
              rw [hm]
            | false =>
              have h6 := of_decide_eq_false h6
              refine c_if false rfl ?_
              refine c_skip ?_
              refine q_then_normal ?_
              refine c_seq ?_
              refine c_seq ?_
              refine c_region ?_
              refine JL_run 1 [] [3, 1] 1 ⟨[(3, vI 0), (1, .p 0 0)], [⟨52, [vI x.id, vI x.session, vI x.next, .v (.slice x.waits.A x.waits.n x.waits.c)]⟩]⟩ [] [] (by kernel_rfl) on wn ?_
              refine l_nil (q_then_normal ?_)
              refine c_block ?_
              refine c_loop (σ := Nat) (fun i => i ≤ x.waits.n ∧ mCust x.abs = firstF (custF x.abs) (x.waits.n - i) i ∧ (0 < i → 1 ≤ (x.waits.at 0).seq ∧ (x.waits.at 0).seq < x.next)) (fun i => x.waits.n - i) (fun i => []) (fun i => ⟨[(3, vI ((i : Nat) : Int)), (1, .p 0 0)], [⟨52, [vI x.id, vI x.session, vI x.next, .v (.slice x.waits.A x.waits.n x.waits.c)]⟩]⟩) 0 ⟨Nat.zero_le _, by unfold mCust; simp only [ha1, ha2, ha3, ha4]; rw [if_neg (by omega), if_neg (by omega)], fun h => absurd h (by omega)⟩ (s_start [3, 1] 1 (by kernel_rfl) rfl) ?_
              rintro i ⟨hi, hI, h0⟩
              have hz : i = 0 ∨ (0 < i ∧ 1 ≤ (x.waits.at 0).seq ∧ (x.waits.at 0).seq < x.next) := by rcases Nat.eq_zero_or_pos i with h | h; exact .inl h; exact .inr ⟨h, h0 h⟩
              have hz2 : i = 0 → (x.waits.at i).seq = (x.waits.at 0).seq := fun h => by rw [h]
              refine c_seq ?_
              refine c_seq ?_
              refine c_region ?_
              refine JL_run 5 [] [41, 3, 1] 1 ⟨[(41, vB (decide (((i : Nat) : Int) < ((x.waits.n : Nat) : Int)))), (3, vI ((i : Nat) : Int)), (1, .p 0 0)], [⟨52, [vI x.id, vI x.session, vI x.next, .v (.slice x.waits.A x.waits.n x.waits.c)]⟩]⟩ [] [] (by kernel_rfl) on wn ?_
              refine l_nil (q_then_normal ?_)
              cases h7 : decide (((i : Nat) : Int) < ((x.waits.n : Nat) : Int)) with
              | true =>
                have h7 := of_decide_eq_true h7
                refine c_if true rfl ?_
                refine c_skip ?_
                refine q_then_normal ?_
                refine c_seq ?_
                refine c_block ?_
                refine c_seq ?_
                refine c_region ?_
                refine JL_run 7 [(3, .idx x.waits.ad i), (4, .ext [.int .i64 (x.waits.at i).seq, .int .i64 (x.waits.at i).op.kind, .string (x.waits.at i).op.a, .string (x.waits.at i).op.b, .int .i64 (x.waits.at i).op.n])] [4, 3, 1] 2 ⟨[(4, .p 1 0), (3, vI ((i : Nat) : Int)), (1, .p 0 0)], [⟨52, [vI x.id, vI x.session, vI x.next, .v (.slice x.waits.A x.waits.n x.waits.c)]⟩, ⟨88, [vI (x.waits.at i).seq, vI (x.waits.at i).op.kind, vS (x.waits.at i).op.a, vS (x.waits.at i).op.b, vI (x.waits.at i).op.n]⟩]⟩ [x.waits.A = some x.waits.ad, ((i : Nat) : Int) = ((i : Nat) : Int), i < x.waits.n] [(x.waits.ad.add (i * 5), [.int .i64 (x.waits.at i).seq, .int .i64 (x.waits.at i).op.kind, .string (x.waits.at i).op.a, .string (x.waits.at i).op.b, .int .i64 (x.waits.at i).op.n])] (by kernel_rfl) (oc (Sl.ok.own (s := x.waits) (i := i) okx (by omega)) (oc rfl (oc (by omega) on))) (fun w hk hr => ⟨(Sl.rd.all (s := x.waits) (i := i) (Rds.kp hx hk) (by omega) rfl), trivial⟩) ?_
                refine l_nil (q_then_normal ?_)
                refine c_seq ?_
                refine c_seq ?_
                refine c_draw 34 [(0, false), (1, false), (2, false), (3, false), (4, false), (5, true), (6, false), (7, false), (8, false), (9, false), (10, false), (11, false), (12, false), (13, false), (14, false), (15, false), (16, false), (17, false), (18, false), (19, false), (20, false), (21, false), (22, false), (23, false), (24, false), (25, false), (26, false), (27, false), (28, false), (29, false), (30, false), (31, false), (32, false), (33, false)] [] [] Try_mixed (by kernel_rfl) (pq_then (pq_then (pq_block (pq_then (pq_then (pq_block (pq_then pq_body))))))) (List.Sublist.refl _) ?_
                refine h_quiet [] 5 [(53, vI (x.next - 1)), (52, vI x.next), (51, .p 0 2), (50, vI (x.waits.at i).seq), (49, .p 1 0), (4, .p 1 0), (3, vI ((i : Nat) : Int)), (1, .p 0 0)] [inR (x.next - 1)] [] rfl rfl (by kernel_rfl) (oc (by unfold inR; omega) on) wn ?_
                refine h_pure 47 [] [vI (x.waits.at i).seq, vI 1, vI (x.next - 1)] (.bool (inB (x.waits.at i).seq 1 (x.next - 1))) rfl Try.call47 rfl rfl rfl rfl (fun bs w hS => ref_In _ _ _ w) (fun bs0 bs w hp hl hS => hS.down hp hl rfl (le_same (le_same le_nil)) (List.Sublist.refl _)) ?_
                refine h_quiet [] 2 [(56, vB (!(inB (x.waits.at i).seq 1 (x.next - 1)))), (55, vB (!(inB (x.waits.at i).seq 1 (x.next - 1)))), (54, vB (inB (x.waits.at i).seq 1 (x.next - 1))), (53, vI (x.next - 1)), (52, vI x.next), (51, .p 0 2), (50, vI (x.waits.at i).seq), (49, .p 1 0), (4, .p 1 0), (3, vI ((i : Nat) : Int)), (1, .p 0 0)] [] [] rfl rfl (by kernel_rfl) on wn ?_
                cases h8 : inB (x.waits.at i).seq 1 (x.next - 1) with
                | true =>
                  simp only [inB, Bool.and_eq_true, Bool.and_eq_false_iff, decide_eq_true_eq, decide_eq_false_iff_not] at h8
                  refine h_quiet [(12, .idx x.waits.ad 0), (14, .ext [.int .i64 (x.waits.at 0).seq])] 11 [(67, vB (decide ((3 : Int) < (x.waits.at i).seq - (x.waits.at 0).seq))), (66, vB (decide ((3 : Int) < (x.waits.at i).seq - (x.waits.at 0).seq))), (65, vB (decide ((3 : Int) < (x.waits.at i).seq - (x.waits.at 0).seq))), (64, vI ((x.waits.at i).seq - (x.waits.at 0).seq)), (63, vI (x.waits.at 0).seq), (62, .v (.pointer (some ((x.waits.ad.add (0 * 5)).add 0)))), (61, .v (.pointer (some (x.waits.ad.add (0 * 5))))), (60, .v (.slice x.waits.A x.waits.n x.waits.c)), (59, .p 0 3), (58, vI (x.waits.at i).seq), (57, .p 1 0), (56, vB false), (55, vB false), (54, vB true), (53, vI (x.next - 1)), (52, vI x.next), (51, .p 0 2), (50, vI (x.waits.at i).seq), (49, .p 1 0), (4, .p 1 0), (3, vI ((i : Nat) : Int)), (1, .p 0 0)] [x.waits.A = some x.waits.ad, (0 : Int) = ((0 : Nat) : Int), 0 < x.waits.n, inR ((x.waits.at i).seq - (x.waits.at 0).seq)] [((x.waits.ad.add (0 * 5)).add 0, [.int .i64 (x.waits.at 0).seq])] rfl rfl (by kernel_rfl) (oc (Sl.ok.own (s := x.waits) (i := 0) okx (by omega)) (oc rfl (oc (by omega) (oc (by unfold inR; omega) on)))) (fun w hk hr => ⟨(Sl.rd.fld (s := x.waits) (i := 0) (Rds.kp hx hk) (by omega) 0 1 rfl), trivial⟩) ?_
                  cases h9 : decide ((3 : Int) < (x.waits.at i).seq - (x.waits.at 0).seq) with
                  | true =>
                    have h9 := of_decide_eq_true h9
                    refine h_quiet [] 15 [(82, vB true), (81, .v (undef)), (80, .v (undef)), (79, .v (undef)), (78, .v (undef)), (77, .v (undef)), (76, .v (undef)), (75, .v (undef)), (74, .v (undef)), (73, .v (undef)), (72, .v (undef)), (71, .v (undef)), (70, .v (undef)), (69, .v (undef)), (68, .v (undef)), (67, vB true), (66, vB true), (65, vB true), (64, vI ((x.waits.at i).seq - (x.waits.at 0).seq)), (63, vI (x.waits.at 0).seq), (62, .v (.pointer (some ((x.waits.ad.add (0 * 5)).add 0)))), (61, .v (.pointer (some (x.waits.ad.add (0 * 5))))), (60, .v (.slice x.waits.A x.waits.n x.waits.c)), (59, .p 0 3), (58, vI (x.waits.at i).seq), (57, .p 1 0), (56, vB false), (55, vB false), (54, vB true), (53, vI (x.next - 1)), (52, vI x.next), (51, .p 0 2), (50, vI (x.waits.at i).seq), (49, .p 1 0), (4, .p 1 0), (3, vI ((i : Nat) : Int)), (1, .p 0 0)] [] [] rfl rfl (by kernel_rfl) on wn ?_
                    refine h_nil ?_
                    refine l_nil (q_then_normal ?_)
                    refine c_if true rfl ?_
                    refine c_seq ?_
                    refine c_region ?_
                    refine JL_run 1 [] [2] 0 ⟨[(2, vI 9)], []⟩ [] [] (by kernel_rfl) on wn ?_
                    refine l_nil (q_then_normal ?_)
                    refine c_ret ?_
                    refine q_then_ret (q_block_ret (q_then_ret (q_then_ret (q_block_ret (q_then_ret (q_ret (.inl rfl) [vI 9] rfl (fun bs w hS => ?_)))))))
                    refine ⟨?_, hS.kp⟩
                    simp only [retOf, den, List.map_cons, List.map_nil]
                    have hf : custF x.abs i = 9 := by
                      unfold custF
                      simp only [hat, ha1, ha2, ha3, ha4]
                      first | (rw [if_pos (by omega)] <;> first | rfl | (exfalso; omega)) | (rw [if_neg (by omega)] <;> first | rfl | assumption | (exfalso; omega))
                    rw [hI, firstF_here (by omega) hf (by first | assumption | omega)]
                  | false =>
                    have h9 := of_decide_eq_false h9
                    refine h_quiet [] 3 [(70, vB (decide ((0 : Int) < ((i : Nat) : Int)))), (69, vB (decide ((0 : Int) < ((i : Nat) : Int)))), (68, vI ((i : Nat) : Int)), (67, vB false), (66, vB false), (65, vB false), (64, vI ((x.waits.at i).seq - (x.waits.at 0).seq)), (63, vI (x.waits.at 0).seq), (62, .v (.pointer (some ((x.waits.ad.add (0 * 5)).add 0)))), (61, .v (.pointer (some (x.waits.ad.add (0 * 5))))), (60, .v (.slice x.waits.A x.waits.n x.waits.c)), (59, .p 0 3), (58, vI (x.waits.at i).seq), (57, .p 1 0), (56, vB false), (55, vB false), (54, vB true), (53, vI (x.next - 1)), (52, vI x.next), (51, .p 0 2), (50, vI (x.waits.at i).seq), (49, .p 1 0), (4, .p 1 0), (3, vI ((i : Nat) : Int)), (1, .p 0 0)] [] [] rfl rfl (by kernel_rfl) on wn ?_
                    cases h10 : decide ((0 : Int) < ((i : Nat) : Int)) with
                    | true =>
                      have h10 := of_decide_eq_true h10
                      refine h_quiet [(28, .idx x.waits.ad (i - 1)), (30, .ext [.int .i64 (x.waits.at (i - 1)).seq])] 12 [(82, vB (decide ((x.waits.at i).seq ≤ (x.waits.at (i - 1)).seq))), (81, vB (decide ((x.waits.at i).seq ≤ (x.waits.at (i - 1)).seq))), (80, vB (decide ((x.waits.at i).seq ≤ (x.waits.at (i - 1)).seq))), (79, vI (x.waits.at (i - 1)).seq), (78, .v (.pointer (some ((x.waits.ad.add ((i - 1) * 5)).add 0)))), (77, .v (.pointer (some (x.waits.ad.add ((i - 1) * 5))))), (76, vI (((i : Nat) : Int) - 1)), (75, vI ((i : Nat) : Int)), (74, .v (.slice x.waits.A x.waits.n x.waits.c)), (73, .p 0 3), (72, vI (x.waits.at i).seq), (71, .p 1 0), (70, vB true), (69, vB true), (68, vI ((i : Nat) : Int)), (67, vB false), (66, vB false), (65, vB false), (64, vI ((x.waits.at i).seq - (x.waits.at 0).seq)), (63, vI (x.waits.at 0).seq), (62, .v (.pointer (some ((x.waits.ad.add (0 * 5)).add 0)))), (61, .v (.pointer (some (x.waits.ad.add (0 * 5))))), (60, .v (.slice x.waits.A x.waits.n x.waits.c)), (59, .p 0 3), (58, vI (x.waits.at i).seq), (57, .p 1 0), (56, vB false), (55, vB false), (54, vB true), (53, vI (x.next - 1)), (52, vI x.next), (51, .p 0 2), (50, vI (x.waits.at i).seq), (49, .p 1 0), (4, .p 1 0), (3, vI ((i : Nat) : Int)), (1, .p 0 0)] [inR (((i : Nat) : Int) - 1), x.waits.A = some x.waits.ad, ((i : Nat) : Int) - 1 = (((i - 1) : Nat) : Int), (i - 1) < x.waits.n] [((x.waits.ad.add ((i - 1) * 5)).add 0, [.int .i64 (x.waits.at (i - 1)).seq])] rfl rfl (by kernel_rfl) (oc (by unfold inR; omega) (oc (Sl.ok.own (s := x.waits) (i := (i - 1)) okx (by omega)) (oc (by omega) (oc (by omega) on)))) (fun w hk hr => ⟨(Sl.rd.fld (s := x.waits) (i := (i - 1)) (Rds.kp hx hk) (by omega) 0 1 rfl), trivial⟩) ?_
                      refine h_nil ?_
                      refine l_nil (q_then_normal ?_)
                      cases h11 : decide ((x.waits.at i).seq ≤ (x.waits.at (i - 1)).seq) with
                      | true =>
                        have h11 := of_decide_eq_true h11
                        refine c_if true rfl ?_
                        refine c_seq ?_
                        refine c_region ?_
                        refine JL_run 1 [] [2] 0 ⟨[(2, vI 9)], []⟩ [] [] (by kernel_rfl) on wn ?_
                        refine l_nil (q_then_normal ?_)
                        refine c_ret ?_
                        refine q_then_ret (q_block_ret (q_then_ret (q_then_ret (q_block_ret (q_then_ret (q_ret (.inl rfl) [vI 9] rfl (fun bs w hS => ?_)))))))
                        refine ⟨?_, hS.kp⟩
                        simp only [retOf, den, List.map_cons, List.map_nil]
                        have hf : custF x.abs i = 9 := by
                          unfold custF
                          simp only [hat, ha1, ha2, ha3, ha4]
                          first | (rw [if_pos (by omega)] <;> first | rfl | (exfalso; omega)) | (rw [if_neg (by omega)] <;> first | rfl | assumption | (exfalso; omega))
                        rw [hI, firstF_here (by omega) hf (by first | assumption | omega)]
                      | false =>
                        have h11 := of_decide_eq_false h11
                        refine c_if false rfl ?_
                        refine c_skip ?_
                        refine q_then_normal ?_
                        refine c_seq ?_
                        refine c_region ?_
                        refine JL_run 2 [] [84, 3, 1] 1 ⟨[(84, .v (.agg #[.int .i64 (x.waits.at i).op.kind, .string (x.waits.at i).op.a, .string (x.waits.at i).op.b, .int .i64 (x.waits.at i).op.n])), (3, vI ((i : Nat) : Int)), (1, .p 0 0)], [⟨52, [vI x.id, vI x.session, vI x.next, .v (.slice x.waits.A x.waits.n x.waits.c)]⟩]⟩ [] [] (by kernel_rfl) on wn ?_
                        refine l_pure 18 [] [.v (.agg #[.int .i64 (x.waits.at i).op.kind, .string (x.waits.at i).op.a, .string (x.waits.at i).op.b, .int .i64 (x.waits.at i).op.n])] (.int .i64 (mOp (x.waits.at i).op)) Try.call18 rfl rfl rfl rfl (fun bs w hS => ref_OpFault (B := anyB) (x.waits.at i).op w ⟨(And.left (Sl.ok.at (s := x.waits) (i := i) okx (by omega))), (And.right (Sl.ok.at (s := x.waits) (i := i) okx (by omega)))⟩) ?_
                        refine JL_run 1 [] [5, 3, 1] 1 ⟨[(5, vI (mOp (x.waits.at i).op)), (3, vI ((i : Nat) : Int)), (1, .p 0 0)], [⟨52, [vI x.id, vI x.session, vI x.next, .v (.slice x.waits.A x.waits.n x.waits.c)]⟩]⟩ [] [] (by kernel_rfl) on wn ?_
                        refine l_nil (q_then_normal ?_)
                        refine c_seq ?_
                        refine c_region ?_
                        refine JL_run 2 [] [87, 5, 3, 1] 1 ⟨[(87, vB (!(decide (mOp (x.waits.at i).op = 0)))), (5, vI (mOp (x.waits.at i).op)), (3, vI ((i : Nat) : Int)), (1, .p 0 0)], [⟨52, [vI x.id, vI x.session, vI x.next, .v (.slice x.waits.A x.waits.n x.waits.c)]⟩]⟩ [] [] (by kernel_rfl) on wn ?_
                        refine l_nil (q_then_normal ?_)
                        cases h12 : decide (mOp (x.waits.at i).op = 0) with
                        | true =>
                          have h12 := of_decide_eq_true h12
                          refine c_if false rfl ?_
                          refine c_skip ?_
                          refine q_block_normal (q_then_normal ?_)
                          refine c_region ?_
                          refine JL_run 3 [] [3, 1] 1 ⟨[(3, vI (((i : Nat) : Int) + 1)), (1, .p 0 0)], [⟨52, [vI x.id, vI x.session, vI x.next, .v (.slice x.waits.A x.waits.n x.waits.c)]⟩]⟩ [inR (((i : Nat) : Int) + 1)] [] (by kernel_rfl) (oc (by unfold inR; omega) on) wn ?_
                          have hf0 : custF x.abs i = 0 := by
                            unfold custF
                            simp only [hat, ha1, ha2, ha3, ha4]
                            first | (rw [if_pos (by omega)] <;> first | rfl | (exfalso; omega)) | (rw [if_neg (by omega)] <;> first | rfl | assumption | (exfalso; omega))
                          refine l_nil (q_loop (x := (i : Nat)) ((i + 1) : Nat) ⟨by omega, by rw [hI]; exact firstF_step (by omega) hf0, fun _ => by omega⟩ (by omega) (s_start [3, 1] 1 (by kernel_rfl) rfl))
                        | false =>
                          have h12 := of_decide_eq_false h12
                          refine c_if true rfl ?_
                          refine c_seq ?_
                          refine c_region ?_
                          refine JL_run 2 [] [2] 0 ⟨[(2, vI (mOp (x.waits.at i).op))], []⟩ [] [] (by kernel_rfl) on wn ?_
                          refine l_nil (q_then_normal ?_)
                          refine c_ret ?_
                          refine q_block_ret (q_then_ret (q_then_ret (q_block_ret (q_then_ret (q_ret (.inl rfl) [vI (mOp (x.waits.at i).op)] rfl (fun bs w hS => ?_))))))
                          refine ⟨?_, hS.kp⟩
                          simp only [retOf, den, List.map_cons, List.map_nil]
                          have hf : custF x.abs i = mOp (x.waits.at i).op := by
                            unfold custF
                            simp only [hat, ha1, ha2, ha3, ha4]
                            first | (rw [if_pos (by omega)] <;> first | rfl | (exfalso; omega)) | (rw [if_neg (by omega)] <;> first | rfl | assumption | (exfalso; omega))
                          rw [hI, firstF_here (by omega) hf (by first | assumption | omega)]
                    | false =>
                      have h10 := of_decide_eq_false h10
                      refine h_quiet [] 12 [(82, vB false), (81, vB false), (80, .v (undef)), (79, .v (undef)), (78, .v (undef)), (77, .v (undef)), (76, .v (undef)), (75, .v (undef)), (74, .v (undef)), (73, .v (undef)), (72, .v (undef)), (71, .v (undef)), (70, vB false), (69, vB false), (68, vI ((i : Nat) : Int)), (67, vB false), (66, vB false), (65, vB false), (64, vI ((x.waits.at i).seq - (x.waits.at 0).seq)), (63, vI (x.waits.at 0).seq), (62, .v (.pointer (some ((x.waits.ad.add (0 * 5)).add 0)))), (61, .v (.pointer (some (x.waits.ad.add (0 * 5))))), (60, .v (.slice x.waits.A x.waits.n x.waits.c)), (59, .p 0 3), (58, vI (x.waits.at i).seq), (57, .p 1 0), (56, vB false), (55, vB false), (54, vB true), (53, vI (x.next - 1)), (52, vI x.next), (51, .p 0 2), (50, vI (x.waits.at i).seq), (49, .p 1 0), (4, .p 1 0), (3, vI ((i : Nat) : Int)), (1, .p 0 0)] [] [] rfl rfl (by kernel_rfl) on wn ?_
                      refine h_nil ?_
                      refine l_nil (q_then_normal ?_)
                      refine c_if false rfl ?_
                      refine c_skip ?_
                      refine q_then_normal ?_
                      refine c_seq ?_
                      refine c_region ?_
                      refine JL_run 2 [] [84, 3, 1] 1 ⟨[(84, .v (.agg #[.int .i64 (x.waits.at i).op.kind, .string (x.waits.at i).op.a, .string (x.waits.at i).op.b, .int .i64 (x.waits.at i).op.n])), (3, vI ((i : Nat) : Int)), (1, .p 0 0)], [⟨52, [vI x.id, vI x.session, vI x.next, .v (.slice x.waits.A x.waits.n x.waits.c)]⟩]⟩ [] [] (by kernel_rfl) on wn ?_
                      refine l_pure 18 [] [.v (.agg #[.int .i64 (x.waits.at i).op.kind, .string (x.waits.at i).op.a, .string (x.waits.at i).op.b, .int .i64 (x.waits.at i).op.n])] (.int .i64 (mOp (x.waits.at i).op)) Try.call18 rfl rfl rfl rfl (fun bs w hS => ref_OpFault (B := anyB) (x.waits.at i).op w ⟨(And.left (Sl.ok.at (s := x.waits) (i := i) okx (by omega))), (And.right (Sl.ok.at (s := x.waits) (i := i) okx (by omega)))⟩) ?_
                      refine JL_run 1 [] [5, 3, 1] 1 ⟨[(5, vI (mOp (x.waits.at i).op)), (3, vI ((i : Nat) : Int)), (1, .p 0 0)], [⟨52, [vI x.id, vI x.session, vI x.next, .v (.slice x.waits.A x.waits.n x.waits.c)]⟩]⟩ [] [] (by kernel_rfl) on wn ?_
                      refine l_nil (q_then_normal ?_)
                      refine c_seq ?_
                      refine c_region ?_
                      refine JL_run 2 [] [87, 5, 3, 1] 1 ⟨[(87, vB (!(decide (mOp (x.waits.at i).op = 0)))), (5, vI (mOp (x.waits.at i).op)), (3, vI ((i : Nat) : Int)), (1, .p 0 0)], [⟨52, [vI x.id, vI x.session, vI x.next, .v (.slice x.waits.A x.waits.n x.waits.c)]⟩]⟩ [] [] (by kernel_rfl) on wn ?_
                      refine l_nil (q_then_normal ?_)
                      cases h13 : decide (mOp (x.waits.at i).op = 0) with
                      | true =>
                        have h13 := of_decide_eq_true h13
                        refine c_if false rfl ?_
                        refine c_skip ?_
                        refine q_block_normal (q_then_normal ?_)
                        refine c_region ?_
                        refine JL_run 3 [] [3, 1] 1 ⟨[(3, vI (((i : Nat) : Int) + 1)), (1, .p 0 0)], [⟨52, [vI x.id, vI x.session, vI x.next, .v (.slice x.waits.A x.waits.n x.waits.c)]⟩]⟩ [inR (((i : Nat) : Int) + 1)] [] (by kernel_rfl) (oc (by unfold inR; omega) on) wn ?_
                        have hf0 : custF x.abs i = 0 := by
                          unfold custF
                          simp only [hat, ha1, ha2, ha3, ha4]
                          first | (rw [if_pos (by omega)] <;> first | rfl | (exfalso; omega)) | (rw [if_neg (by omega)] <;> first | rfl | assumption | (exfalso; omega))
                        refine l_nil (q_loop (x := (i : Nat)) ((i + 1) : Nat) ⟨by omega, by rw [hI]; exact firstF_step (by omega) hf0, fun _ => by omega⟩ (by omega) (s_start [3, 1] 1 (by kernel_rfl) rfl))
                      | false =>
                        have h13 := of_decide_eq_false h13
                        refine c_if true rfl ?_
                        refine c_seq ?_
                        refine c_region ?_
                        refine JL_run 2 [] [2] 0 ⟨[(2, vI (mOp (x.waits.at i).op))], []⟩ [] [] (by kernel_rfl) on wn ?_
                        refine l_nil (q_then_normal ?_)
                        refine c_ret ?_
                        refine q_block_ret (q_then_ret (q_then_ret (q_block_ret (q_then_ret (q_ret (.inl rfl) [vI (mOp (x.waits.at i).op)] rfl (fun bs w hS => ?_))))))
                        refine ⟨?_, hS.kp⟩
                        simp only [retOf, den, List.map_cons, List.map_nil]
                        have hf : custF x.abs i = mOp (x.waits.at i).op := by
                          unfold custF
                          simp only [hat, ha1, ha2, ha3, ha4]
                          first | (rw [if_pos (by omega)] <;> first | rfl | (exfalso; omega)) | (rw [if_neg (by omega)] <;> first | rfl | assumption | (exfalso; omega))
                        rw [hI, firstF_here (by omega) hf (by first | assumption | omega)]
                | false =>
                  simp only [inB, Bool.and_eq_true, Bool.and_eq_false_iff, decide_eq_true_eq, decide_eq_false_iff_not] at h8
                  refine h_quiet [] 26 [(82, vB true), (81, .v (undef)), (80, .v (undef)), (79, .v (undef)), (78, .v (undef)), (77, .v (undef)), (76, .v (undef)), (75, .v (undef)), (74, .v (undef)), (73, .v (undef)), (72, .v (undef)), (71, .v (undef)), (70, .v (undef)), (69, .v (undef)), (68, .v (undef)), (67, vB true), (66, vB true), (65, .v (undef)), (64, .v (undef)), (63, .v (undef)), (62, .v (undef)), (61, .v (undef)), (60, .v (undef)), (59, .v (undef)), (58, .v (undef)), (57, .v (undef)), (56, vB true), (55, vB true), (54, vB false), (53, vI (x.next - 1)), (52, vI x.next), (51, .p 0 2), (50, vI (x.waits.at i).seq), (49, .p 1 0), (4, .p 1 0), (3, vI ((i : Nat) : Int)), (1, .p 0 0)] [] [] rfl rfl (by kernel_rfl) on wn ?_
                  refine h_nil ?_
                  refine l_nil (q_then_normal ?_)
                  refine c_if true rfl ?_
                  refine c_seq ?_
                  refine c_region ?_
                  refine JL_run 1 [] [2] 0 ⟨[(2, vI 9)], []⟩ [] [] (by kernel_rfl) on wn ?_
                  refine l_nil (q_then_normal ?_)
                  refine c_ret ?_
                  refine q_then_ret (q_block_ret (q_then_ret (q_then_ret (q_block_ret (q_then_ret (q_ret (.inl rfl) [vI 9] rfl (fun bs w hS => ?_)))))))
                  refine ⟨?_, hS.kp⟩
                  simp only [retOf, den, List.map_cons, List.map_nil]
                  have hf : custF x.abs i = 9 := by
                    unfold custF
                    simp only [hat, ha1, ha2, ha3, ha4]
                    first | (rw [if_pos (by omega)] <;> first | rfl | (exfalso; omega)) | (rw [if_neg (by omega)] <;> first | rfl | assumption | (exfalso; omega))
                  rw [hI, firstF_here (by omega) hf (by first | assumption | omega)]
              | false =>
                have h7 := of_decide_eq_false h7
                refine c_if false rfl ?_
                refine c_exit ?_
                refine q_then_exit (q_then_exit (q_block_hit (q_then_normal ?_)))
                refine c_seq ?_
                refine c_region ?_
                refine JL_run 1 [] [2] 0 ⟨[(2, vI 0)], []⟩ [] [] (by kernel_rfl) on wn ?_
                refine l_nil (q_then_normal ?_)
                refine c_ret ?_
                refine q_ret (.inl rfl) [vI 0] rfl (fun bs w hS => ?_)
                refine ⟨?_, hS.kp⟩
                simp only [retOf, den, List.map_cons, List.map_nil]
                rw [hI, firstF_end (by omega)]
          | false =>
            have h5 := of_decide_eq_false h5
            refine JL_run 5 [] [36, 1] 1 ⟨[(36, vB false), (1, .p 0 0)], [⟨52, [vI x.id, vI x.session, vI x.next, .v (.slice x.waits.A x.waits.n x.waits.c)]⟩]⟩ [] [] (by kernel_rfl) on wn ?_
            refine l_nil (q_then_normal ?_)
            refine c_if false rfl ?_
            refine c_skip ?_
            refine q_then_normal ?_
            refine c_seq ?_
            refine c_seq ?_
            refine c_region ?_
            refine JL_run 1 [] [3, 1] 1 ⟨[(3, vI 0), (1, .p 0 0)], [⟨52, [vI x.id, vI x.session, vI x.next, .v (.slice x.waits.A x.waits.n x.waits.c)]⟩]⟩ [] [] (by kernel_rfl) on wn ?_
            refine l_nil (q_then_normal ?_)
            refine c_block ?_
            refine c_loop (σ := Nat) (fun i => i ≤ x.waits.n ∧ mCust x.abs = firstF (custF x.abs) (x.waits.n - i) i ∧ (0 < i → 1 ≤ (x.waits.at 0).seq ∧ (x.waits.at 0).seq < x.next)) (fun i => x.waits.n - i) (fun i => []) (fun i => ⟨[(3, vI ((i : Nat) : Int)), (1, .p 0 0)], [⟨52, [vI x.id, vI x.session, vI x.next, .v (.slice x.waits.A x.waits.n x.waits.c)]⟩]⟩) 0 ⟨Nat.zero_le _, by unfold mCust; simp only [ha1, ha2, ha3, ha4]; rw [if_neg (by omega), if_neg (by omega)], fun h => absurd h (by omega)⟩ (s_start [3, 1] 1 (by kernel_rfl) rfl) ?_
            rintro i ⟨hi, hI, h0⟩
            have hz : i = 0 ∨ (0 < i ∧ 1 ≤ (x.waits.at 0).seq ∧ (x.waits.at 0).seq < x.next) := by rcases Nat.eq_zero_or_pos i with h | h; exact .inl h; exact .inr ⟨h, h0 h⟩
            have hz2 : i = 0 → (x.waits.at i).seq = (x.waits.at 0).seq := fun h => by rw [h]
            refine c_seq ?_
            refine c_seq ?_
            refine c_region ?_
            refine JL_run 5 [] [41, 3, 1] 1 ⟨[(41, vB (decide (((i : Nat) : Int) < ((x.waits.n : Nat) : Int)))), (3, vI ((i : Nat) : Int)), (1, .p 0 0)], [⟨52, [vI x.id, vI x.session, vI x.next, .v (.slice x.waits.A x.waits.n x.waits.c)]⟩]⟩ [] [] (by kernel_rfl) on wn ?_
            refine l_nil (q_then_normal ?_)
            cases h14 : decide (((i : Nat) : Int) < ((x.waits.n : Nat) : Int)) with
            | true =>
              have h14 := of_decide_eq_true h14
              refine c_if true rfl ?_
              refine c_skip ?_
              refine q_then_normal ?_
              refine c_seq ?_
              refine c_block ?_
              refine c_seq ?_
              refine c_region ?_
              refine JL_run 7 [(3, .idx x.waits.ad i), (4, .ext [.int .i64 (x.waits.at i).seq, .int .i64 (x.waits.at i).op.kind, .string (x.waits.at i).op.a, .string (x.waits.at i).op.b, .int .i64 (x.waits.at i).op.n])] [4, 3, 1] 2 ⟨[(4, .p 1 0), (3, vI ((i : Nat) : Int)), (1, .p 0 0)], [⟨52, [vI x.id, vI x.session, vI x.next, .v (.slice x.waits.A x.waits.n x.waits.c)]⟩, ⟨88, [vI (x.waits.at i).seq, vI (x.waits.at i).op.kind, vS (x.waits.at i).op.a, vS (x.waits.at i).op.b, vI (x.waits.at i).op.n]⟩]⟩ [x.waits.A = some x.waits.ad, ((i : Nat) : Int) = ((i : Nat) : Int), i < x.waits.n] [(x.waits.ad.add (i * 5), [.int .i64 (x.waits.at i).seq, .int .i64 (x.waits.at i).op.kind, .string (x.waits.at i).op.a, .string (x.waits.at i).op.b, .int .i64 (x.waits.at i).op.n])] (by kernel_rfl) (oc (Sl.ok.own (s := x.waits) (i := i) okx (by omega)) (oc rfl (oc (by omega) on))) (fun w hk hr => ⟨(Sl.rd.all (s := x.waits) (i := i) (Rds.kp hx hk) (by omega) rfl), trivial⟩) ?_
              refine l_nil (q_then_normal ?_)
              refine c_seq ?_
              refine c_seq ?_
              refine c_draw 34 [(0, false), (1, false), (2, false), (3, false), (4, false), (5, true), (6, false), (7, false), (8, false), (9, false), (10, false), (11, false), (12, false), (13, false), (14, false), (15, false), (16, false), (17, false), (18, false), (19, false), (20, false), (21, false), (22, false), (23, false), (24, false), (25, false), (26, false), (27, false), (28, false), (29, false), (30, false), (31, false), (32, false), (33, false)] [] [] Try_mixed (by kernel_rfl) (pq_then (pq_then (pq_block (pq_then (pq_then (pq_block (pq_then pq_body))))))) (List.Sublist.refl _) ?_
              refine h_quiet [] 5 [(53, vI (x.next - 1)), (52, vI x.next), (51, .p 0 2), (50, vI (x.waits.at i).seq), (49, .p 1 0), (4, .p 1 0), (3, vI ((i : Nat) : Int)), (1, .p 0 0)] [inR (x.next - 1)] [] rfl rfl (by kernel_rfl) (oc (by unfold inR; omega) on) wn ?_
              refine h_pure 47 [] [vI (x.waits.at i).seq, vI 1, vI (x.next - 1)] (.bool (inB (x.waits.at i).seq 1 (x.next - 1))) rfl Try.call47 rfl rfl rfl rfl (fun bs w hS => ref_In _ _ _ w) (fun bs0 bs w hp hl hS => hS.down hp hl rfl (le_same (le_same le_nil)) (List.Sublist.refl _)) ?_
              refine h_quiet [] 2 [(56, vB (!(inB (x.waits.at i).seq 1 (x.next - 1)))), (55, vB (!(inB (x.waits.at i).seq 1 (x.next - 1)))), (54, vB (inB (x.waits.at i).seq 1 (x.next - 1))), (53, vI (x.next - 1)), (52, vI x.next), (51, .p 0 2), (50, vI (x.waits.at i).seq), (49, .p 1 0), (4, .p 1 0), (3, vI ((i : Nat) : Int)), (1, .p 0 0)] [] [] rfl rfl (by kernel_rfl) on wn ?_
              cases h15 : inB (x.waits.at i).seq 1 (x.next - 1) with
              | true =>
                simp only [inB, Bool.and_eq_true, Bool.and_eq_false_iff, decide_eq_true_eq, decide_eq_false_iff_not] at h15
                refine h_quiet [(12, .idx x.waits.ad 0), (14, .ext [.int .i64 (x.waits.at 0).seq])] 11 [(67, vB (decide ((3 : Int) < (x.waits.at i).seq - (x.waits.at 0).seq))), (66, vB (decide ((3 : Int) < (x.waits.at i).seq - (x.waits.at 0).seq))), (65, vB (decide ((3 : Int) < (x.waits.at i).seq - (x.waits.at 0).seq))), (64, vI ((x.waits.at i).seq - (x.waits.at 0).seq)), (63, vI (x.waits.at 0).seq), (62, .v (.pointer (some ((x.waits.ad.add (0 * 5)).add 0)))), (61, .v (.pointer (some (x.waits.ad.add (0 * 5))))), (60, .v (.slice x.waits.A x.waits.n x.waits.c)), (59, .p 0 3), (58, vI (x.waits.at i).seq), (57, .p 1 0), (56, vB false), (55, vB false), (54, vB true), (53, vI (x.next - 1)), (52, vI x.next), (51, .p 0 2), (50, vI (x.waits.at i).seq), (49, .p 1 0), (4, .p 1 0), (3, vI ((i : Nat) : Int)), (1, .p 0 0)] [x.waits.A = some x.waits.ad, (0 : Int) = ((0 : Nat) : Int), 0 < x.waits.n, inR ((x.waits.at i).seq - (x.waits.at 0).seq)] [((x.waits.ad.add (0 * 5)).add 0, [.int .i64 (x.waits.at 0).seq])] rfl rfl (by kernel_rfl) (oc (Sl.ok.own (s := x.waits) (i := 0) okx (by omega)) (oc rfl (oc (by omega) (oc (by unfold inR; omega) on)))) (fun w hk hr => ⟨(Sl.rd.fld (s := x.waits) (i := 0) (Rds.kp hx hk) (by omega) 0 1 rfl), trivial⟩) ?_
                cases h16 : decide ((3 : Int) < (x.waits.at i).seq - (x.waits.at 0).seq) with
                | true =>
                  have h16 := of_decide_eq_true h16
                  refine h_quiet [] 15 [(82, vB true), (81, .v (undef)), (80, .v (undef)), (79, .v (undef)), (78, .v (undef)), (77, .v (undef)), (76, .v (undef)), (75, .v (undef)), (74, .v (undef)), (73, .v (undef)), (72, .v (undef)), (71, .v (undef)), (70, .v (undef)), (69, .v (undef)), (68, .v (undef)), (67, vB true), (66, vB true), (65, vB true), (64, vI ((x.waits.at i).seq - (x.waits.at 0).seq)), (63, vI (x.waits.at 0).seq), (62, .v (.pointer (some ((x.waits.ad.add (0 * 5)).add 0)))), (61, .v (.pointer (some (x.waits.ad.add (0 * 5))))), (60, .v (.slice x.waits.A x.waits.n x.waits.c)), (59, .p 0 3), (58, vI (x.waits.at i).seq), (57, .p 1 0), (56, vB false), (55, vB false), (54, vB true), (53, vI (x.next - 1)), (52, vI x.next), (51, .p 0 2), (50, vI (x.waits.at i).seq), (49, .p 1 0), (4, .p 1 0), (3, vI ((i : Nat) : Int)), (1, .p 0 0)] [] [] rfl rfl (by kernel_rfl) on wn ?_
                  refine h_nil ?_
                  refine l_nil (q_then_normal ?_)
                  refine c_if true rfl ?_
                  refine c_seq ?_
                  refine c_region ?_
                  refine JL_run 1 [] [2] 0 ⟨[(2, vI 9)], []⟩ [] [] (by kernel_rfl) on wn ?_
                  refine l_nil (q_then_normal ?_)
                  refine c_ret ?_
                  refine q_then_ret (q_block_ret (q_then_ret (q_then_ret (q_block_ret (q_then_ret (q_ret (.inl rfl) [vI 9] rfl (fun bs w hS => ?_)))))))
                  refine ⟨?_, hS.kp⟩
                  simp only [retOf, den, List.map_cons, List.map_nil]
                  have hf : custF x.abs i = 9 := by
                    unfold custF
                    simp only [hat, ha1, ha2, ha3, ha4]
                    first | (rw [if_pos (by omega)] <;> first | rfl | (exfalso; omega)) | (rw [if_neg (by omega)] <;> first | rfl | assumption | (exfalso; omega))
                  rw [hI, firstF_here (by omega) hf (by first | assumption | omega)]
                | false =>
                  have h16 := of_decide_eq_false h16
                  refine h_quiet [] 3 [(70, vB (decide ((0 : Int) < ((i : Nat) : Int)))), (69, vB (decide ((0 : Int) < ((i : Nat) : Int)))), (68, vI ((i : Nat) : Int)), (67, vB false), (66, vB false), (65, vB false), (64, vI ((x.waits.at i).seq - (x.waits.at 0).seq)), (63, vI (x.waits.at 0).seq), (62, .v (.pointer (some ((x.waits.ad.add (0 * 5)).add 0)))), (61, .v (.pointer (some (x.waits.ad.add (0 * 5))))), (60, .v (.slice x.waits.A x.waits.n x.waits.c)), (59, .p 0 3), (58, vI (x.waits.at i).seq), (57, .p 1 0), (56, vB false), (55, vB false), (54, vB true), (53, vI (x.next - 1)), (52, vI x.next), (51, .p 0 2), (50, vI (x.waits.at i).seq), (49, .p 1 0), (4, .p 1 0), (3, vI ((i : Nat) : Int)), (1, .p 0 0)] [] [] rfl rfl (by kernel_rfl) on wn ?_
                  cases h17 : decide ((0 : Int) < ((i : Nat) : Int)) with
                  | true =>
                    have h17 := of_decide_eq_true h17
                    refine h_quiet [(28, .idx x.waits.ad (i - 1)), (30, .ext [.int .i64 (x.waits.at (i - 1)).seq])] 12 [(82, vB (decide ((x.waits.at i).seq ≤ (x.waits.at (i - 1)).seq))), (81, vB (decide ((x.waits.at i).seq ≤ (x.waits.at (i - 1)).seq))), (80, vB (decide ((x.waits.at i).seq ≤ (x.waits.at (i - 1)).seq))), (79, vI (x.waits.at (i - 1)).seq), (78, .v (.pointer (some ((x.waits.ad.add ((i - 1) * 5)).add 0)))), (77, .v (.pointer (some (x.waits.ad.add ((i - 1) * 5))))), (76, vI (((i : Nat) : Int) - 1)), (75, vI ((i : Nat) : Int)), (74, .v (.slice x.waits.A x.waits.n x.waits.c)), (73, .p 0 3), (72, vI (x.waits.at i).seq), (71, .p 1 0), (70, vB true), (69, vB true), (68, vI ((i : Nat) : Int)), (67, vB false), (66, vB false), (65, vB false), (64, vI ((x.waits.at i).seq - (x.waits.at 0).seq)), (63, vI (x.waits.at 0).seq), (62, .v (.pointer (some ((x.waits.ad.add (0 * 5)).add 0)))), (61, .v (.pointer (some (x.waits.ad.add (0 * 5))))), (60, .v (.slice x.waits.A x.waits.n x.waits.c)), (59, .p 0 3), (58, vI (x.waits.at i).seq), (57, .p 1 0), (56, vB false), (55, vB false), (54, vB true), (53, vI (x.next - 1)), (52, vI x.next), (51, .p 0 2), (50, vI (x.waits.at i).seq), (49, .p 1 0), (4, .p 1 0), (3, vI ((i : Nat) : Int)), (1, .p 0 0)] [inR (((i : Nat) : Int) - 1), x.waits.A = some x.waits.ad, ((i : Nat) : Int) - 1 = (((i - 1) : Nat) : Int), (i - 1) < x.waits.n] [((x.waits.ad.add ((i - 1) * 5)).add 0, [.int .i64 (x.waits.at (i - 1)).seq])] rfl rfl (by kernel_rfl) (oc (by unfold inR; omega) (oc (Sl.ok.own (s := x.waits) (i := (i - 1)) okx (by omega)) (oc (by omega) (oc (by omega) on)))) (fun w hk hr => ⟨(Sl.rd.fld (s := x.waits) (i := (i - 1)) (Rds.kp hx hk) (by omega) 0 1 rfl), trivial⟩) ?_
                    refine h_nil ?_
                    refine l_nil (q_then_normal ?_)
                    cases h18 : decide ((x.waits.at i).seq ≤ (x.waits.at (i - 1)).seq) with
                    | true =>
                      have h18 := of_decide_eq_true h18
                      refine c_if true rfl ?_
                      refine c_seq ?_
                      refine c_region ?_
                      refine JL_run 1 [] [2] 0 ⟨[(2, vI 9)], []⟩ [] [] (by kernel_rfl) on wn ?_
                      refine l_nil (q_then_normal ?_)
                      refine c_ret ?_
                      refine q_then_ret (q_block_ret (q_then_ret (q_then_ret (q_block_ret (q_then_ret (q_ret (.inl rfl) [vI 9] rfl (fun bs w hS => ?_)))))))
                      refine ⟨?_, hS.kp⟩
                      simp only [retOf, den, List.map_cons, List.map_nil]
                      have hf : custF x.abs i = 9 := by
                        unfold custF
                        simp only [hat, ha1, ha2, ha3, ha4]
                        first | (rw [if_pos (by omega)] <;> first | rfl | (exfalso; omega)) | (rw [if_neg (by omega)] <;> first | rfl | assumption | (exfalso; omega))
                      rw [hI, firstF_here (by omega) hf (by first | assumption | omega)]
                    | false =>
                      have h18 := of_decide_eq_false h18
                      refine c_if false rfl ?_
                      refine c_skip ?_
                      refine q_then_normal ?_
                      refine c_seq ?_
                      refine c_region ?_
                      refine JL_run 2 [] [84, 3, 1] 1 ⟨[(84, .v (.agg #[.int .i64 (x.waits.at i).op.kind, .string (x.waits.at i).op.a, .string (x.waits.at i).op.b, .int .i64 (x.waits.at i).op.n])), (3, vI ((i : Nat) : Int)), (1, .p 0 0)], [⟨52, [vI x.id, vI x.session, vI x.next, .v (.slice x.waits.A x.waits.n x.waits.c)]⟩]⟩ [] [] (by kernel_rfl) on wn ?_
                      refine l_pure 18 [] [.v (.agg #[.int .i64 (x.waits.at i).op.kind, .string (x.waits.at i).op.a, .string (x.waits.at i).op.b, .int .i64 (x.waits.at i).op.n])] (.int .i64 (mOp (x.waits.at i).op)) Try.call18 rfl rfl rfl rfl (fun bs w hS => ref_OpFault (B := anyB) (x.waits.at i).op w ⟨(And.left (Sl.ok.at (s := x.waits) (i := i) okx (by omega))), (And.right (Sl.ok.at (s := x.waits) (i := i) okx (by omega)))⟩) ?_
                      refine JL_run 1 [] [5, 3, 1] 1 ⟨[(5, vI (mOp (x.waits.at i).op)), (3, vI ((i : Nat) : Int)), (1, .p 0 0)], [⟨52, [vI x.id, vI x.session, vI x.next, .v (.slice x.waits.A x.waits.n x.waits.c)]⟩]⟩ [] [] (by kernel_rfl) on wn ?_
                      refine l_nil (q_then_normal ?_)
                      refine c_seq ?_
                      refine c_region ?_
                      refine JL_run 2 [] [87, 5, 3, 1] 1 ⟨[(87, vB (!(decide (mOp (x.waits.at i).op = 0)))), (5, vI (mOp (x.waits.at i).op)), (3, vI ((i : Nat) : Int)), (1, .p 0 0)], [⟨52, [vI x.id, vI x.session, vI x.next, .v (.slice x.waits.A x.waits.n x.waits.c)]⟩]⟩ [] [] (by kernel_rfl) on wn ?_
                      refine l_nil (q_then_normal ?_)
                      cases h19 : decide (mOp (x.waits.at i).op = 0) with
                      | true =>
                        have h19 := of_decide_eq_true h19
                        refine c_if false rfl ?_
                        refine c_skip ?_
                        refine q_block_normal (q_then_normal ?_)
                        refine c_region ?_
                        refine JL_run 3 [] [3, 1] 1 ⟨[(3, vI (((i : Nat) : Int) + 1)), (1, .p 0 0)], [⟨52, [vI x.id, vI x.session, vI x.next, .v (.slice x.waits.A x.waits.n x.waits.c)]⟩]⟩ [inR (((i : Nat) : Int) + 1)] [] (by kernel_rfl) (oc (by unfold inR; omega) on) wn ?_
                        have hf0 : custF x.abs i = 0 := by
                          unfold custF
                          simp only [hat, ha1, ha2, ha3, ha4]
                          first | (rw [if_pos (by omega)] <;> first | rfl | (exfalso; omega)) | (rw [if_neg (by omega)] <;> first | rfl | assumption | (exfalso; omega))
                        refine l_nil (q_loop (x := (i : Nat)) ((i + 1) : Nat) ⟨by omega, by rw [hI]; exact firstF_step (by omega) hf0, fun _ => by omega⟩ (by omega) (s_start [3, 1] 1 (by kernel_rfl) rfl))
                      | false =>
                        have h19 := of_decide_eq_false h19
                        refine c_if true rfl ?_
                        refine c_seq ?_
                        refine c_region ?_
                        refine JL_run 2 [] [2] 0 ⟨[(2, vI (mOp (x.waits.at i).op))], []⟩ [] [] (by kernel_rfl) on wn ?_
                        refine l_nil (q_then_normal ?_)
                        refine c_ret ?_
                        refine q_block_ret (q_then_ret (q_then_ret (q_block_ret (q_then_ret (q_ret (.inl rfl) [vI (mOp (x.waits.at i).op)] rfl (fun bs w hS => ?_))))))
                        refine ⟨?_, hS.kp⟩
                        simp only [retOf, den, List.map_cons, List.map_nil]
                        have hf : custF x.abs i = mOp (x.waits.at i).op := by
                          unfold custF
                          simp only [hat, ha1, ha2, ha3, ha4]
                          first | (rw [if_pos (by omega)] <;> first | rfl | (exfalso; omega)) | (rw [if_neg (by omega)] <;> first | rfl | assumption | (exfalso; omega))
                        rw [hI, firstF_here (by omega) hf (by first | assumption | omega)]
                  | false =>
                    have h17 := of_decide_eq_false h17
                    refine h_quiet [] 12 [(82, vB false), (81, vB false), (80, .v (undef)), (79, .v (undef)), (78, .v (undef)), (77, .v (undef)), (76, .v (undef)), (75, .v (undef)), (74, .v (undef)), (73, .v (undef)), (72, .v (undef)), (71, .v (undef)), (70, vB false), (69, vB false), (68, vI ((i : Nat) : Int)), (67, vB false), (66, vB false), (65, vB false), (64, vI ((x.waits.at i).seq - (x.waits.at 0).seq)), (63, vI (x.waits.at 0).seq), (62, .v (.pointer (some ((x.waits.ad.add (0 * 5)).add 0)))), (61, .v (.pointer (some (x.waits.ad.add (0 * 5))))), (60, .v (.slice x.waits.A x.waits.n x.waits.c)), (59, .p 0 3), (58, vI (x.waits.at i).seq), (57, .p 1 0), (56, vB false), (55, vB false), (54, vB true), (53, vI (x.next - 1)), (52, vI x.next), (51, .p 0 2), (50, vI (x.waits.at i).seq), (49, .p 1 0), (4, .p 1 0), (3, vI ((i : Nat) : Int)), (1, .p 0 0)] [] [] rfl rfl (by kernel_rfl) on wn ?_
                    refine h_nil ?_
                    refine l_nil (q_then_normal ?_)
                    refine c_if false rfl ?_
                    refine c_skip ?_
                    refine q_then_normal ?_
                    refine c_seq ?_
                    refine c_region ?_
                    refine JL_run 2 [] [84, 3, 1] 1 ⟨[(84, .v (.agg #[.int .i64 (x.waits.at i).op.kind, .string (x.waits.at i).op.a, .string (x.waits.at i).op.b, .int .i64 (x.waits.at i).op.n])), (3, vI ((i : Nat) : Int)), (1, .p 0 0)], [⟨52, [vI x.id, vI x.session, vI x.next, .v (.slice x.waits.A x.waits.n x.waits.c)]⟩]⟩ [] [] (by kernel_rfl) on wn ?_
                    refine l_pure 18 [] [.v (.agg #[.int .i64 (x.waits.at i).op.kind, .string (x.waits.at i).op.a, .string (x.waits.at i).op.b, .int .i64 (x.waits.at i).op.n])] (.int .i64 (mOp (x.waits.at i).op)) Try.call18 rfl rfl rfl rfl (fun bs w hS => ref_OpFault (B := anyB) (x.waits.at i).op w ⟨(And.left (Sl.ok.at (s := x.waits) (i := i) okx (by omega))), (And.right (Sl.ok.at (s := x.waits) (i := i) okx (by omega)))⟩) ?_
                    refine JL_run 1 [] [5, 3, 1] 1 ⟨[(5, vI (mOp (x.waits.at i).op)), (3, vI ((i : Nat) : Int)), (1, .p 0 0)], [⟨52, [vI x.id, vI x.session, vI x.next, .v (.slice x.waits.A x.waits.n x.waits.c)]⟩]⟩ [] [] (by kernel_rfl) on wn ?_
                    refine l_nil (q_then_normal ?_)
                    refine c_seq ?_
                    refine c_region ?_
                    refine JL_run 2 [] [87, 5, 3, 1] 1 ⟨[(87, vB (!(decide (mOp (x.waits.at i).op = 0)))), (5, vI (mOp (x.waits.at i).op)), (3, vI ((i : Nat) : Int)), (1, .p 0 0)], [⟨52, [vI x.id, vI x.session, vI x.next, .v (.slice x.waits.A x.waits.n x.waits.c)]⟩]⟩ [] [] (by kernel_rfl) on wn ?_
                    refine l_nil (q_then_normal ?_)
                    cases h20 : decide (mOp (x.waits.at i).op = 0) with
                    | true =>
                      have h20 := of_decide_eq_true h20
                      refine c_if false rfl ?_
                      refine c_skip ?_
                      refine q_block_normal (q_then_normal ?_)
                      refine c_region ?_
                      refine JL_run 3 [] [3, 1] 1 ⟨[(3, vI (((i : Nat) : Int) + 1)), (1, .p 0 0)], [⟨52, [vI x.id, vI x.session, vI x.next, .v (.slice x.waits.A x.waits.n x.waits.c)]⟩]⟩ [inR (((i : Nat) : Int) + 1)] [] (by kernel_rfl) (oc (by unfold inR; omega) on) wn ?_
                      have hf0 : custF x.abs i = 0 := by
                        unfold custF
                        simp only [hat, ha1, ha2, ha3, ha4]
                        first | (rw [if_pos (by omega)] <;> first | rfl | (exfalso; omega)) | (rw [if_neg (by omega)] <;> first | rfl | assumption | (exfalso; omega))
                      refine l_nil (q_loop (x := (i : Nat)) ((i + 1) : Nat) ⟨by omega, by rw [hI]; exact firstF_step (by omega) hf0, fun _ => by omega⟩ (by omega) (s_start [3, 1] 1 (by kernel_rfl) rfl))
                    | false =>
                      have h20 := of_decide_eq_false h20
                      refine c_if true rfl ?_
                      refine c_seq ?_
                      refine c_region ?_
                      refine JL_run 2 [] [2] 0 ⟨[(2, vI (mOp (x.waits.at i).op))], []⟩ [] [] (by kernel_rfl) on wn ?_
                      refine l_nil (q_then_normal ?_)
                      refine c_ret ?_
                      refine q_block_ret (q_then_ret (q_then_ret (q_block_ret (q_then_ret (q_ret (.inl rfl) [vI (mOp (x.waits.at i).op)] rfl (fun bs w hS => ?_))))))
                      refine ⟨?_, hS.kp⟩
                      simp only [retOf, den, List.map_cons, List.map_nil]
                      have hf : custF x.abs i = mOp (x.waits.at i).op := by
                        unfold custF
                        simp only [hat, ha1, ha2, ha3, ha4]
                        first | (rw [if_pos (by omega)] <;> first | rfl | (exfalso; omega)) | (rw [if_neg (by omega)] <;> first | rfl | assumption | (exfalso; omega))
                      rw [hI, firstF_here (by omega) hf (by first | assumption | omega)]
              | false =>
                simp only [inB, Bool.and_eq_true, Bool.and_eq_false_iff, decide_eq_true_eq, decide_eq_false_iff_not] at h15
                refine h_quiet [] 26 [(82, vB true), (81, .v (undef)), (80, .v (undef)), (79, .v (undef)), (78, .v (undef)), (77, .v (undef)), (76, .v (undef)), (75, .v (undef)), (74, .v (undef)), (73, .v (undef)), (72, .v (undef)), (71, .v (undef)), (70, .v (undef)), (69, .v (undef)), (68, .v (undef)), (67, vB true), (66, vB true), (65, .v (undef)), (64, .v (undef)), (63, .v (undef)), (62, .v (undef)), (61, .v (undef)), (60, .v (undef)), (59, .v (undef)), (58, .v (undef)), (57, .v (undef)), (56, vB true), (55, vB true), (54, vB false), (53, vI (x.next - 1)), (52, vI x.next), (51, .p 0 2), (50, vI (x.waits.at i).seq), (49, .p 1 0), (4, .p 1 0), (3, vI ((i : Nat) : Int)), (1, .p 0 0)] [] [] rfl rfl (by kernel_rfl) on wn ?_
                refine h_nil ?_
                refine l_nil (q_then_normal ?_)
                refine c_if true rfl ?_
                refine c_seq ?_
                refine c_region ?_
                refine JL_run 1 [] [2] 0 ⟨[(2, vI 9)], []⟩ [] [] (by kernel_rfl) on wn ?_
                refine l_nil (q_then_normal ?_)
                refine c_ret ?_
                refine q_then_ret (q_block_ret (q_then_ret (q_then_ret (q_block_ret (q_then_ret (q_ret (.inl rfl) [vI 9] rfl (fun bs w hS => ?_)))))))
                refine ⟨?_, hS.kp⟩
                simp only [retOf, den, List.map_cons, List.map_nil]
                have hf : custF x.abs i = 9 := by
                  unfold custF
                  simp only [hat, ha1, ha2, ha3, ha4]
                  first | (rw [if_pos (by omega)] <;> first | rfl | (exfalso; omega)) | (rw [if_neg (by omega)] <;> first | rfl | assumption | (exfalso; omega))
                rw [hI, firstF_here (by omega) hf (by first | assumption | omega)]
            | false =>
              have h14 := of_decide_eq_false h14
              refine c_if false rfl ?_
              refine c_exit ?_
              refine q_then_exit (q_then_exit (q_block_hit (q_then_normal ?_)))
              refine c_seq ?_
              refine c_region ?_
              refine JL_run 1 [] [2] 0 ⟨[(2, vI 0)], []⟩ [] [] (by kernel_rfl) on wn ?_
              refine l_nil (q_then_normal ?_)
              refine c_ret ?_
              refine q_ret (.inl rfl) [vI 0] rfl (fun bs w hS => ?_)
              refine ⟨?_, hS.kp⟩
              simp only [retOf, den, List.map_cons, List.map_nil]
              rw [hI, firstF_end (by omega)]
      | false =>
        simp only [inB, Bool.and_eq_true, Bool.and_eq_false_iff, decide_eq_true_eq, decide_eq_false_iff_not] at h3
        refine c_if true rfl ?_
        refine c_seq ?_
        refine c_region ?_
        refine JL_run 1 [] [2] 0 ⟨[(2, vI 2)], []⟩ [] [] (by kernel_rfl) on wn ?_
        refine l_nil (q_then_normal ?_)
        refine c_ret ?_
        refine q_then_ret (q_ret (.inl rfl) [vI 2] rfl (fun bs w hS => ?_))
        refine ⟨?_, hS.kp⟩
        simp only [retOf, den, List.map_cons, List.map_nil]
        have hm : mCust x.abs = 2 := by
          unfold mCust; simp only [ha1, ha2, ha3, ha4]; rw [if_pos (by omega)]
        rw [hm]
    | false =>
      simp only [inB, Bool.and_eq_true, Bool.and_eq_false_iff, decide_eq_true_eq, decide_eq_false_iff_not] at h2
      refine JL_run 5 [] [21, 1] 1 ⟨[(21, vB true), (1, .p 0 0)], [⟨52, [vI x.id, vI x.session, vI x.next, .v (.slice x.waits.A x.waits.n x.waits.c)]⟩]⟩ [] [] (by kernel_rfl) on wn ?_
      refine l_nil (q_then_normal ?_)
      refine c_if true rfl ?_
      refine c_seq ?_
      refine c_region ?_
      refine JL_run 1 [] [2] 0 ⟨[(2, vI 2)], []⟩ [] [] (by kernel_rfl) on wn ?_
      refine l_nil (q_then_normal ?_)
      refine c_ret ?_
      refine q_then_ret (q_ret (.inl rfl) [vI 2] rfl (fun bs w hS => ?_))
      refine ⟨?_, hS.kp⟩
      simp only [retOf, den, List.map_cons, List.map_nil]
      have hm : mCust x.abs = 2 := by
        unfold mCust; simp only [ha1, ha2, ha3, ha4]; rw [if_pos (by omega)]
      rw [hm]
  | false =>
    simp only [inB, Bool.and_eq_true, Bool.and_eq_false_iff, decide_eq_true_eq, decide_eq_false_iff_not] at h1
    refine JL_run 11 [] [21, 1] 1 ⟨[(21, vB true), (1, .p 0 0)], [⟨52, [vI x.id, vI x.session, vI x.next, .v (.slice x.waits.A x.waits.n x.waits.c)]⟩]⟩ [] [] (by kernel_rfl) on wn ?_
    refine l_nil (q_then_normal ?_)
    refine c_if true rfl ?_
    refine c_seq ?_
    refine c_region ?_
    refine JL_run 1 [] [2] 0 ⟨[(2, vI 2)], []⟩ [] [] (by kernel_rfl) on wn ?_
    refine l_nil (q_then_normal ?_)
    refine c_ret ?_
    refine q_then_ret (q_ret (.inl rfl) [vI 2] rfl (fun bs w hS => ?_))
    refine ⟨?_, hS.kp⟩
    simp only [retOf, den, List.map_cons, List.map_nil]
    have hm : mCust x.abs = 2 := by
      unfold mCust; simp only [ha1, ha2, ha3, ha4]; rw [if_pos (by omega)]
    rw [hm]

theorem law_CustomerChecks {B : Nat → Prop} (x : CCustomer) (w : World) (hx : Rds.sub B w x) : Calls Try.prog 9 #[.agg #[.int .i64 x.id, .int .i64 x.session, .int .i64 x.next, .slice x.waits.A x.waits.n x.waits.c]] w fun e w' => e = .returned (.bool true) ∧ Kp [] w w' := by
  have okx := Rds.okof hx
  refine calls_J0 12 Try.func9 rfl rfl [.agg #[.int .i64 x.id, .int .i64 x.session, .int .i64 x.next, .slice x.waits.A x.waits.n x.waits.c]] rfl ?_
  refine c_seq ?_
  refine c_region ?_
  refine JL_run 2 [] [1] 1 ⟨[(1, .p 0 0)], [⟨52, [vI x.id, vI x.session, vI x.next, .v (.slice x.waits.A x.waits.n x.waits.c)]⟩]⟩ [] [] (by kernel_rfl) on wn ?_
  refine l_nil (q_then_normal ?_)
  refine c_seq ?_
  refine c_region ?_
  refine JL_run 1 [] [5, 1] 1 ⟨[(5, .v (.agg #[.int .i64 x.id, .int .i64 x.session, .int .i64 x.next, .slice x.waits.A x.waits.n x.waits.c])), (1, .p 0 0)], [⟨52, [vI x.id, vI x.session, vI x.next, .v (.slice x.waits.A x.waits.n x.waits.c)]⟩]⟩ [] [] (by kernel_rfl) on wn ?_
  refine l_pure 27 [] [.v (.agg #[.int .i64 x.id, .int .i64 x.session, .int .i64 x.next, .slice x.waits.A x.waits.n x.waits.c])] (.int .i64 (mCust x.abs)) Try.call27 rfl rfl rfl rfl (fun bs w hS => customer_Check x w (Rds.kp hx hS.kp)) ?_
  refine JL_run 1 [] [3, 1] 1 ⟨[(3, vI (mCust x.abs)), (1, .p 0 0)], [⟨52, [vI x.id, vI x.session, vI x.next, .v (.slice x.waits.A x.waits.n x.waits.c)]⟩]⟩ [] [] (by kernel_rfl) on wn ?_
  refine l_nil (q_then_normal ?_)
  refine c_seq ?_
  refine c_region ?_
  refine JL_run 1 [] [7, 3] 0 ⟨[(7, .v (.agg #[.int .i64 x.id, .int .i64 x.session, .int .i64 x.next, .slice x.waits.A x.waits.n x.waits.c])), (3, vI (mCust x.abs))], []⟩ [] [] (by kernel_rfl) on wn ?_
  refine l_pure 28 [] [.v (.agg #[.int .i64 x.id, .int .i64 x.session, .int .i64 x.next, .slice x.waits.A x.waits.n x.waits.c])] (.int .i64 (mCust x.abs)) Try.call28 rfl rfl rfl rfl (fun bs w hS => ref_CustomerFault x w (Rds.kp hx hS.kp)) ?_
  refine JL_run 1 [] [4, 3] 0 ⟨[(4, vI (mCust x.abs)), (3, vI (mCust x.abs))], []⟩ [] [] (by kernel_rfl) on wn ?_
  refine l_nil (q_then_normal ?_)
  refine c_seq ?_
  refine c_region ?_
  refine JL_run 4 [] [2] 0 ⟨[(2, vB (decide (mCust x.abs = mCust x.abs)))], []⟩ [] [] (by kernel_rfl) on wn ?_
  refine l_nil (q_then_normal ?_)
  refine c_ret ?_
  refine q_ret (.inl rfl) [vB (decide (mCust x.abs = mCust x.abs))] rfl (fun bs w hS => ?_)
  refine ⟨?_, hS.kp⟩
  simp [retOf, den]

end Go.Proofs.Ytececkgjacccmab.W
