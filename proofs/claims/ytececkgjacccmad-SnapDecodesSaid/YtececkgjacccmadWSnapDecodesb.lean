/-
  The functions that the law SnapDecodes reaches, walked: each returns what its model says.
  Conditions: those that each theorem states.
-/
import Derived.Test.YtececkgjacccmadWSnapDecodesa
set_option linter.unusedVariables false
set_option linter.unusedSimpArgs false
set_option maxRecDepth 100000
namespace Go.Proofs.Ytececkgjacccmad.W
open Go.Proofs.Ytececkgjacccmad.Fw Go.RowKit

theorem session_replies {B : Nat → Prop} (x : CSession) (w : World) (hx : Rds.sub B w x) (hb : 0 ≤ x.acked ∧ x.acked ≤ 1048576) : Calls Try.prog 87 #[.agg #[.int .i64 x.client, .int .i64 x.id, .int .i64 x.acked, .int .i64 x.last, .slice x.replies.A x.replies.n x.replies.c]] w fun e w' => e = .returned (.bool (mReplies x.abs)) ∧ Kp [] w w' := by
  have okx := Rds.okof hx
  have ncx := Sl.ok.nc okx
  have hns : x.replies.n = x.replies.xs.length := rfl
  have hat : ∀ q, x.abs.replies.getD q default = x.replies.at q := fun _ => rfl
  have hac : x.abs.acked = x.acked := rfl
  have hln : x.abs.replies.length = x.replies.n := rfl
  refine calls_J0 70 Try.func87 rfl rfl [.agg #[.int .i64 x.client, .int .i64 x.id, .int .i64 x.acked, .int .i64 x.last, .slice x.replies.A x.replies.n x.replies.c]] rfl ?_
  refine c_seq ?_
  refine c_region ?_
  refine JL_run 2 [] [1] 1 ⟨[(1, .p 0 0)], [⟨113, [vI x.client, vI x.id, vI x.acked, vI x.last, .v (.slice x.replies.A x.replies.n x.replies.c)]⟩]⟩ [] [] (by kernel_rfl) on wn ?_
  refine l_nil (q_then_normal ?_)
  refine c_seq ?_
  refine c_seq ?_
  refine c_region ?_
  refine JL_run 4 [] [9, 8, 7, 1] 1 ⟨[(9, vI 0), (8, vI ((x.replies.n : Nat) : Int)), (7, .v (.slice x.replies.A x.replies.n x.replies.c)), (1, .p 0 0)], [⟨113, [vI x.client, vI x.id, vI x.acked, vI x.last, .v (.slice x.replies.A x.replies.n x.replies.c)]⟩]⟩ [] [] (by kernel_rfl) on wn ?_
  refine l_nil (q_then_normal ?_)
  refine c_block ?_
  refine c_loop (σ := Nat) (fun i => i ≤ x.replies.n ∧ allTo (keptOk x.abs) i = true) (fun i => x.replies.n - i) (fun i => []) (fun i => ⟨[(9, vI ((i : Nat) : Int)), (8, vI ((x.replies.n : Nat) : Int)), (7, .v (.slice x.replies.A x.replies.n x.replies.c)), (1, .p 0 0)], [⟨113, [vI x.client, vI x.id, vI x.acked, vI x.last, .v (.slice x.replies.A x.replies.n x.replies.c)]⟩]⟩) 0 ⟨Nat.zero_le _, rfl⟩ (s_start [9, 8, 7, 1] 1 (by kernel_rfl) rfl) ?_
  rintro i ⟨hi, hI⟩
  refine c_seq ?_
  refine c_region ?_
  refine JL_run 1 [] [10, 9, 8, 7, 1] 1 ⟨[(10, vB (decide (((i : Nat) : Int) < ((x.replies.n : Nat) : Int)))), (9, vI ((i : Nat) : Int)), (8, vI ((x.replies.n : Nat) : Int)), (7, .v (.slice x.replies.A x.replies.n x.replies.c)), (1, .p 0 0)], [⟨113, [vI x.client, vI x.id, vI x.acked, vI x.last, .v (.slice x.replies.A x.replies.n x.replies.c)]⟩]⟩ [] [] (by kernel_rfl) on wn ?_
  refine l_nil (q_then_normal ?_)
  refine c_seq ?_
  cases h1 : decide (((i : Nat) : Int) < ((x.replies.n : Nat) : Int)) with
  | true =>
    have h1 := of_decide_eq_true h1
    refine c_if true rfl ?_
    refine c_skip ?_
    refine q_then_normal ?_
    refine c_seq ?_
    refine c_block ?_
    refine c_seq ?_
    refine c_region ?_
    refine JL_run 6 [(1, .idx x.replies.ad i), (2, .ext [.int .i64 (x.replies.at i).seq, .int .i64 (x.replies.at i).reply.code, .int .i64 (x.replies.at i).reply.n, .string (x.replies.at i).reply.text])] [3, 4, 9, 8, 7, 1] 2 ⟨[(3, vI ((i : Nat) : Int)), (4, .p 1 0), (9, vI ((i : Nat) : Int)), (8, vI ((x.replies.n : Nat) : Int)), (7, .v (.slice x.replies.A x.replies.n x.replies.c)), (1, .p 0 0)], [⟨113, [vI x.client, vI x.id, vI x.acked, vI x.last, .v (.slice x.replies.A x.replies.n x.replies.c)]⟩, ⟨115, [vI (x.replies.at i).seq, vI (x.replies.at i).reply.code, vI (x.replies.at i).reply.n, vS (x.replies.at i).reply.text]⟩]⟩ [x.replies.A = some x.replies.ad, ((i : Nat) : Int) = ((i : Nat) : Int), i < x.replies.n] [(x.replies.ad.add (i * 4), [.int .i64 (x.replies.at i).seq, .int .i64 (x.replies.at i).reply.code, .int .i64 (x.replies.at i).reply.n, .string (x.replies.at i).reply.text])] (by kernel_rfl) (oc (Sl.ok.own (s := x.replies) (i := i) okx (by omega)) (oc rfl (oc (by omega) on))) (fun w hk hr => ⟨(Sl.rd.all (s := x.replies) (i := i) (Rds.kp hx hk) (by omega) rfl), trivial⟩) ?_
    refine l_nil (q_then_normal ?_)
    refine c_seq ?_
    refine c_seq ?_
    refine c_draw 29 [] (.p 0 (.q 1 (.p 2 (.q 3 (.p 4 (.p 5 (.p 6 (.q 7 (.p 8 (.q 9 (.p 10 (.p 11 (.p 12 (.p 13 (.p 14 (.p 15 (.p 16 (.p 17 (.q 18 (.p 19 (.p 20 (.p 21 (.p 22 (.q 23 (.p 24 (.q 25 (.p 26 (.p 27 (.p 28 .nil))))))))))))))))))))))))))))) [] [] Try_mixed (by kernel_rfl) (pq_then (pq_then (pq_block (pq_then (pq_then (pq_block (pq_then pq_body))))))) .slnil ?_
    refine h_quiet [] [(0, true), (1, false), (2, true), (3, false), (4, true), (5, true)] [(19, vB (decide ((x.replies.at i).seq ≤ x.acked))), (18, vB (decide ((x.replies.at i).seq ≤ x.acked))), (17, vI x.acked), (16, .p 0 2), (15, vI (x.replies.at i).seq), (14, .p 1 0), (3, vI ((i : Nat) : Int)), (4, .p 1 0), (9, vI ((i : Nat) : Int)), (8, vI ((x.replies.n : Nat) : Int)), (7, .v (.slice x.replies.A x.replies.n x.replies.c)), (1, .p 0 0)] [] [] rfl (by kernel_rfl) on wn ?_
    cases h2 : decide ((x.replies.at i).seq ≤ x.acked) with
    | true =>
      have h2 := of_decide_eq_true h2
      refine h_quiet [] [(6, true), (7, false), (8, true), (9, false), (10, true), (11, true), (12, true), (13, true), (14, true), (15, true), (16, true), (17, true), (18, false), (19, true), (20, true), (21, true), (22, true), (23, false), (24, true), (25, false), (26, true), (27, true), (28, true)] [(42, vB true), (41, .v (undef)), (40, .v (undef)), (39, .v (undef)), (38, .v (undef)), (37, .v (undef)), (36, .v (undef)), (35, .v (undef)), (34, .v (undef)), (33, .v (undef)), (32, .v (undef)), (31, .v (undef)), (30, .v (undef)), (29, .v (undef)), (28, .v (undef)), (27, vB true), (26, vB true), (25, .v (undef)), (24, .v (undef)), (23, .v (undef)), (22, .v (undef)), (21, .v (undef)), (20, .v (undef)), (19, vB true), (18, vB true), (17, vI x.acked), (16, .p 0 2), (15, vI (x.replies.at i).seq), (14, .p 1 0), (3, vI ((i : Nat) : Int)), (4, .p 1 0), (9, vI ((i : Nat) : Int)), (8, vI ((x.replies.n : Nat) : Int)), (7, .v (.slice x.replies.A x.replies.n x.replies.c)), (1, .p 0 0)] [] [] rfl (by kernel_rfl) on wn ?_
      refine h_nil ?_
      refine l_nil (q_then_normal ?_)
      refine c_if true rfl ?_
      refine c_seq ?_
      refine c_region ?_
      refine JL_run 1 [] [2] 0 ⟨[(2, vB false)], []⟩ [] [] (by kernel_rfl) on wn ?_
      refine l_nil (q_then_normal ?_)
      refine c_ret ?_
      refine q_then_ret (q_block_ret (q_then_ret (q_then_ret (q_block_ret (q_then_ret (q_ret (.inl rfl) [vB false] rfl (fun bs w hS => ?_)))))))
      refine ⟨?_, hS.kp⟩
      have hm : mReplies x.abs = false := allTo_bad (j := i) (decide_eq_false (fun hk => by simp only [hat, hac] at hk; omega)) (show i < x.abs.replies.length by rw [hln]; omega)
      rw [hm]
      rfl
    | false =>
      have h2 := of_decide_eq_false h2
      refine h_quiet [] [(6, true), (7, false), (8, true), (9, false), (10, true), (11, true), (12, true), (13, true)] [(27, vB (decide (x.acked + 4 < (x.replies.at i).seq))), (26, vB (decide (x.acked + 4 < (x.replies.at i).seq))), (25, vB (decide (x.acked + 4 < (x.replies.at i).seq))), (24, vI (x.acked + 4)), (23, vI x.acked), (22, .p 0 2), (21, vI (x.replies.at i).seq), (20, .p 1 0), (19, vB false), (18, vB false), (17, vI x.acked), (16, .p 0 2), (15, vI (x.replies.at i).seq), (14, .p 1 0), (3, vI ((i : Nat) : Int)), (4, .p 1 0), (9, vI ((i : Nat) : Int)), (8, vI ((x.replies.n : Nat) : Int)), (7, .v (.slice x.replies.A x.replies.n x.replies.c)), (1, .p 0 0)] [inR (x.acked + 4)] [] rfl (by kernel_rfl) (oc (by unfold inR; omega) on) wn ?_
      cases h3 : decide (x.acked + 4 < (x.replies.at i).seq) with
      | true =>
        have h3 := of_decide_eq_true h3
        refine h_quiet [] [(14, true), (15, true), (16, true), (17, true), (18, false), (19, true), (20, true), (21, true), (22, true), (23, false), (24, true), (25, false), (26, true), (27, true), (28, true)] [(42, vB true), (41, .v (undef)), (40, .v (undef)), (39, .v (undef)), (38, .v (undef)), (37, .v (undef)), (36, .v (undef)), (35, .v (undef)), (34, .v (undef)), (33, .v (undef)), (32, .v (undef)), (31, .v (undef)), (30, .v (undef)), (29, .v (undef)), (28, .v (undef)), (27, vB true), (26, vB true), (25, vB true), (24, vI (x.acked + 4)), (23, vI x.acked), (22, .p 0 2), (21, vI (x.replies.at i).seq), (20, .p 1 0), (19, vB false), (18, vB false), (17, vI x.acked), (16, .p 0 2), (15, vI (x.replies.at i).seq), (14, .p 1 0), (3, vI ((i : Nat) : Int)), (4, .p 1 0), (9, vI ((i : Nat) : Int)), (8, vI ((x.replies.n : Nat) : Int)), (7, .v (.slice x.replies.A x.replies.n x.replies.c)), (1, .p 0 0)] [] [] rfl (by kernel_rfl) on wn ?_
        refine h_nil ?_
        refine l_nil (q_then_normal ?_)
        refine c_if true rfl ?_
        refine c_seq ?_
        refine c_region ?_
        refine JL_run 1 [] [2] 0 ⟨[(2, vB false)], []⟩ [] [] (by kernel_rfl) on wn ?_
        refine l_nil (q_then_normal ?_)
        refine c_ret ?_
        refine q_then_ret (q_block_ret (q_then_ret (q_then_ret (q_block_ret (q_then_ret (q_ret (.inl rfl) [vB false] rfl (fun bs w hS => ?_)))))))
        refine ⟨?_, hS.kp⟩
        have hm : mReplies x.abs = false := allTo_bad (j := i) (decide_eq_false (fun hk => by simp only [hat, hac] at hk; omega)) (show i < x.abs.replies.length by rw [hln]; omega)
        rw [hm]
        rfl
      | false =>
        have h3 := of_decide_eq_false h3
        refine h_quiet [] [(14, true), (15, true), (16, true)] [(30, vB (decide ((0 : Int) < ((i : Nat) : Int)))), (29, vB (decide ((0 : Int) < ((i : Nat) : Int)))), (28, vI ((i : Nat) : Int)), (27, vB false), (26, vB false), (25, vB false), (24, vI (x.acked + 4)), (23, vI x.acked), (22, .p 0 2), (21, vI (x.replies.at i).seq), (20, .p 1 0), (19, vB false), (18, vB false), (17, vI x.acked), (16, .p 0 2), (15, vI (x.replies.at i).seq), (14, .p 1 0), (3, vI ((i : Nat) : Int)), (4, .p 1 0), (9, vI ((i : Nat) : Int)), (8, vI ((x.replies.n : Nat) : Int)), (7, .v (.slice x.replies.A x.replies.n x.replies.c)), (1, .p 0 0)] [] [] rfl (by kernel_rfl) on wn ?_
        cases h4 : decide ((0 : Int) < ((i : Nat) : Int)) with
        | true =>
          have h4 := of_decide_eq_true h4
          refine h_quiet [(21, .idx x.replies.ad (i - 1)), (23, .ext [.int .i64 (x.replies.at (i - 1)).seq])] [(17, true), (18, false), (19, true), (20, true), (21, true), (22, true), (23, false), (24, true), (25, false), (26, true), (27, true), (28, true)] [(42, vB (decide ((x.replies.at i).seq ≤ (x.replies.at (i - 1)).seq))), (41, vB (decide ((x.replies.at i).seq ≤ (x.replies.at (i - 1)).seq))), (40, vB (decide ((x.replies.at i).seq ≤ (x.replies.at (i - 1)).seq))), (39, vI (x.replies.at i).seq), (38, .p 1 0), (37, vI (x.replies.at (i - 1)).seq), (36, .v (.pointer (some ((x.replies.ad.add ((i - 1) * 4)).add 0)))), (35, .v (.pointer (some (x.replies.ad.add ((i - 1) * 4))))), (34, vI (((i : Nat) : Int) - 1)), (33, vI ((i : Nat) : Int)), (32, .v (.slice x.replies.A x.replies.n x.replies.c)), (31, .p 0 4), (30, vB true), (29, vB true), (28, vI ((i : Nat) : Int)), (27, vB false), (26, vB false), (25, vB false), (24, vI (x.acked + 4)), (23, vI x.acked), (22, .p 0 2), (21, vI (x.replies.at i).seq), (20, .p 1 0), (19, vB false), (18, vB false), (17, vI x.acked), (16, .p 0 2), (15, vI (x.replies.at i).seq), (14, .p 1 0), (3, vI ((i : Nat) : Int)), (4, .p 1 0), (9, vI ((i : Nat) : Int)), (8, vI ((x.replies.n : Nat) : Int)), (7, .v (.slice x.replies.A x.replies.n x.replies.c)), (1, .p 0 0)] [inR (((i : Nat) : Int) - 1), x.replies.A = some x.replies.ad, ((i : Nat) : Int) - 1 = (((i - 1) : Nat) : Int), (i - 1) < x.replies.n] [((x.replies.ad.add ((i - 1) * 4)).add 0, [.int .i64 (x.replies.at (i - 1)).seq])] rfl (by kernel_rfl) (oc (by unfold inR; omega) (oc (Sl.ok.own (s := x.replies) (i := (i - 1)) okx (by omega)) (oc (by omega) (oc (by omega) on)))) (fun w hk hr => ⟨(Sl.rd.fld (s := x.replies) (i := (i - 1)) (Rds.kp hx hk) (by omega) 0 1 rfl), trivial⟩) ?_
          refine h_nil ?_
          refine l_nil (q_then_normal ?_)
          cases h5 : decide ((x.replies.at i).seq ≤ (x.replies.at (i - 1)).seq) with
          | true =>
            have h5 := of_decide_eq_true h5
            refine c_if true rfl ?_
            refine c_seq ?_
            refine c_region ?_
            refine JL_run 1 [] [2] 0 ⟨[(2, vB false)], []⟩ [] [] (by kernel_rfl) on wn ?_
            refine l_nil (q_then_normal ?_)
            refine c_ret ?_
            refine q_then_ret (q_block_ret (q_then_ret (q_then_ret (q_block_ret (q_then_ret (q_ret (.inl rfl) [vB false] rfl (fun bs w hS => ?_)))))))
            refine ⟨?_, hS.kp⟩
            have hm : mReplies x.abs = false := allTo_bad (j := i) (decide_eq_false (fun hk => by simp only [hat, hac] at hk; omega)) (show i < x.abs.replies.length by rw [hln]; omega)
            rw [hm]
            rfl
          | false =>
            have h5 := of_decide_eq_false h5
            refine c_if false rfl ?_
            refine c_skip ?_
            refine q_then_normal ?_
            refine c_seq ?_
            refine c_region ?_
            refine JL_run 4 [] [5, 9, 8, 7, 1] 3 ⟨[(5, .p 2 0), (9, vI ((i : Nat) : Int)), (8, vI ((x.replies.n : Nat) : Int)), (7, .v (.slice x.replies.A x.replies.n x.replies.c)), (1, .p 0 0)], [⟨113, [vI x.client, vI x.id, vI x.acked, vI x.last, .v (.slice x.replies.A x.replies.n x.replies.c)]⟩, ⟨115, [vI (x.replies.at i).seq, vI (x.replies.at i).reply.code, vI (x.replies.at i).reply.n, vS (x.replies.at i).reply.text]⟩, ⟨26, [vI (x.replies.at i).reply.code, vI (x.replies.at i).reply.n, vS (x.replies.at i).reply.text]⟩]⟩ [] [] (by kernel_rfl) on wn ?_
            refine l_nil (q_then_normal ?_)
            refine c_seq ?_
            refine c_region ?_
            refine JL_run 4 [] [48, 5, 9, 8, 7, 1] 3 ⟨[(48, vB (decide ((x.replies.at i).reply.code < 0))), (5, .p 2 0), (9, vI ((i : Nat) : Int)), (8, vI ((x.replies.n : Nat) : Int)), (7, .v (.slice x.replies.A x.replies.n x.replies.c)), (1, .p 0 0)], [⟨113, [vI x.client, vI x.id, vI x.acked, vI x.last, .v (.slice x.replies.A x.replies.n x.replies.c)]⟩, ⟨115, [vI (x.replies.at i).seq, vI (x.replies.at i).reply.code, vI (x.replies.at i).reply.n, vS (x.replies.at i).reply.text]⟩, ⟨26, [vI (x.replies.at i).reply.code, vI (x.replies.at i).reply.n, vS (x.replies.at i).reply.text]⟩]⟩ [] [] (by kernel_rfl) on wn ?_
            cases h6 : decide ((x.replies.at i).reply.code < 0) with
            | true =>
              have h6 := of_decide_eq_true h6
              refine JL_run 20 [] [68, 9, 8, 7, 1] 1 ⟨[(68, vB true), (9, vI ((i : Nat) : Int)), (8, vI ((x.replies.n : Nat) : Int)), (7, .v (.slice x.replies.A x.replies.n x.replies.c)), (1, .p 0 0)], [⟨113, [vI x.client, vI x.id, vI x.acked, vI x.last, .v (.slice x.replies.A x.replies.n x.replies.c)]⟩]⟩ [] [] (by kernel_rfl) on wn ?_
              refine l_nil (q_then_normal ?_)
              refine c_if true rfl ?_
              refine c_seq ?_
              refine c_region ?_
              refine JL_run 1 [] [2] 0 ⟨[(2, vB false)], []⟩ [] [] (by kernel_rfl) on wn ?_
              refine l_nil (q_then_normal ?_)
              refine c_ret ?_
              refine q_block_ret (q_then_ret (q_then_ret (q_block_ret (q_then_ret (q_ret (.inl rfl) [vB false] rfl (fun bs w hS => ?_))))))
              refine ⟨?_, hS.kp⟩
              have hm : mReplies x.abs = false := allTo_bad (j := i) (decide_eq_false (fun hk => by simp only [hat, hac] at hk; omega)) (show i < x.abs.replies.length by rw [hln]; omega)
              rw [hm]
              rfl
            | false =>
              have h6 := of_decide_eq_false h6
              refine JL_run 5 [] [53, 5, 9, 8, 7, 1] 3 ⟨[(53, vB (decide ((15 : Int) < (x.replies.at i).reply.code))), (5, .p 2 0), (9, vI ((i : Nat) : Int)), (8, vI ((x.replies.n : Nat) : Int)), (7, .v (.slice x.replies.A x.replies.n x.replies.c)), (1, .p 0 0)], [⟨113, [vI x.client, vI x.id, vI x.acked, vI x.last, .v (.slice x.replies.A x.replies.n x.replies.c)]⟩, ⟨115, [vI (x.replies.at i).seq, vI (x.replies.at i).reply.code, vI (x.replies.at i).reply.n, vS (x.replies.at i).reply.text]⟩, ⟨26, [vI (x.replies.at i).reply.code, vI (x.replies.at i).reply.n, vS (x.replies.at i).reply.text]⟩]⟩ [] [] (by kernel_rfl) on wn ?_
              cases h7 : decide ((15 : Int) < (x.replies.at i).reply.code) with
              | true =>
                have h7 := of_decide_eq_true h7
                refine JL_run 15 [] [68, 9, 8, 7, 1] 1 ⟨[(68, vB true), (9, vI ((i : Nat) : Int)), (8, vI ((x.replies.n : Nat) : Int)), (7, .v (.slice x.replies.A x.replies.n x.replies.c)), (1, .p 0 0)], [⟨113, [vI x.client, vI x.id, vI x.acked, vI x.last, .v (.slice x.replies.A x.replies.n x.replies.c)]⟩]⟩ [] [] (by kernel_rfl) on wn ?_
                refine l_nil (q_then_normal ?_)
                refine c_if true rfl ?_
                refine c_seq ?_
                refine c_region ?_
                refine JL_run 1 [] [2] 0 ⟨[(2, vB false)], []⟩ [] [] (by kernel_rfl) on wn ?_
                refine l_nil (q_then_normal ?_)
                refine c_ret ?_
                refine q_block_ret (q_then_ret (q_then_ret (q_block_ret (q_then_ret (q_ret (.inl rfl) [vB false] rfl (fun bs w hS => ?_))))))
                refine ⟨?_, hS.kp⟩
                have hm : mReplies x.abs = false := allTo_bad (j := i) (decide_eq_false (fun hk => by simp only [hat, hac] at hk; omega)) (show i < x.abs.replies.length by rw [hln]; omega)
                rw [hm]
                rfl
              | false =>
                have h7 := of_decide_eq_false h7
                refine JL_run 5 [] [58, 5, 9, 8, 7, 1] 3 ⟨[(58, vB (decide ((x.replies.at i).reply.n < 0))), (5, .p 2 0), (9, vI ((i : Nat) : Int)), (8, vI ((x.replies.n : Nat) : Int)), (7, .v (.slice x.replies.A x.replies.n x.replies.c)), (1, .p 0 0)], [⟨113, [vI x.client, vI x.id, vI x.acked, vI x.last, .v (.slice x.replies.A x.replies.n x.replies.c)]⟩, ⟨115, [vI (x.replies.at i).seq, vI (x.replies.at i).reply.code, vI (x.replies.at i).reply.n, vS (x.replies.at i).reply.text]⟩, ⟨26, [vI (x.replies.at i).reply.code, vI (x.replies.at i).reply.n, vS (x.replies.at i).reply.text]⟩]⟩ [] [] (by kernel_rfl) on wn ?_
                cases h8 : decide ((x.replies.at i).reply.n < 0) with
                | true =>
                  have h8 := of_decide_eq_true h8
                  refine JL_run 10 [] [68, 9, 8, 7, 1] 1 ⟨[(68, vB true), (9, vI ((i : Nat) : Int)), (8, vI ((x.replies.n : Nat) : Int)), (7, .v (.slice x.replies.A x.replies.n x.replies.c)), (1, .p 0 0)], [⟨113, [vI x.client, vI x.id, vI x.acked, vI x.last, .v (.slice x.replies.A x.replies.n x.replies.c)]⟩]⟩ [] [] (by kernel_rfl) on wn ?_
                  refine l_nil (q_then_normal ?_)
                  refine c_if true rfl ?_
                  refine c_seq ?_
                  refine c_region ?_
                  refine JL_run 1 [] [2] 0 ⟨[(2, vB false)], []⟩ [] [] (by kernel_rfl) on wn ?_
                  refine l_nil (q_then_normal ?_)
                  refine c_ret ?_
                  refine q_block_ret (q_then_ret (q_then_ret (q_block_ret (q_then_ret (q_ret (.inl rfl) [vB false] rfl (fun bs w hS => ?_))))))
                  refine ⟨?_, hS.kp⟩
                  have hm : mReplies x.abs = false := allTo_bad (j := i) (decide_eq_false (fun hk => by simp only [hat, hac] at hk; omega)) (show i < x.abs.replies.length by rw [hln]; omega)
                  rw [hm]
                  rfl
                | false =>
                  have h8 := of_decide_eq_false h8
                  refine JL_run 5 [] [63, 5, 9, 8, 7, 1] 3 ⟨[(63, vB (decide ((1073741824 : Int) < (x.replies.at i).reply.n))), (5, .p 2 0), (9, vI ((i : Nat) : Int)), (8, vI ((x.replies.n : Nat) : Int)), (7, .v (.slice x.replies.A x.replies.n x.replies.c)), (1, .p 0 0)], [⟨113, [vI x.client, vI x.id, vI x.acked, vI x.last, .v (.slice x.replies.A x.replies.n x.replies.c)]⟩, ⟨115, [vI (x.replies.at i).seq, vI (x.replies.at i).reply.code, vI (x.replies.at i).reply.n, vS (x.replies.at i).reply.text]⟩, ⟨26, [vI (x.replies.at i).reply.code, vI (x.replies.at i).reply.n, vS (x.replies.at i).reply.text]⟩]⟩ [] [] (by kernel_rfl) on wn ?_
                  cases h9 : decide ((1073741824 : Int) < (x.replies.at i).reply.n) with
                  | true =>
                    have h9 := of_decide_eq_true h9
                    refine JL_run 5 [] [68, 9, 8, 7, 1] 1 ⟨[(68, vB true), (9, vI ((i : Nat) : Int)), (8, vI ((x.replies.n : Nat) : Int)), (7, .v (.slice x.replies.A x.replies.n x.replies.c)), (1, .p 0 0)], [⟨113, [vI x.client, vI x.id, vI x.acked, vI x.last, .v (.slice x.replies.A x.replies.n x.replies.c)]⟩]⟩ [] [] (by kernel_rfl) on wn ?_
                    refine l_nil (q_then_normal ?_)
                    refine c_if true rfl ?_
                    refine c_seq ?_
                    refine c_region ?_
                    refine JL_run 1 [] [2] 0 ⟨[(2, vB false)], []⟩ [] [] (by kernel_rfl) on wn ?_
                    refine l_nil (q_then_normal ?_)
                    refine c_ret ?_
                    refine q_block_ret (q_then_ret (q_then_ret (q_block_ret (q_then_ret (q_ret (.inl rfl) [vB false] rfl (fun bs w hS => ?_))))))
                    refine ⟨?_, hS.kp⟩
                    have hm : mReplies x.abs = false := allTo_bad (j := i) (decide_eq_false (fun hk => by simp only [hat, hac] at hk; omega)) (show i < x.abs.replies.length by rw [hln]; omega)
                    rw [hm]
                    rfl
                  | false =>
                    have h9 := of_decide_eq_false h9
                    refine JL_run 5 [] [68, 9, 8, 7, 1] 1 ⟨[(68, vB (decide ((12 : Int) < ((x.replies.at i).reply.text.size : Int)))), (9, vI ((i : Nat) : Int)), (8, vI ((x.replies.n : Nat) : Int)), (7, .v (.slice x.replies.A x.replies.n x.replies.c)), (1, .p 0 0)], [⟨113, [vI x.client, vI x.id, vI x.acked, vI x.last, .v (.slice x.replies.A x.replies.n x.replies.c)]⟩]⟩ [] [] (by kernel_rfl) on wn ?_
                    refine l_nil (q_then_normal ?_)
                    cases h10 : decide ((12 : Int) < ((x.replies.at i).reply.text.size : Int)) with
                    | true =>
                      have h10 := of_decide_eq_true h10
                      refine c_if true rfl ?_
                      refine c_seq ?_
                      refine c_region ?_
                      refine JL_run 1 [] [2] 0 ⟨[(2, vB false)], []⟩ [] [] (by kernel_rfl) on wn ?_
                      refine l_nil (q_then_normal ?_)
                      refine c_ret ?_
                      refine q_block_ret (q_then_ret (q_then_ret (q_block_ret (q_then_ret (q_ret (.inl rfl) [vB false] rfl (fun bs w hS => ?_))))))
                      refine ⟨?_, hS.kp⟩
                      have hm : mReplies x.abs = false := allTo_bad (j := i) (decide_eq_false (fun hk => by simp only [hat, hac] at hk; omega)) (show i < x.abs.replies.length by rw [hln]; omega)
                      rw [hm]
                      rfl
                    | false =>
                      have h10 := of_decide_eq_false h10
                      refine c_if false rfl ?_
                      refine c_skip ?_
                      refine q_block_normal (q_then_normal ?_)
                      refine c_region ?_
                      refine JL_run 2 [] [9, 8, 7, 1] 1 ⟨[(9, vI (((i : Nat) : Int) + 1)), (8, vI ((x.replies.n : Nat) : Int)), (7, .v (.slice x.replies.A x.replies.n x.replies.c)), (1, .p 0 0)], [⟨113, [vI x.client, vI x.id, vI x.acked, vI x.last, .v (.slice x.replies.A x.replies.n x.replies.c)]⟩]⟩ [inR (((i : Nat) : Int) + 1)] [] (by kernel_rfl) (oc (by unfold inR; omega) on) wn ?_
                      refine l_nil (q_loop (x := (i : Nat)) ((i + 1) : Nat) ⟨by omega, allTo_step hI (decide_eq_true (by simp only [hat, hac]; exact ⟨by omega, by omega, by omega, by omega, by omega, by omega, by omega, by omega⟩))⟩ (by omega) (s_start [9, 8, 7, 1] 1 (by kernel_rfl) rfl))
        | false =>
          have h4 := of_decide_eq_false h4
          refine h_quiet [] [(17, true), (18, false), (19, true), (20, true), (21, true), (22, true), (23, false), (24, true), (25, false), (26, true), (27, true), (28, true)] [(42, vB false), (41, vB false), (40, .v (undef)), (39, .v (undef)), (38, .v (undef)), (37, .v (undef)), (36, .v (undef)), (35, .v (undef)), (34, .v (undef)), (33, .v (undef)), (32, .v (undef)), (31, .v (undef)), (30, vB false), (29, vB false), (28, vI ((i : Nat) : Int)), (27, vB false), (26, vB false), (25, vB false), (24, vI (x.acked + 4)), (23, vI x.acked), (22, .p 0 2), (21, vI (x.replies.at i).seq), (20, .p 1 0), (19, vB false), (18, vB false), (17, vI x.acked), (16, .p 0 2), (15, vI (x.replies.at i).seq), (14, .p 1 0), (3, vI ((i : Nat) : Int)), (4, .p 1 0), (9, vI ((i : Nat) : Int)), (8, vI ((x.replies.n : Nat) : Int)), (7, .v (.slice x.replies.A x.replies.n x.replies.c)), (1, .p 0 0)] [] [] rfl (by kernel_rfl) on wn ?_
          refine h_nil ?_
          refine l_nil (q_then_normal ?_)
          refine c_if false rfl ?_
          refine c_skip ?_
          refine q_then_normal ?_
          refine c_seq ?_
          refine c_region ?_
          refine JL_run 4 [] [5, 9, 8, 7, 1] 3 ⟨[(5, .p 2 0), (9, vI ((i : Nat) : Int)), (8, vI ((x.replies.n : Nat) : Int)), (7, .v (.slice x.replies.A x.replies.n x.replies.c)), (1, .p 0 0)], [⟨113, [vI x.client, vI x.id, vI x.acked, vI x.last, .v (.slice x.replies.A x.replies.n x.replies.c)]⟩, ⟨115, [vI (x.replies.at i).seq, vI (x.replies.at i).reply.code, vI (x.replies.at i).reply.n, vS (x.replies.at i).reply.text]⟩, ⟨26, [vI (x.replies.at i).reply.code, vI (x.replies.at i).reply.n, vS (x.replies.at i).reply.text]⟩]⟩ [] [] (by kernel_rfl) on wn ?_
          refine l_nil (q_then_normal ?_)
          refine c_seq ?_
          refine c_region ?_
          refine JL_run 4 [] [48, 5, 9, 8, 7, 1] 3 ⟨[(48, vB (decide ((x.replies.at i).reply.code < 0))), (5, .p 2 0), (9, vI ((i : Nat) : Int)), (8, vI ((x.replies.n : Nat) : Int)), (7, .v (.slice x.replies.A x.replies.n x.replies.c)), (1, .p 0 0)], [⟨113, [vI x.client, vI x.id, vI x.acked, vI x.last, .v (.slice x.replies.A x.replies.n x.replies.c)]⟩, ⟨115, [vI (x.replies.at i).seq, vI (x.replies.at i).reply.code, vI (x.replies.at i).reply.n, vS (x.replies.at i).reply.text]⟩, ⟨26, [vI (x.replies.at i).reply.code, vI (x.replies.at i).reply.n, vS (x.replies.at i).reply.text]⟩]⟩ [] [] (by kernel_rfl) on wn ?_
          cases h11 : decide ((x.replies.at i).reply.code < 0) with
          | true =>
            have h11 := of_decide_eq_true h11
            refine JL_run 20 [] [68, 9, 8, 7, 1] 1 ⟨[(68, vB true), (9, vI ((i : Nat) : Int)), (8, vI ((x.replies.n : Nat) : Int)), (7, .v (.slice x.replies.A x.replies.n x.replies.c)), (1, .p 0 0)], [⟨113, [vI x.client, vI x.id, vI x.acked, vI x.last, .v (.slice x.replies.A x.replies.n x.replies.c)]⟩]⟩ [] [] (by kernel_rfl) on wn ?_
            refine l_nil (q_then_normal ?_)
            refine c_if true rfl ?_
            refine c_seq ?_
            refine c_region ?_
            refine JL_run 1 [] [2] 0 ⟨[(2, vB false)], []⟩ [] [] (by kernel_rfl) on wn ?_
            refine l_nil (q_then_normal ?_)
            refine c_ret ?_
            refine q_block_ret (q_then_ret (q_then_ret (q_block_ret (q_then_ret (q_ret (.inl rfl) [vB false] rfl (fun bs w hS => ?_))))))
            refine ⟨?_, hS.kp⟩
            have hm : mReplies x.abs = false := allTo_bad (j := i) (decide_eq_false (fun hk => by simp only [hat, hac] at hk; omega)) (show i < x.abs.replies.length by rw [hln]; omega)
            rw [hm]
            rfl
          | false =>
            have h11 := of_decide_eq_false h11
            refine JL_run 5 [] [53, 5, 9, 8, 7, 1] 3 ⟨[(53, vB (decide ((15 : Int) < (x.replies.at i).reply.code))), (5, .p 2 0), (9, vI ((i : Nat) : Int)), (8, vI ((x.replies.n : Nat) : Int)), (7, .v (.slice x.replies.A x.replies.n x.replies.c)), (1, .p 0 0)], [⟨113, [vI x.client, vI x.id, vI x.acked, vI x.last, .v (.slice x.replies.A x.replies.n x.replies.c)]⟩, ⟨115, [vI (x.replies.at i).seq, vI (x.replies.at i).reply.code, vI (x.replies.at i).reply.n, vS (x.replies.at i).reply.text]⟩, ⟨26, [vI (x.replies.at i).reply.code, vI (x.replies.at i).reply.n, vS (x.replies.at i).reply.text]⟩]⟩ [] [] (by kernel_rfl) on wn ?_
            cases h12 : decide ((15 : Int) < (x.replies.at i).reply.code) with
            | true =>
              have h12 := of_decide_eq_true h12
              refine JL_run 15 [] [68, 9, 8, 7, 1] 1 ⟨[(68, vB true), (9, vI ((i : Nat) : Int)), (8, vI ((x.replies.n : Nat) : Int)), (7, .v (.slice x.replies.A x.replies.n x.replies.c)), (1, .p 0 0)], [⟨113, [vI x.client, vI x.id, vI x.acked, vI x.last, .v (.slice x.replies.A x.replies.n x.replies.c)]⟩]⟩ [] [] (by kernel_rfl) on wn ?_
              refine l_nil (q_then_normal ?_)
              refine c_if true rfl ?_
              refine c_seq ?_
              refine c_region ?_
              refine JL_run 1 [] [2] 0 ⟨[(2, vB false)], []⟩ [] [] (by kernel_rfl) on wn ?_
              refine l_nil (q_then_normal ?_)
              refine c_ret ?_
              refine q_block_ret (q_then_ret (q_then_ret (q_block_ret (q_then_ret (q_ret (.inl rfl) [vB false] rfl (fun bs w hS => ?_))))))
              refine ⟨?_, hS.kp⟩
              have hm : mReplies x.abs = false := allTo_bad (j := i) (decide_eq_false (fun hk => by simp only [hat, hac] at hk; omega)) (show i < x.abs.replies.length by rw [hln]; omega)
              rw [hm]
              rfl
            | false =>
              have h12 := of_decide_eq_false h12
              refine JL_run 5 [] [58, 5, 9, 8, 7, 1] 3 ⟨[(58, vB (decide ((x.replies.at i).reply.n < 0))), (5, .p 2 0), (9, vI ((i : Nat) : Int)), (8, vI ((x.replies.n : Nat) : Int)), (7, .v (.slice x.replies.A x.replies.n x.replies.c)), (1, .p 0 0)], [⟨113, [vI x.client, vI x.id, vI x.acked, vI x.last, .v (.slice x.replies.A x.replies.n x.replies.c)]⟩, ⟨115, [vI (x.replies.at i).seq, vI (x.replies.at i).reply.code, vI (x.replies.at i).reply.n, vS (x.replies.at i).reply.text]⟩, ⟨26, [vI (x.replies.at i).reply.code, vI (x.replies.at i).reply.n, vS (x.replies.at i).reply.text]⟩]⟩ [] [] (by kernel_rfl) on wn ?_
              cases h13 : decide ((x.replies.at i).reply.n < 0) with
              | true =>
                have h13 := of_decide_eq_true h13
                refine JL_run 10 [] [68, 9, 8, 7, 1] 1 ⟨[(68, vB true), (9, vI ((i : Nat) : Int)), (8, vI ((x.replies.n : Nat) : Int)), (7, .v (.slice x.replies.A x.replies.n x.replies.c)), (1, .p 0 0)], [⟨113, [vI x.client, vI x.id, vI x.acked, vI x.last, .v (.slice x.replies.A x.replies.n x.replies.c)]⟩]⟩ [] [] (by kernel_rfl) on wn ?_
                refine l_nil (q_then_normal ?_)
                refine c_if true rfl ?_
                refine c_seq ?_
                refine c_region ?_
                refine JL_run 1 [] [2] 0 ⟨[(2, vB false)], []⟩ [] [] (by kernel_rfl) on wn ?_
                refine l_nil (q_then_normal ?_)
                refine c_ret ?_
                refine q_block_ret (q_then_ret (q_then_ret (q_block_ret (q_then_ret (q_ret (.inl rfl) [vB false] rfl (fun bs w hS => ?_))))))
                refine ⟨?_, hS.kp⟩
                have hm : mReplies x.abs = false := allTo_bad (j := i) (decide_eq_false (fun hk => by simp only [hat, hac] at hk; omega)) (show i < x.abs.replies.length by rw [hln]; omega)
                rw [hm]
                rfl
              | false =>
                have h13 := of_decide_eq_false h13
                refine JL_run 5 [] [63, 5, 9, 8, 7, 1] 3 ⟨[(63, vB (decide ((1073741824 : Int) < (x.replies.at i).reply.n))), (5, .p 2 0), (9, vI ((i : Nat) : Int)), (8, vI ((x.replies.n : Nat) : Int)), (7, .v (.slice x.replies.A x.replies.n x.replies.c)), (1, .p 0 0)], [⟨113, [vI x.client, vI x.id, vI x.acked, vI x.last, .v (.slice x.replies.A x.replies.n x.replies.c)]⟩, ⟨115, [vI (x.replies.at i).seq, vI (x.replies.at i).reply.code, vI (x.replies.at i).reply.n, vS (x.replies.at i).reply.text]⟩, ⟨26, [vI (x.replies.at i).reply.code, vI (x.replies.at i).reply.n, vS (x.replies.at i).reply.text]⟩]⟩ [] [] (by kernel_rfl) on wn ?_
                cases h14 : decide ((1073741824 : Int) < (x.replies.at i).reply.n) with
                | true =>
                  have h14 := of_decide_eq_true h14
                  refine JL_run 5 [] [68, 9, 8, 7, 1] 1 ⟨[(68, vB true), (9, vI ((i : Nat) : Int)), (8, vI ((x.replies.n : Nat) : Int)), (7, .v (.slice x.replies.A x.replies.n x.replies.c)), (1, .p 0 0)], [⟨113, [vI x.client, vI x.id, vI x.acked, vI x.last, .v (.slice x.replies.A x.replies.n x.replies.c)]⟩]⟩ [] [] (by kernel_rfl) on wn ?_
                  refine l_nil (q_then_normal ?_)
                  refine c_if true rfl ?_
                  refine c_seq ?_
                  refine c_region ?_
                  refine JL_run 1 [] [2] 0 ⟨[(2, vB false)], []⟩ [] [] (by kernel_rfl) on wn ?_
                  refine l_nil (q_then_normal ?_)
                  refine c_ret ?_
                  refine q_block_ret (q_then_ret (q_then_ret (q_block_ret (q_then_ret (q_ret (.inl rfl) [vB false] rfl (fun bs w hS => ?_))))))
                  refine ⟨?_, hS.kp⟩
                  have hm : mReplies x.abs = false := allTo_bad (j := i) (decide_eq_false (fun hk => by simp only [hat, hac] at hk; omega)) (show i < x.abs.replies.length by rw [hln]; omega)
                  rw [hm]
                  rfl
                | false =>
                  have h14 := of_decide_eq_false h14
                  refine JL_run 5 [] [68, 9, 8, 7, 1] 1 ⟨[(68, vB (decide ((12 : Int) < ((x.replies.at i).reply.text.size : Int)))), (9, vI ((i : Nat) : Int)), (8, vI ((x.replies.n : Nat) : Int)), (7, .v (.slice x.replies.A x.replies.n x.replies.c)), (1, .p 0 0)], [⟨113, [vI x.client, vI x.id, vI x.acked, vI x.last, .v (.slice x.replies.A x.replies.n x.replies.c)]⟩]⟩ [] [] (by kernel_rfl) on wn ?_
                  refine l_nil (q_then_normal ?_)
                  cases h15 : decide ((12 : Int) < ((x.replies.at i).reply.text.size : Int)) with
                  | true =>
                    have h15 := of_decide_eq_true h15
                    refine c_if true rfl ?_
                    refine c_seq ?_
                    refine c_region ?_
                    refine JL_run 1 [] [2] 0 ⟨[(2, vB false)], []⟩ [] [] (by kernel_rfl) on wn ?_
                    refine l_nil (q_then_normal ?_)
                    refine c_ret ?_
                    refine q_block_ret (q_then_ret (q_then_ret (q_block_ret (q_then_ret (q_ret (.inl rfl) [vB false] rfl (fun bs w hS => ?_))))))
                    refine ⟨?_, hS.kp⟩
                    have hm : mReplies x.abs = false := allTo_bad (j := i) (decide_eq_false (fun hk => by simp only [hat, hac] at hk; omega)) (show i < x.abs.replies.length by rw [hln]; omega)
                    rw [hm]
                    rfl
                  | false =>
                    have h15 := of_decide_eq_false h15
                    refine c_if false rfl ?_
                    refine c_skip ?_
                    refine q_block_normal (q_then_normal ?_)
                    refine c_region ?_
                    refine JL_run 2 [] [9, 8, 7, 1] 1 ⟨[(9, vI (((i : Nat) : Int) + 1)), (8, vI ((x.replies.n : Nat) : Int)), (7, .v (.slice x.replies.A x.replies.n x.replies.c)), (1, .p 0 0)], [⟨113, [vI x.client, vI x.id, vI x.acked, vI x.last, .v (.slice x.replies.A x.replies.n x.replies.c)]⟩]⟩ [inR (((i : Nat) : Int) + 1)] [] (by kernel_rfl) (oc (by unfold inR; omega) on) wn ?_
                    refine l_nil (q_loop (x := (i : Nat)) ((i + 1) : Nat) ⟨by omega, allTo_step hI (decide_eq_true (by simp only [hat, hac]; exact ⟨by omega, by omega, by omega, by omega, by omega, by omega, by omega, by omega⟩))⟩ (by omega) (s_start [9, 8, 7, 1] 1 (by kernel_rfl) rfl))
  | false =>
    have h1 := of_decide_eq_false h1
    refine c_if false rfl ?_
    refine c_exit ?_
    refine q_then_exit (q_then_exit (q_block_hit (q_then_normal ?_)))
    refine c_seq ?_
    refine c_region ?_
    refine JL_run 1 [] [2] 0 ⟨[(2, vB true)], []⟩ [] [] (by kernel_rfl) on wn ?_
    refine l_nil (q_then_normal ?_)
    refine c_ret ?_
    refine q_ret (.inl rfl) [vB true] rfl (fun bs w hS => ?_)
    refine ⟨?_, hS.kp⟩
    have hm : mReplies x.abs = true := by show allTo _ x.abs.replies.length = true; rw [hln, show x.replies.n = i by omega]; exact hI
    rw [hm]
    rfl

theorem ref_repliesMay {B : Nat → Prop} (x : CSession) (w : World) (hx : Rds.sub B w x) (hb : 0 ≤ x.acked ∧ x.acked ≤ 1048576) : Calls Try.prog 88 #[.agg #[.int .i64 x.client, .int .i64 x.id, .int .i64 x.acked, .int .i64 x.last, .slice x.replies.A x.replies.n x.replies.c]] w fun e w' => e = .returned (.bool (mReplies x.abs)) ∧ Kp [] w w' := by
  have okx := Rds.okof hx
  have ncx := Sl.ok.nc okx
  have hns : x.replies.n = x.replies.xs.length := rfl
  have hat : ∀ q, x.abs.replies.getD q default = x.replies.at q := fun _ => rfl
  have hac : x.abs.acked = x.acked := rfl
  have hln : x.abs.replies.length = x.replies.n := rfl
  refine calls_J0 52 Try.func88 rfl rfl [.agg #[.int .i64 x.client, .int .i64 x.id, .int .i64 x.acked, .int .i64 x.last, .slice x.replies.A x.replies.n x.replies.c]] rfl ?_
  refine c_seq ?_
  refine c_region ?_
  refine JL_run 2 [] [1] 1 ⟨[(1, .p 0 0)], [⟨113, [vI x.client, vI x.id, vI x.acked, vI x.last, .v (.slice x.replies.A x.replies.n x.replies.c)]⟩]⟩ [] [] (by kernel_rfl) on wn ?_
  refine l_nil (q_then_normal ?_)
  refine c_seq ?_
  refine c_region ?_
  refine JL_run 3 [] [3, 1] 1 ⟨[(3, vI x.acked), (1, .p 0 0)], [⟨113, [vI x.client, vI x.id, vI x.acked, vI x.last, .v (.slice x.replies.A x.replies.n x.replies.c)]⟩]⟩ [] [] (by kernel_rfl) on wn ?_
  refine l_nil (q_then_normal ?_)
  refine c_seq ?_
  refine c_seq ?_
  refine c_region ?_
  refine JL_run 1 [] [4, 3, 1] 1 ⟨[(4, vI 0), (3, vI x.acked), (1, .p 0 0)], [⟨113, [vI x.client, vI x.id, vI x.acked, vI x.last, .v (.slice x.replies.A x.replies.n x.replies.c)]⟩]⟩ [] [] (by kernel_rfl) on wn ?_
  refine l_nil (q_then_normal ?_)
  refine c_block ?_
  refine c_loop (σ := Nat × Int) (fun ⟨i, la⟩ => i ≤ x.replies.n ∧ allTo (keptOk x.abs) i = true ∧ x.acked ≤ la ∧ la ≤ x.acked + 4 ∧ (i = 0 → la = x.acked) ∧ (0 < i → la = (x.replies.at (i - 1)).seq)) (fun ⟨i, la⟩ => x.replies.n - i) (fun ⟨i, la⟩ => []) (fun ⟨i, la⟩ => ⟨[(4, vI ((i : Nat) : Int)), (3, vI la), (1, .p 0 0)], [⟨113, [vI x.client, vI x.id, vI x.acked, vI x.last, .v (.slice x.replies.A x.replies.n x.replies.c)]⟩]⟩) ⟨0, x.acked⟩ ⟨Nat.zero_le _, rfl, by omega, by omega, fun _ => rfl, fun h => absurd h (by omega)⟩ (s_start [4, 3, 1] 1 (by kernel_rfl) rfl) ?_
  rintro ⟨i, la⟩ ⟨hi, hI, hl1, hl2, hl3, hl4⟩
  have hz : i = 0 ∧ la = x.acked ∨ 0 < i ∧ la = (x.replies.at (i - 1)).seq := by rcases Nat.eq_zero_or_pos i with h | h; exact .inl ⟨h, hl3 h⟩; exact .inr ⟨h, hl4 h⟩
  refine c_seq ?_
  refine c_seq ?_
  refine c_region ?_
  refine JL_run 5 [] [12, 4, 3, 1] 1 ⟨[(12, vB (decide (((i : Nat) : Int) < ((x.replies.n : Nat) : Int)))), (4, vI ((i : Nat) : Int)), (3, vI la), (1, .p 0 0)], [⟨113, [vI x.client, vI x.id, vI x.acked, vI x.last, .v (.slice x.replies.A x.replies.n x.replies.c)]⟩]⟩ [] [] (by kernel_rfl) on wn ?_
  refine l_nil (q_then_normal ?_)
  cases h1 : decide (((i : Nat) : Int) < ((x.replies.n : Nat) : Int)) with
  | true =>
    have h1 := of_decide_eq_true h1
    refine c_if true rfl ?_
    refine c_skip ?_
    refine q_then_normal ?_
    refine c_seq ?_
    refine c_block ?_
    refine c_seq ?_
    refine c_region ?_
    refine JL_run 7 [(3, .idx x.replies.ad i), (4, .ext [.int .i64 (x.replies.at i).seq, .int .i64 (x.replies.at i).reply.code, .int .i64 (x.replies.at i).reply.n, .string (x.replies.at i).reply.text])] [5, 4, 3, 1] 2 ⟨[(5, .p 1 0), (4, vI ((i : Nat) : Int)), (3, vI la), (1, .p 0 0)], [⟨113, [vI x.client, vI x.id, vI x.acked, vI x.last, .v (.slice x.replies.A x.replies.n x.replies.c)]⟩, ⟨115, [vI (x.replies.at i).seq, vI (x.replies.at i).reply.code, vI (x.replies.at i).reply.n, vS (x.replies.at i).reply.text]⟩]⟩ [x.replies.A = some x.replies.ad, ((i : Nat) : Int) = ((i : Nat) : Int), i < x.replies.n] [(x.replies.ad.add (i * 4), [.int .i64 (x.replies.at i).seq, .int .i64 (x.replies.at i).reply.code, .int .i64 (x.replies.at i).reply.n, .string (x.replies.at i).reply.text])] (by kernel_rfl) (oc (Sl.ok.own (s := x.replies) (i := i) okx (by omega)) (oc rfl (oc (by omega) on))) (fun w hk hr => ⟨(Sl.rd.all (s := x.replies) (i := i) (Rds.kp hx hk) (by omega) rfl), trivial⟩) ?_
    refine l_nil (q_then_normal ?_)
    refine c_seq ?_
    refine c_seq ?_
    refine c_region ?_
    refine JL_run 7 [] [26, 23, 21, 5, 4, 1] 2 ⟨[(26, vI (x.acked + 4)), (23, vI (la + 1)), (21, vI (x.replies.at i).seq), (5, .p 1 0), (4, vI ((i : Nat) : Int)), (1, .p 0 0)], [⟨113, [vI x.client, vI x.id, vI x.acked, vI x.last, .v (.slice x.replies.A x.replies.n x.replies.c)]⟩, ⟨115, [vI (x.replies.at i).seq, vI (x.replies.at i).reply.code, vI (x.replies.at i).reply.n, vS (x.replies.at i).reply.text]⟩]⟩ [inR (la + 1), inR (x.acked + 4)] [] (by kernel_rfl) (oc (by unfold inR; omega) (oc (by unfold inR; omega) on)) wn ?_
    refine l_pure 64 [] [vI (x.replies.at i).seq, vI (la + 1), vI (x.acked + 4)] (.bool (inB (x.replies.at i).seq (la + 1) (x.acked + 4))) Try.call64 rfl rfl rfl rfl (fun bs w hS => ref_In _ _ _ w) ?_
    refine JL_run 2 [] [29, 5, 4, 1] 2 ⟨[(29, vB (!(inB (x.replies.at i).seq (la + 1) (x.acked + 4)))), (5, .p 1 0), (4, vI ((i : Nat) : Int)), (1, .p 0 0)], [⟨113, [vI x.client, vI x.id, vI x.acked, vI x.last, .v (.slice x.replies.A x.replies.n x.replies.c)]⟩, ⟨115, [vI (x.replies.at i).seq, vI (x.replies.at i).reply.code, vI (x.replies.at i).reply.n, vS (x.replies.at i).reply.text]⟩]⟩ [] [] (by kernel_rfl) on wn ?_
    cases h2 : inB (x.replies.at i).seq (la + 1) (x.acked + 4) with
    | true =>
      simp only [inB, Bool.and_eq_true, Bool.and_eq_false_iff, decide_eq_true_eq, decide_eq_false_iff_not] at h2
      refine JL_run 3 [] [32, 29, 5, 4, 1] 2 ⟨[(32, vI (x.replies.at i).reply.code), (29, vB false), (5, .p 1 0), (4, vI ((i : Nat) : Int)), (1, .p 0 0)], [⟨113, [vI x.client, vI x.id, vI x.acked, vI x.last, .v (.slice x.replies.A x.replies.n x.replies.c)]⟩, ⟨115, [vI (x.replies.at i).seq, vI (x.replies.at i).reply.code, vI (x.replies.at i).reply.n, vS (x.replies.at i).reply.text]⟩]⟩ [] [] (by kernel_rfl) on wn ?_
      refine l_pure 64 [] [vI (x.replies.at i).reply.code, vI 0, vI 15] (.bool (inB (x.replies.at i).reply.code 0 15)) Try.call64 rfl rfl rfl rfl (fun bs w hS => ref_In _ _ _ w) ?_
      refine JL_run 3 [] [36, 5, 4, 1] 2 ⟨[(36, vB (!(inB (x.replies.at i).reply.code 0 15))), (5, .p 1 0), (4, vI ((i : Nat) : Int)), (1, .p 0 0)], [⟨113, [vI x.client, vI x.id, vI x.acked, vI x.last, .v (.slice x.replies.A x.replies.n x.replies.c)]⟩, ⟨115, [vI (x.replies.at i).seq, vI (x.replies.at i).reply.code, vI (x.replies.at i).reply.n, vS (x.replies.at i).reply.text]⟩]⟩ [] [] (by kernel_rfl) on wn ?_
      cases h3 : inB (x.replies.at i).reply.code 0 15 with
      | true =>
        simp only [inB, Bool.and_eq_true, Bool.and_eq_false_iff, decide_eq_true_eq, decide_eq_false_iff_not] at h3
        refine JL_run 3 [] [39, 36, 5, 4, 1] 2 ⟨[(39, vI (x.replies.at i).reply.n), (36, vB false), (5, .p 1 0), (4, vI ((i : Nat) : Int)), (1, .p 0 0)], [⟨113, [vI x.client, vI x.id, vI x.acked, vI x.last, .v (.slice x.replies.A x.replies.n x.replies.c)]⟩, ⟨115, [vI (x.replies.at i).seq, vI (x.replies.at i).reply.code, vI (x.replies.at i).reply.n, vS (x.replies.at i).reply.text]⟩]⟩ [] [] (by kernel_rfl) on wn ?_
        refine l_pure 64 [] [vI (x.replies.at i).reply.n, vI 0, vI 1073741824] (.bool (inB (x.replies.at i).reply.n 0 1073741824)) Try.call64 rfl rfl rfl rfl (fun bs w hS => ref_In _ _ _ w) ?_
        refine JL_run 3 [] [43, 5, 4, 1] 2 ⟨[(43, vB (!(inB (x.replies.at i).reply.n 0 1073741824))), (5, .p 1 0), (4, vI ((i : Nat) : Int)), (1, .p 0 0)], [⟨113, [vI x.client, vI x.id, vI x.acked, vI x.last, .v (.slice x.replies.A x.replies.n x.replies.c)]⟩, ⟨115, [vI (x.replies.at i).seq, vI (x.replies.at i).reply.code, vI (x.replies.at i).reply.n, vS (x.replies.at i).reply.text]⟩]⟩ [] [] (by kernel_rfl) on wn ?_
        cases h4 : inB (x.replies.at i).reply.n 0 1073741824 with
        | true =>
          simp only [inB, Bool.and_eq_true, Bool.and_eq_false_iff, decide_eq_true_eq, decide_eq_false_iff_not] at h4
          refine JL_run 6 [] [49, 5, 4, 1] 2 ⟨[(49, vB (decide ((12 : Int) < ((x.replies.at i).reply.text.size : Int)))), (5, .p 1 0), (4, vI ((i : Nat) : Int)), (1, .p 0 0)], [⟨113, [vI x.client, vI x.id, vI x.acked, vI x.last, .v (.slice x.replies.A x.replies.n x.replies.c)]⟩, ⟨115, [vI (x.replies.at i).seq, vI (x.replies.at i).reply.code, vI (x.replies.at i).reply.n, vS (x.replies.at i).reply.text]⟩]⟩ [] [] (by kernel_rfl) on wn ?_
          refine l_nil (q_then_normal ?_)
          cases h5 : decide ((12 : Int) < ((x.replies.at i).reply.text.size : Int)) with
          | true =>
            have h5 := of_decide_eq_true h5
            refine c_if true rfl ?_
            refine c_seq ?_
            refine c_region ?_
            refine JL_run 1 [] [2] 0 ⟨[(2, vB false)], []⟩ [] [] (by kernel_rfl) on wn ?_
            refine l_nil (q_then_normal ?_)
            refine c_ret ?_
            refine q_then_ret (q_block_ret (q_then_ret (q_then_ret (q_block_ret (q_then_ret (q_ret (.inl rfl) [vB false] rfl (fun bs w hS => ?_)))))))
            refine ⟨?_, hS.kp⟩
            have hm : mReplies x.abs = false := allTo_bad (j := i) (decide_eq_false (fun hk => by simp only [hat, hac] at hk; omega)) (show i < x.abs.replies.length by rw [hln]; omega)
            rw [hm]
            rfl
          | false =>
            have h5 := of_decide_eq_false h5
            refine c_if false rfl ?_
            refine c_skip ?_
            refine q_then_normal ?_
            refine c_region ?_
            refine JL_run 3 [] [3, 4, 1] 1 ⟨[(3, vI (x.replies.at i).seq), (4, vI ((i : Nat) : Int)), (1, .p 0 0)], [⟨113, [vI x.client, vI x.id, vI x.acked, vI x.last, .v (.slice x.replies.A x.replies.n x.replies.c)]⟩]⟩ [] [] (by kernel_rfl) on wn ?_
            refine l_nil (q_block_normal (q_then_normal ?_))
            refine c_region ?_
            refine JL_run 3 [] [4, 3, 1] 1 ⟨[(4, vI (((i : Nat) : Int) + 1)), (3, vI (x.replies.at i).seq), (1, .p 0 0)], [⟨113, [vI x.client, vI x.id, vI x.acked, vI x.last, .v (.slice x.replies.A x.replies.n x.replies.c)]⟩]⟩ [inR (((i : Nat) : Int) + 1)] [] (by kernel_rfl) (oc (by unfold inR; omega) on) wn ?_
            refine l_nil (q_loop (x := (⟨i, la⟩ : Nat × Int)) (⟨i + 1, (x.replies.at i).seq⟩ : Nat × Int) ⟨by omega, allTo_step hI (decide_eq_true (by simp only [hat, hac]; exact ⟨by omega, by omega, by omega, by omega, by omega, by omega, by omega, by omega⟩)), by omega, by omega, fun h => absurd h (by omega), fun _ => rfl⟩ (by show x.replies.n - (i + 1) < x.replies.n - i; omega) (s_start [4, 3, 1] 1 (by kernel_rfl) rfl))
        | false =>
          simp only [inB, Bool.and_eq_true, Bool.and_eq_false_iff, decide_eq_true_eq, decide_eq_false_iff_not] at h4
          refine JL_run 6 [] [49, 5, 4, 1] 2 ⟨[(49, vB true), (5, .p 1 0), (4, vI ((i : Nat) : Int)), (1, .p 0 0)], [⟨113, [vI x.client, vI x.id, vI x.acked, vI x.last, .v (.slice x.replies.A x.replies.n x.replies.c)]⟩, ⟨115, [vI (x.replies.at i).seq, vI (x.replies.at i).reply.code, vI (x.replies.at i).reply.n, vS (x.replies.at i).reply.text]⟩]⟩ [] [] (by kernel_rfl) on wn ?_
          refine l_nil (q_then_normal ?_)
          refine c_if true rfl ?_
          refine c_seq ?_
          refine c_region ?_
          refine JL_run 1 [] [2] 0 ⟨[(2, vB false)], []⟩ [] [] (by kernel_rfl) on wn ?_
          refine l_nil (q_then_normal ?_)
          refine c_ret ?_
          refine q_then_ret (q_block_ret (q_then_ret (q_then_ret (q_block_ret (q_then_ret (q_ret (.inl rfl) [vB false] rfl (fun bs w hS => ?_)))))))
          refine ⟨?_, hS.kp⟩
          have hm : mReplies x.abs = false := allTo_bad (j := i) (decide_eq_false (fun hk => by simp only [hat, hac] at hk; omega)) (show i < x.abs.replies.length by rw [hln]; omega)
          rw [hm]
          rfl
      | false =>
        simp only [inB, Bool.and_eq_true, Bool.and_eq_false_iff, decide_eq_true_eq, decide_eq_false_iff_not] at h3
        refine JL_run 13 [] [49, 5, 4, 1] 2 ⟨[(49, vB true), (5, .p 1 0), (4, vI ((i : Nat) : Int)), (1, .p 0 0)], [⟨113, [vI x.client, vI x.id, vI x.acked, vI x.last, .v (.slice x.replies.A x.replies.n x.replies.c)]⟩, ⟨115, [vI (x.replies.at i).seq, vI (x.replies.at i).reply.code, vI (x.replies.at i).reply.n, vS (x.replies.at i).reply.text]⟩]⟩ [] [] (by kernel_rfl) on wn ?_
        refine l_nil (q_then_normal ?_)
        refine c_if true rfl ?_
        refine c_seq ?_
        refine c_region ?_
        refine JL_run 1 [] [2] 0 ⟨[(2, vB false)], []⟩ [] [] (by kernel_rfl) on wn ?_
        refine l_nil (q_then_normal ?_)
        refine c_ret ?_
        refine q_then_ret (q_block_ret (q_then_ret (q_then_ret (q_block_ret (q_then_ret (q_ret (.inl rfl) [vB false] rfl (fun bs w hS => ?_)))))))
        refine ⟨?_, hS.kp⟩
        have hm : mReplies x.abs = false := allTo_bad (j := i) (decide_eq_false (fun hk => by simp only [hat, hac] at hk; omega)) (show i < x.abs.replies.length by rw [hln]; omega)
        rw [hm]
        rfl
    | false =>
      simp only [inB, Bool.and_eq_true, Bool.and_eq_false_iff, decide_eq_true_eq, decide_eq_false_iff_not] at h2
      refine JL_run 20 [] [49, 5, 4, 1] 2 ⟨[(49, vB true), (5, .p 1 0), (4, vI ((i : Nat) : Int)), (1, .p 0 0)], [⟨113, [vI x.client, vI x.id, vI x.acked, vI x.last, .v (.slice x.replies.A x.replies.n x.replies.c)]⟩, ⟨115, [vI (x.replies.at i).seq, vI (x.replies.at i).reply.code, vI (x.replies.at i).reply.n, vS (x.replies.at i).reply.text]⟩]⟩ [] [] (by kernel_rfl) on wn ?_
      refine l_nil (q_then_normal ?_)
      refine c_if true rfl ?_
      refine c_seq ?_
      refine c_region ?_
      refine JL_run 1 [] [2] 0 ⟨[(2, vB false)], []⟩ [] [] (by kernel_rfl) on wn ?_
      refine l_nil (q_then_normal ?_)
      refine c_ret ?_
      refine q_then_ret (q_block_ret (q_then_ret (q_then_ret (q_block_ret (q_then_ret (q_ret (.inl rfl) [vB false] rfl (fun bs w hS => ?_)))))))
      refine ⟨?_, hS.kp⟩
      have hm : mReplies x.abs = false := allTo_bad (j := i) (decide_eq_false (fun hk => by simp only [hat, hac] at hk; omega)) (show i < x.abs.replies.length by rw [hln]; omega)
      rw [hm]
      rfl
  | false =>
    have h1 := of_decide_eq_false h1
    refine c_if false rfl ?_
    refine c_exit ?_
    refine q_then_exit (q_then_exit (q_block_hit (q_then_normal ?_)))
    refine c_seq ?_
    refine c_region ?_
    refine JL_run 1 [] [2] 0 ⟨[(2, vB true)], []⟩ [] [] (by kernel_rfl) on wn ?_
    refine l_nil (q_then_normal ?_)
    refine c_ret ?_
    refine q_ret (.inl rfl) [vB true] rfl (fun bs w hS => ?_)
    refine ⟨?_, hS.kp⟩
    have hm : mReplies x.abs = true := by show allTo _ x.abs.replies.length = true; rw [hln, show x.replies.n = i by omega]; exact hI
    rw [hm]
    rfl

theorem session_Check {B : Nat → Prop} (s : Sl CSession) (n : Int) (w : World) (hs : s.rd B w) : Calls Try.prog 78 #[.slice s.A s.n s.c, .int .i64 n] w fun e w' => e = .returned (.int .i64 (mSess (s.xs.map CSession.abs) n)) ∧ Kp [] w w' := by
  have oks := Sl.rd.ok hs
  have ncs := Sl.ok.nc oks
  have hns : s.n = s.xs.length := rfl
  have hat : ∀ q, (s.xs.map CSession.abs).getD q default = (s.at q).abs := fun q => sabs_at q
  have hq0 : ∀ q, (s.at q).abs.client = (s.at q).client := fun _ => rfl
  have hq1 : ∀ q, (s.at q).abs.id = (s.at q).id := fun _ => rfl
  have hq2 : ∀ q, (s.at q).abs.acked = (s.at q).acked := fun _ => rfl
  have hq3 : ∀ q, (s.at q).abs.last = (s.at q).last := fun _ => rfl
  have hml : (s.xs.map CSession.abs).length = s.n := by simp
  refine calls_J0 76 Try.func78 rfl rfl [.slice s.A s.n s.c, .int .i64 n] rfl ?_
  refine c_seq ?_
  refine c_region ?_
  refine JL_run 1 [] [0, 1] 0 ⟨[(0, .v (.slice s.A s.n s.c)), (1, vI n)], []⟩ [] [] (by kernel_rfl) on wn ?_
  refine l_nil (q_then_normal ?_)
  refine c_seq ?_
  refine c_seq ?_
  refine c_region ?_
  refine JL_run 3 [] [9, 0, 1] 0 ⟨[(9, vB (decide (n < 0))), (0, .v (.slice s.A s.n s.c)), (1, vI n)], []⟩ [] [] (by kernel_rfl) on wn ?_
  cases h1 : decide (n < 0) with
  | true =>
    have h1 := of_decide_eq_true h1
    refine JL_run 3 [] [12, 0, 1] 0 ⟨[(12, vB true), (0, .v (.slice s.A s.n s.c)), (1, vI n)], []⟩ [] [] (by kernel_rfl) on wn ?_
    refine l_nil (q_then_normal ?_)
    refine c_if true rfl ?_
    refine c_seq ?_
    refine c_region ?_
    refine JL_run 1 [] [4] 0 ⟨[(4, vI 2)], []⟩ [] [] (by kernel_rfl) on wn ?_
    refine l_nil (q_then_normal ?_)
    refine c_ret ?_
    refine q_then_ret (q_ret (.inl rfl) [vI 2] rfl (fun bs w hS => ?_))
    refine ⟨?_, hS.kp⟩
    simp only [retOf, den, List.map_cons, List.map_nil]
    have hm : mSess (s.xs.map CSession.abs) n = 2 := by
      unfold mSess; rw [hml]
      first | rw [if_pos (by omega)] | rw [if_neg (by omega), if_pos (by omega)]
    rw [hm]
  | false =>
    have h1 := of_decide_eq_false h1
    refine JL_run 3 [] [12, 0, 1] 0 ⟨[(12, vB (decide ((1073741824 : Int) < n))), (0, .v (.slice s.A s.n s.c)), (1, vI n)], []⟩ [] [] (by kernel_rfl) on wn ?_
    refine l_nil (q_then_normal ?_)
    cases h2 : decide ((1073741824 : Int) < n) with
    | true =>
      have h2 := of_decide_eq_true h2
      refine c_if true rfl ?_
      refine c_seq ?_
      refine c_region ?_
      refine JL_run 1 [] [4] 0 ⟨[(4, vI 2)], []⟩ [] [] (by kernel_rfl) on wn ?_
      refine l_nil (q_then_normal ?_)
      refine c_ret ?_
      refine q_then_ret (q_ret (.inl rfl) [vI 2] rfl (fun bs w hS => ?_))
      refine ⟨?_, hS.kp⟩
      simp only [retOf, den, List.map_cons, List.map_nil]
      have hm : mSess (s.xs.map CSession.abs) n = 2 := by
        unfold mSess; rw [hml]
        first | rw [if_pos (by omega)] | rw [if_neg (by omega), if_pos (by omega)]
      rw [hm]
    | false =>
      have h2 := of_decide_eq_false h2
      refine c_if false rfl ?_
      refine c_skip ?_
      refine q_then_normal ?_
      refine c_seq ?_
      refine c_seq ?_
      refine c_region ?_
      refine JL_run 3 [] [15, 0, 1] 0 ⟨[(15, vB (decide ((4 : Int) < ((s.n : Nat) : Int)))), (0, .v (.slice s.A s.n s.c)), (1, vI n)], []⟩ [] [] (by kernel_rfl) on wn ?_
      refine l_nil (q_then_normal ?_)
      cases h3 : decide ((4 : Int) < ((s.n : Nat) : Int)) with
      | true =>
        have h3 := of_decide_eq_true h3
        refine c_if true rfl ?_
        refine c_seq ?_
        refine c_region ?_
        refine JL_run 1 [] [4] 0 ⟨[(4, vI 1)], []⟩ [] [] (by kernel_rfl) on wn ?_
        refine l_nil (q_then_normal ?_)
        refine c_ret ?_
        refine q_then_ret (q_ret (.inl rfl) [vI 1] rfl (fun bs w hS => ?_))
        refine ⟨?_, hS.kp⟩
        simp only [retOf, den, List.map_cons, List.map_nil]
        have hm : mSess (s.xs.map CSession.abs) n = 1 := by
          unfold mSess; rw [hml]
          first | rw [if_pos (by omega)] | rw [if_neg (by omega), if_pos (by omega)]
        rw [hm]
      | false =>
        have h3 := of_decide_eq_false h3
        refine c_if false rfl ?_
        refine c_skip ?_
        refine q_then_normal ?_
        refine c_seq ?_
        refine c_seq ?_
        refine c_region ?_
        refine JL_run 3 [] [18, 17, 16, 0, 1] 0 ⟨[(18, vI 0), (17, vI ((s.n : Nat) : Int)), (16, .v (.slice s.A s.n s.c)), (0, .v (.slice s.A s.n s.c)), (1, vI n)], []⟩ [] [] (by kernel_rfl) on wn ?_
        refine l_nil (q_then_normal ?_)
        refine c_block ?_
        refine c_loop (σ := Nat) (fun i => i ≤ s.n ∧ mSess (s.xs.map CSession.abs) n = firstF (sessF (s.xs.map CSession.abs) n) (s.n - i) i) (fun i => s.n - i) (fun i => []) (fun i => ⟨[(18, vI ((i : Nat) : Int)), (17, vI ((s.n : Nat) : Int)), (16, .v (.slice s.A s.n s.c)), (0, .v (.slice s.A s.n s.c)), (1, vI n)], []⟩) 0 ⟨Nat.zero_le _, by unfold mSess; rw [hml, if_neg (by omega), if_neg (by omega)]⟩ (s_start [18, 17, 16, 0, 1] 0 (by kernel_rfl) rfl) ?_
        rintro i ⟨hi, hI⟩
        refine c_seq ?_
        refine c_region ?_
        refine JL_run 1 [] [19, 18, 17, 16, 0, 1] 0 ⟨[(19, vB (decide (((i : Nat) : Int) < ((s.n : Nat) : Int)))), (18, vI ((i : Nat) : Int)), (17, vI ((s.n : Nat) : Int)), (16, .v (.slice s.A s.n s.c)), (0, .v (.slice s.A s.n s.c)), (1, vI n)], []⟩ [] [] (by kernel_rfl) on wn ?_
        refine l_nil (q_then_normal ?_)
        refine c_seq ?_
        cases h4 : decide (((i : Nat) : Int) < ((s.n : Nat) : Int)) with
        | true =>
          have h4 := of_decide_eq_true h4
          refine c_if true rfl ?_
          refine c_skip ?_
          refine q_then_normal ?_
          refine c_seq ?_
          refine c_block ?_
          refine c_seq ?_
          refine c_region ?_
          refine JL_run 6 [(1, .idx s.ad i), (2, .ext [.int .i64 (s.at i).client, .int .i64 (s.at i).id, .int .i64 (s.at i).acked, .int .i64 (s.at i).last, .slice (s.at i).replies.A (s.at i).replies.n (s.at i).replies.c])] [5, 6, 18, 17, 16, 0, 1] 1 ⟨[(5, vI ((i : Nat) : Int)), (6, .p 0 0), (18, vI ((i : Nat) : Int)), (17, vI ((s.n : Nat) : Int)), (16, .v (.slice s.A s.n s.c)), (0, .v (.slice s.A s.n s.c)), (1, vI n)], [⟨113, [vI (s.at i).client, vI (s.at i).id, vI (s.at i).acked, vI (s.at i).last, .v (.slice (s.at i).replies.A (s.at i).replies.n (s.at i).replies.c)]⟩]⟩ [s.A = some s.ad, ((i : Nat) : Int) = ((i : Nat) : Int), i < s.n] [(s.ad.add (i * 5), [.int .i64 (s.at i).client, .int .i64 (s.at i).id, .int .i64 (s.at i).acked, .int .i64 (s.at i).last, .slice (s.at i).replies.A (s.at i).replies.n (s.at i).replies.c])] (by kernel_rfl) (oc (Sl.ok.own (s := s) (i := i) oks (by omega)) (oc rfl (oc (by omega) on))) (fun w hk hr => ⟨(Sl.rd.all (s := s) (i := i) (Sl.rd.kp hs hk) (by omega) rfl), trivial⟩) ?_
          refine l_nil (q_then_normal ?_)
          refine c_seq ?_
          refine c_seq ?_
          refine c_region ?_
          refine JL_run 4 [] [26, 5, 6, 18, 17, 16, 0, 1] 1 ⟨[(26, vB (decide ((s.at i).client < 1))), (5, vI ((i : Nat) : Int)), (6, .p 0 0), (18, vI ((i : Nat) : Int)), (17, vI ((s.n : Nat) : Int)), (16, .v (.slice s.A s.n s.c)), (0, .v (.slice s.A s.n s.c)), (1, vI n)], [⟨113, [vI (s.at i).client, vI (s.at i).id, vI (s.at i).acked, vI (s.at i).last, .v (.slice (s.at i).replies.A (s.at i).replies.n (s.at i).replies.c)]⟩]⟩ [] [] (by kernel_rfl) on wn ?_
          cases h5 : decide ((s.at i).client < 1) with
          | true =>
            have h5 := of_decide_eq_true h5
            refine JL_run 32 [] [58, 5, 6, 18, 17, 16, 0, 1] 1 ⟨[(58, vB true), (5, vI ((i : Nat) : Int)), (6, .p 0 0), (18, vI ((i : Nat) : Int)), (17, vI ((s.n : Nat) : Int)), (16, .v (.slice s.A s.n s.c)), (0, .v (.slice s.A s.n s.c)), (1, vI n)], [⟨113, [vI (s.at i).client, vI (s.at i).id, vI (s.at i).acked, vI (s.at i).last, .v (.slice (s.at i).replies.A (s.at i).replies.n (s.at i).replies.c)]⟩]⟩ [] [] (by kernel_rfl) on wn ?_
            refine l_nil (q_then_normal ?_)
            refine c_if true rfl ?_
            refine c_seq ?_
            refine c_region ?_
            refine JL_run 1 [] [4] 0 ⟨[(4, vI 2)], []⟩ [] [] (by kernel_rfl) on wn ?_
            refine l_nil (q_then_normal ?_)
            refine c_ret ?_
            refine q_then_ret (q_block_ret (q_then_ret (q_then_ret (q_block_ret (q_then_ret (q_ret (.inl rfl) [vI 2] rfl (fun bs w hS => ?_)))))))
            refine ⟨?_, hS.kp⟩
            simp only [retOf, den, List.map_cons, List.map_nil]
            have hf : sessF (s.xs.map CSession.abs) n i = 2 := by
              unfold sessF
              simp only [hat, hq0, hq1, hq2, hq3]
              try simp only [h1, h2, h3, h4, h5, emp_size, ne_eq, not_true_eq_false, not_false_eq_true, true_or, or_true, false_or, or_false, and_true, true_and, and_false, false_and, and_self, or_self, if_true, if_false, Bool.true_eq_false, Bool.false_eq_true, reduceIte, Classical.not_not, Bool.and_eq_true, decide_eq_true_eq]
              repeat (first | rw [if_pos (by omega)] | rw [if_neg (by omega)])
              all_goals first | rfl | (exfalso; omega)
            rw [hI, firstF_here (by omega) hf (by omega)]
          | false =>
            have h5 := of_decide_eq_false h5
            refine JL_run 5 [] [31, 5, 6, 18, 17, 16, 0, 1] 1 ⟨[(31, vB (decide ((9 : Int) < (s.at i).client))), (5, vI ((i : Nat) : Int)), (6, .p 0 0), (18, vI ((i : Nat) : Int)), (17, vI ((s.n : Nat) : Int)), (16, .v (.slice s.A s.n s.c)), (0, .v (.slice s.A s.n s.c)), (1, vI n)], [⟨113, [vI (s.at i).client, vI (s.at i).id, vI (s.at i).acked, vI (s.at i).last, .v (.slice (s.at i).replies.A (s.at i).replies.n (s.at i).replies.c)]⟩]⟩ [] [] (by kernel_rfl) on wn ?_
            cases h6 : decide ((9 : Int) < (s.at i).client) with
            | true =>
              have h6 := of_decide_eq_true h6
              refine JL_run 27 [] [58, 5, 6, 18, 17, 16, 0, 1] 1 ⟨[(58, vB true), (5, vI ((i : Nat) : Int)), (6, .p 0 0), (18, vI ((i : Nat) : Int)), (17, vI ((s.n : Nat) : Int)), (16, .v (.slice s.A s.n s.c)), (0, .v (.slice s.A s.n s.c)), (1, vI n)], [⟨113, [vI (s.at i).client, vI (s.at i).id, vI (s.at i).acked, vI (s.at i).last, .v (.slice (s.at i).replies.A (s.at i).replies.n (s.at i).replies.c)]⟩]⟩ [] [] (by kernel_rfl) on wn ?_
              refine l_nil (q_then_normal ?_)
              refine c_if true rfl ?_
              refine c_seq ?_
              refine c_region ?_
              refine JL_run 1 [] [4] 0 ⟨[(4, vI 2)], []⟩ [] [] (by kernel_rfl) on wn ?_
              refine l_nil (q_then_normal ?_)
              refine c_ret ?_
              refine q_then_ret (q_block_ret (q_then_ret (q_then_ret (q_block_ret (q_then_ret (q_ret (.inl rfl) [vI 2] rfl (fun bs w hS => ?_)))))))
              refine ⟨?_, hS.kp⟩
              simp only [retOf, den, List.map_cons, List.map_nil]
              have hf : sessF (s.xs.map CSession.abs) n i = 2 := by
                unfold sessF
                simp only [hat, hq0, hq1, hq2, hq3]
                try simp only [h1, h2, h3, h4, h5, h6, emp_size, ne_eq, not_true_eq_false, not_false_eq_true, true_or, or_true, false_or, or_false, and_true, true_and, and_false, false_and, and_self, or_self, if_true, if_false, Bool.true_eq_false, Bool.false_eq_true, reduceIte, Classical.not_not, Bool.and_eq_true, decide_eq_true_eq]
                repeat (first | rw [if_pos (by omega)] | rw [if_neg (by omega)])
                all_goals first | rfl | (exfalso; omega)
              rw [hI, firstF_here (by omega) hf (by omega)]
            | false =>
              have h6 := of_decide_eq_false h6
              refine JL_run 5 [] [36, 5, 6, 18, 17, 16, 0, 1] 1 ⟨[(36, vB (decide ((s.at i).acked < 0))), (5, vI ((i : Nat) : Int)), (6, .p 0 0), (18, vI ((i : Nat) : Int)), (17, vI ((s.n : Nat) : Int)), (16, .v (.slice s.A s.n s.c)), (0, .v (.slice s.A s.n s.c)), (1, vI n)], [⟨113, [vI (s.at i).client, vI (s.at i).id, vI (s.at i).acked, vI (s.at i).last, .v (.slice (s.at i).replies.A (s.at i).replies.n (s.at i).replies.c)]⟩]⟩ [] [] (by kernel_rfl) on wn ?_
              cases h7 : decide ((s.at i).acked < 0) with
              | true =>
                have h7 := of_decide_eq_true h7
                refine JL_run 22 [] [58, 5, 6, 18, 17, 16, 0, 1] 1 ⟨[(58, vB true), (5, vI ((i : Nat) : Int)), (6, .p 0 0), (18, vI ((i : Nat) : Int)), (17, vI ((s.n : Nat) : Int)), (16, .v (.slice s.A s.n s.c)), (0, .v (.slice s.A s.n s.c)), (1, vI n)], [⟨113, [vI (s.at i).client, vI (s.at i).id, vI (s.at i).acked, vI (s.at i).last, .v (.slice (s.at i).replies.A (s.at i).replies.n (s.at i).replies.c)]⟩]⟩ [] [] (by kernel_rfl) on wn ?_
                refine l_nil (q_then_normal ?_)
                refine c_if true rfl ?_
                refine c_seq ?_
                refine c_region ?_
                refine JL_run 1 [] [4] 0 ⟨[(4, vI 2)], []⟩ [] [] (by kernel_rfl) on wn ?_
                refine l_nil (q_then_normal ?_)
                refine c_ret ?_
                refine q_then_ret (q_block_ret (q_then_ret (q_then_ret (q_block_ret (q_then_ret (q_ret (.inl rfl) [vI 2] rfl (fun bs w hS => ?_)))))))
                refine ⟨?_, hS.kp⟩
                simp only [retOf, den, List.map_cons, List.map_nil]
                have hf : sessF (s.xs.map CSession.abs) n i = 2 := by
                  unfold sessF
                  simp only [hat, hq0, hq1, hq2, hq3]
                  try simp only [h1, h2, h3, h4, h5, h6, h7, emp_size, ne_eq, not_true_eq_false, not_false_eq_true, true_or, or_true, false_or, or_false, and_true, true_and, and_false, false_and, and_self, or_self, if_true, if_false, Bool.true_eq_false, Bool.false_eq_true, reduceIte, Classical.not_not, Bool.and_eq_true, decide_eq_true_eq]
                  repeat (first | rw [if_pos (by omega)] | rw [if_neg (by omega)])
                  all_goals first | rfl | (exfalso; omega)
                rw [hI, firstF_here (by omega) hf (by omega)]
              | false =>
                have h7 := of_decide_eq_false h7
                refine JL_run 5 [] [41, 5, 6, 18, 17, 16, 0, 1] 1 ⟨[(41, vB (decide ((1048576 : Int) < (s.at i).acked))), (5, vI ((i : Nat) : Int)), (6, .p 0 0), (18, vI ((i : Nat) : Int)), (17, vI ((s.n : Nat) : Int)), (16, .v (.slice s.A s.n s.c)), (0, .v (.slice s.A s.n s.c)), (1, vI n)], [⟨113, [vI (s.at i).client, vI (s.at i).id, vI (s.at i).acked, vI (s.at i).last, .v (.slice (s.at i).replies.A (s.at i).replies.n (s.at i).replies.c)]⟩]⟩ [] [] (by kernel_rfl) on wn ?_
                cases h8 : decide ((1048576 : Int) < (s.at i).acked) with
                | true =>
                  have h8 := of_decide_eq_true h8
                  refine JL_run 17 [] [58, 5, 6, 18, 17, 16, 0, 1] 1 ⟨[(58, vB true), (5, vI ((i : Nat) : Int)), (6, .p 0 0), (18, vI ((i : Nat) : Int)), (17, vI ((s.n : Nat) : Int)), (16, .v (.slice s.A s.n s.c)), (0, .v (.slice s.A s.n s.c)), (1, vI n)], [⟨113, [vI (s.at i).client, vI (s.at i).id, vI (s.at i).acked, vI (s.at i).last, .v (.slice (s.at i).replies.A (s.at i).replies.n (s.at i).replies.c)]⟩]⟩ [] [] (by kernel_rfl) on wn ?_
                  refine l_nil (q_then_normal ?_)
                  refine c_if true rfl ?_
                  refine c_seq ?_
                  refine c_region ?_
                  refine JL_run 1 [] [4] 0 ⟨[(4, vI 2)], []⟩ [] [] (by kernel_rfl) on wn ?_
                  refine l_nil (q_then_normal ?_)
                  refine c_ret ?_
                  refine q_then_ret (q_block_ret (q_then_ret (q_then_ret (q_block_ret (q_then_ret (q_ret (.inl rfl) [vI 2] rfl (fun bs w hS => ?_)))))))
                  refine ⟨?_, hS.kp⟩
                  simp only [retOf, den, List.map_cons, List.map_nil]
                  have hf : sessF (s.xs.map CSession.abs) n i = 2 := by
                    unfold sessF
                    simp only [hat, hq0, hq1, hq2, hq3]
                    try simp only [h1, h2, h3, h4, h5, h6, h7, h8, emp_size, ne_eq, not_true_eq_false, not_false_eq_true, true_or, or_true, false_or, or_false, and_true, true_and, and_false, false_and, and_self, or_self, if_true, if_false, Bool.true_eq_false, Bool.false_eq_true, reduceIte, Classical.not_not, Bool.and_eq_true, decide_eq_true_eq]
                    repeat (first | rw [if_pos (by omega)] | rw [if_neg (by omega)])
                    all_goals first | rfl | (exfalso; omega)
                  rw [hI, firstF_here (by omega) hf (by omega)]
                | false =>
                  have h8 := of_decide_eq_false h8
                  refine JL_run 5 [] [46, 5, 6, 18, 17, 16, 0, 1] 1 ⟨[(46, vB (decide ((s.at i).id < 1))), (5, vI ((i : Nat) : Int)), (6, .p 0 0), (18, vI ((i : Nat) : Int)), (17, vI ((s.n : Nat) : Int)), (16, .v (.slice s.A s.n s.c)), (0, .v (.slice s.A s.n s.c)), (1, vI n)], [⟨113, [vI (s.at i).client, vI (s.at i).id, vI (s.at i).acked, vI (s.at i).last, .v (.slice (s.at i).replies.A (s.at i).replies.n (s.at i).replies.c)]⟩]⟩ [] [] (by kernel_rfl) on wn ?_
                  cases h9 : decide ((s.at i).id < 1) with
                  | true =>
                    have h9 := of_decide_eq_true h9
                    refine JL_run 12 [] [58, 5, 6, 18, 17, 16, 0, 1] 1 ⟨[(58, vB true), (5, vI ((i : Nat) : Int)), (6, .p 0 0), (18, vI ((i : Nat) : Int)), (17, vI ((s.n : Nat) : Int)), (16, .v (.slice s.A s.n s.c)), (0, .v (.slice s.A s.n s.c)), (1, vI n)], [⟨113, [vI (s.at i).client, vI (s.at i).id, vI (s.at i).acked, vI (s.at i).last, .v (.slice (s.at i).replies.A (s.at i).replies.n (s.at i).replies.c)]⟩]⟩ [] [] (by kernel_rfl) on wn ?_
                    refine l_nil (q_then_normal ?_)
                    refine c_if true rfl ?_
                    refine c_seq ?_
                    refine c_region ?_
                    refine JL_run 1 [] [4] 0 ⟨[(4, vI 2)], []⟩ [] [] (by kernel_rfl) on wn ?_
                    refine l_nil (q_then_normal ?_)
                    refine c_ret ?_
                    refine q_then_ret (q_block_ret (q_then_ret (q_then_ret (q_block_ret (q_then_ret (q_ret (.inl rfl) [vI 2] rfl (fun bs w hS => ?_)))))))
                    refine ⟨?_, hS.kp⟩
                    simp only [retOf, den, List.map_cons, List.map_nil]
                    have hf : sessF (s.xs.map CSession.abs) n i = 2 := by
                      unfold sessF
                      simp only [hat, hq0, hq1, hq2, hq3]
                      try simp only [h1, h2, h3, h4, h5, h6, h7, h8, h9, emp_size, ne_eq, not_true_eq_false, not_false_eq_true, true_or, or_true, false_or, or_false, and_true, true_and, and_false, false_and, and_self, or_self, if_true, if_false, Bool.true_eq_false, Bool.false_eq_true, reduceIte, Classical.not_not, Bool.and_eq_true, decide_eq_true_eq]
                      repeat (first | rw [if_pos (by omega)] | rw [if_neg (by omega)])
                      all_goals first | rfl | (exfalso; omega)
                    rw [hI, firstF_here (by omega) hf (by omega)]
                  | false =>
                    have h9 := of_decide_eq_false h9
                    refine JL_run 7 [] [53, 5, 6, 18, 17, 16, 0, 1] 1 ⟨[(53, vB (decide ((s.at i).last < (s.at i).id))), (5, vI ((i : Nat) : Int)), (6, .p 0 0), (18, vI ((i : Nat) : Int)), (17, vI ((s.n : Nat) : Int)), (16, .v (.slice s.A s.n s.c)), (0, .v (.slice s.A s.n s.c)), (1, vI n)], [⟨113, [vI (s.at i).client, vI (s.at i).id, vI (s.at i).acked, vI (s.at i).last, .v (.slice (s.at i).replies.A (s.at i).replies.n (s.at i).replies.c)]⟩]⟩ [] [] (by kernel_rfl) on wn ?_
                    cases h10 : decide ((s.at i).last < (s.at i).id) with
                    | true =>
                      have h10 := of_decide_eq_true h10
                      refine JL_run 5 [] [58, 5, 6, 18, 17, 16, 0, 1] 1 ⟨[(58, vB true), (5, vI ((i : Nat) : Int)), (6, .p 0 0), (18, vI ((i : Nat) : Int)), (17, vI ((s.n : Nat) : Int)), (16, .v (.slice s.A s.n s.c)), (0, .v (.slice s.A s.n s.c)), (1, vI n)], [⟨113, [vI (s.at i).client, vI (s.at i).id, vI (s.at i).acked, vI (s.at i).last, .v (.slice (s.at i).replies.A (s.at i).replies.n (s.at i).replies.c)]⟩]⟩ [] [] (by kernel_rfl) on wn ?_
                      refine l_nil (q_then_normal ?_)
                      refine c_if true rfl ?_
                      refine c_seq ?_
                      refine c_region ?_
                      refine JL_run 1 [] [4] 0 ⟨[(4, vI 2)], []⟩ [] [] (by kernel_rfl) on wn ?_
                      refine l_nil (q_then_normal ?_)
                      refine c_ret ?_
                      refine q_then_ret (q_block_ret (q_then_ret (q_then_ret (q_block_ret (q_then_ret (q_ret (.inl rfl) [vI 2] rfl (fun bs w hS => ?_)))))))
                      refine ⟨?_, hS.kp⟩
                      simp only [retOf, den, List.map_cons, List.map_nil]
                      have hf : sessF (s.xs.map CSession.abs) n i = 2 := by
                        unfold sessF
                        simp only [hat, hq0, hq1, hq2, hq3]
                        try simp only [h1, h2, h3, h4, h5, h6, h7, h8, h9, h10, emp_size, ne_eq, not_true_eq_false, not_false_eq_true, true_or, or_true, false_or, or_false, and_true, true_and, and_false, false_and, and_self, or_self, if_true, if_false, Bool.true_eq_false, Bool.false_eq_true, reduceIte, Classical.not_not, Bool.and_eq_true, decide_eq_true_eq]
                        repeat (first | rw [if_pos (by omega)] | rw [if_neg (by omega)])
                        all_goals first | rfl | (exfalso; omega)
                      rw [hI, firstF_here (by omega) hf (by omega)]
                    | false =>
                      have h10 := of_decide_eq_false h10
                      refine JL_run 5 [] [58, 5, 6, 18, 17, 16, 0, 1] 1 ⟨[(58, vB (decide (n < (s.at i).last))), (5, vI ((i : Nat) : Int)), (6, .p 0 0), (18, vI ((i : Nat) : Int)), (17, vI ((s.n : Nat) : Int)), (16, .v (.slice s.A s.n s.c)), (0, .v (.slice s.A s.n s.c)), (1, vI n)], [⟨113, [vI (s.at i).client, vI (s.at i).id, vI (s.at i).acked, vI (s.at i).last, .v (.slice (s.at i).replies.A (s.at i).replies.n (s.at i).replies.c)]⟩]⟩ [] [] (by kernel_rfl) on wn ?_
                      refine l_nil (q_then_normal ?_)
                      cases h11 : decide (n < (s.at i).last) with
                      | true =>
                        have h11 := of_decide_eq_true h11
                        refine c_if true rfl ?_
                        refine c_seq ?_
                        refine c_region ?_
                        refine JL_run 1 [] [4] 0 ⟨[(4, vI 2)], []⟩ [] [] (by kernel_rfl) on wn ?_
                        refine l_nil (q_then_normal ?_)
                        refine c_ret ?_
                        refine q_then_ret (q_block_ret (q_then_ret (q_then_ret (q_block_ret (q_then_ret (q_ret (.inl rfl) [vI 2] rfl (fun bs w hS => ?_)))))))
                        refine ⟨?_, hS.kp⟩
                        simp only [retOf, den, List.map_cons, List.map_nil]
                        have hf : sessF (s.xs.map CSession.abs) n i = 2 := by
                          unfold sessF
                          simp only [hat, hq0, hq1, hq2, hq3]
                          try simp only [h1, h2, h3, h4, h5, h6, h7, h8, h9, h10, h11, emp_size, ne_eq, not_true_eq_false, not_false_eq_true, true_or, or_true, false_or, or_false, and_true, true_and, and_false, false_and, and_self, or_self, if_true, if_false, Bool.true_eq_false, Bool.false_eq_true, reduceIte, Classical.not_not, Bool.and_eq_true, decide_eq_true_eq]
                          repeat (first | rw [if_pos (by omega)] | rw [if_neg (by omega)])
                          all_goals first | rfl | (exfalso; omega)
                        rw [hI, firstF_here (by omega) hf (by omega)]
                      | false =>
                        have h11 := of_decide_eq_false h11
                        refine c_if false rfl ?_
                        refine c_skip ?_
                        refine q_then_normal ?_
                        refine c_seq ?_
                        refine c_seq ?_
                        refine c_region ?_
                        refine JL_run 1 [] [59, 5, 6, 18, 17, 16, 0, 1] 1 ⟨[(59, .v (.agg #[.int .i64 (s.at i).client, .int .i64 (s.at i).id, .int .i64 (s.at i).acked, .int .i64 (s.at i).last, .slice (s.at i).replies.A (s.at i).replies.n (s.at i).replies.c])), (5, vI ((i : Nat) : Int)), (6, .p 0 0), (18, vI ((i : Nat) : Int)), (17, vI ((s.n : Nat) : Int)), (16, .v (.slice s.A s.n s.c)), (0, .v (.slice s.A s.n s.c)), (1, vI n)], [⟨113, [vI (s.at i).client, vI (s.at i).id, vI (s.at i).acked, vI (s.at i).last, .v (.slice (s.at i).replies.A (s.at i).replies.n (s.at i).replies.c)]⟩]⟩ [] [] (by kernel_rfl) on wn ?_
                        refine l_pure 87 [] [.v (.agg #[.int .i64 (s.at i).client, .int .i64 (s.at i).id, .int .i64 (s.at i).acked, .int .i64 (s.at i).last, .slice (s.at i).replies.A (s.at i).replies.n (s.at i).replies.c])] (.bool (mReplies (s.at i).abs)) Try.call87 rfl rfl rfl rfl (fun bs w hS => session_replies (s.at i) w (Sl.rd.sub (s := s) (i := i) (Sl.rd.kp hs hS.kp) (by omega)) (by first | exact ⟨by omega, by omega⟩ | (simp only [] at *; exact ⟨by omega, by omega⟩))) ?_
                        refine JL_run 1 [] [61, 5, 6, 18, 17, 16, 0, 1] 1 ⟨[(61, vB (!(mReplies (s.at i).abs))), (5, vI ((i : Nat) : Int)), (6, .p 0 0), (18, vI ((i : Nat) : Int)), (17, vI ((s.n : Nat) : Int)), (16, .v (.slice s.A s.n s.c)), (0, .v (.slice s.A s.n s.c)), (1, vI n)], [⟨113, [vI (s.at i).client, vI (s.at i).id, vI (s.at i).acked, vI (s.at i).last, .v (.slice (s.at i).replies.A (s.at i).replies.n (s.at i).replies.c)]⟩]⟩ [] [] (by kernel_rfl) on wn ?_
                        refine l_nil (q_then_normal ?_)
                        cases h12 : mReplies (s.at i).abs with
                        | true =>
                          refine c_if false rfl ?_
                          refine c_skip ?_
                          refine q_then_normal ?_
                          refine c_seq ?_
                          refine c_draw 13 [] (.p 0 (.p 1 (.p 2 (.p 3 (.p 4 (.p 5 (.p 6 (.p 7 (.q 8 (.p 9 (.q 10 (.p 11 (.p 12 .nil))))))))))))) [] [] Try_mixed (by kernel_rfl) (pq_then (pq_block (pq_then (pq_then (pq_block (pq_then pq_body)))))) .slnil ?_
                          refine h_quiet [] [(0, true), (1, true), (2, true)] [(64, vB (decide ((0 : Int) < ((i : Nat) : Int)))), (63, vB (decide ((0 : Int) < ((i : Nat) : Int)))), (62, vI ((i : Nat) : Int)), (61, vB false), (5, vI ((i : Nat) : Int)), (6, .p 0 0), (18, vI ((i : Nat) : Int)), (17, vI ((s.n : Nat) : Int)), (16, .v (.slice s.A s.n s.c)), (0, .v (.slice s.A s.n s.c)), (1, vI n)] [] [] rfl (by kernel_rfl) on wn ?_
                          cases h13 : decide ((0 : Int) < ((i : Nat) : Int)) with
                          | true =>
                            have h13 := of_decide_eq_true h13
                            refine h_quiet [(6, .idx s.ad (i - 1)), (8, .ext [.int .i64 (s.at (i - 1)).client])] [(3, true), (4, true), (5, true), (6, true), (7, true), (8, false), (9, true), (10, false), (11, true), (12, true)] [(74, vB (decide ((s.at i).client ≤ (s.at (i - 1)).client))), (73, vB (decide ((s.at i).client ≤ (s.at (i - 1)).client))), (72, vI (s.at i).client), (71, .p 0 0), (70, vI (s.at (i - 1)).client), (69, .v (.pointer (some ((s.ad.add ((i - 1) * 5)).add 0)))), (68, .v (.pointer (some (s.ad.add ((i - 1) * 5))))), (67, vI (((i : Nat) : Int) - 1)), (66, vI ((i : Nat) : Int)), (65, .v (.slice s.A s.n s.c)), (64, vB true), (63, vB true), (62, vI ((i : Nat) : Int)), (61, vB false), (5, vI ((i : Nat) : Int)), (6, .p 0 0), (18, vI ((i : Nat) : Int)), (17, vI ((s.n : Nat) : Int)), (16, .v (.slice s.A s.n s.c)), (0, .v (.slice s.A s.n s.c)), (1, vI n)] [inR (((i : Nat) : Int) - 1), s.A = some s.ad, ((i : Nat) : Int) - 1 = (((i - 1) : Nat) : Int), (i - 1) < s.n] [((s.ad.add ((i - 1) * 5)).add 0, [.int .i64 (s.at (i - 1)).client])] rfl (by kernel_rfl) (oc (by unfold inR; omega) (oc (Sl.ok.own (s := s) (i := (i - 1)) oks (by omega)) (oc (by omega) (oc (by omega) on)))) (fun w hk hr => ⟨(Sl.rd.fld (s := s) (i := (i - 1)) (Sl.rd.kp hs hk) (by omega) 0 1 rfl), trivial⟩) ?_
                            refine h_nil ?_
                            refine l_nil (q_then_normal ?_)
                            cases h14 : decide ((s.at i).client ≤ (s.at (i - 1)).client) with
                            | true =>
                              have h14 := of_decide_eq_true h14
                              refine c_if true rfl ?_
                              refine c_seq ?_
                              refine c_region ?_
                              refine JL_run 1 [] [4] 0 ⟨[(4, vI 14)], []⟩ [] [] (by kernel_rfl) on wn ?_
                              refine l_nil (q_then_normal ?_)
                              refine c_ret ?_
                              refine q_block_ret (q_then_ret (q_then_ret (q_block_ret (q_then_ret (q_ret (.inl rfl) [vI 14] rfl (fun bs w hS => ?_))))))
                              refine ⟨?_, hS.kp⟩
                              simp only [retOf, den, List.map_cons, List.map_nil]
                              have hf : sessF (s.xs.map CSession.abs) n i = 14 := by
                                unfold sessF
                                simp only [hat, hq0, hq1, hq2, hq3]
                                try simp only [h1, h2, h3, h4, h5, h6, h7, h8, h9, h10, h11, h12, h13, h14, emp_size, ne_eq, not_true_eq_false, not_false_eq_true, true_or, or_true, false_or, or_false, and_true, true_and, and_false, false_and, and_self, or_self, if_true, if_false, Bool.true_eq_false, Bool.false_eq_true, reduceIte, Classical.not_not, Bool.and_eq_true, decide_eq_true_eq]
                                repeat (first | rw [if_pos (by omega)] | rw [if_neg (by omega)])
                                all_goals first | rfl | (exfalso; omega)
                              rw [hI, firstF_here (by omega) hf (by omega)]
                            | false =>
                              have h14 := of_decide_eq_false h14
                              refine c_if false rfl ?_
                              refine c_skip ?_
                              refine q_block_normal (q_then_normal ?_)
                              refine c_region ?_
                              refine JL_run 2 [] [18, 17, 16, 0, 1] 0 ⟨[(18, vI (((i : Nat) : Int) + 1)), (17, vI ((s.n : Nat) : Int)), (16, .v (.slice s.A s.n s.c)), (0, .v (.slice s.A s.n s.c)), (1, vI n)], []⟩ [inR (((i : Nat) : Int) + 1)] [] (by kernel_rfl) (oc (by unfold inR; omega) on) wn ?_
                              have hf0 : sessF (s.xs.map CSession.abs) n i = 0 := by
                                unfold sessF
                                simp only [hat, hq0, hq1, hq2, hq3]
                                try simp only [h1, h2, h3, h4, h5, h6, h7, h8, h9, h10, h11, h12, h13, h14, emp_size, ne_eq, not_true_eq_false, not_false_eq_true, true_or, or_true, false_or, or_false, and_true, true_and, and_false, false_and, and_self, or_self, if_true, if_false, Bool.true_eq_false, Bool.false_eq_true, reduceIte, Classical.not_not, Bool.and_eq_true, decide_eq_true_eq]
                                repeat (first | rw [if_pos (by omega)] | rw [if_neg (by omega)])
                                all_goals first | rfl | (exfalso; omega)
                              refine l_nil (q_loop (x := (i : Nat)) ((i + 1) : Nat) ⟨by omega, by rw [hI]; exact firstF_step (by omega) hf0⟩ (by omega) (s_start [18, 17, 16, 0, 1] 0 (by kernel_rfl) rfl))
                          | false =>
                            have h13 := of_decide_eq_false h13
                            refine h_quiet [] [(3, true), (4, true), (5, true), (6, true), (7, true), (8, false), (9, true), (10, false), (11, true), (12, true)] [(74, vB false), (73, .v (undef)), (72, .v (undef)), (71, .v (undef)), (70, .v (undef)), (69, .v (undef)), (68, .v (undef)), (67, .v (undef)), (66, .v (undef)), (65, .v (undef)), (64, vB false), (63, vB false), (62, vI ((i : Nat) : Int)), (61, vB false), (5, vI ((i : Nat) : Int)), (6, .p 0 0), (18, vI ((i : Nat) : Int)), (17, vI ((s.n : Nat) : Int)), (16, .v (.slice s.A s.n s.c)), (0, .v (.slice s.A s.n s.c)), (1, vI n)] [] [] rfl (by kernel_rfl) on wn ?_
                            refine h_nil ?_
                            refine l_nil (q_then_normal ?_)
                            refine c_if false rfl ?_
                            refine c_skip ?_
                            refine q_block_normal (q_then_normal ?_)
                            refine c_region ?_
                            refine JL_run 2 [] [18, 17, 16, 0, 1] 0 ⟨[(18, vI (((i : Nat) : Int) + 1)), (17, vI ((s.n : Nat) : Int)), (16, .v (.slice s.A s.n s.c)), (0, .v (.slice s.A s.n s.c)), (1, vI n)], []⟩ [inR (((i : Nat) : Int) + 1)] [] (by kernel_rfl) (oc (by unfold inR; omega) on) wn ?_
                            have hf0 : sessF (s.xs.map CSession.abs) n i = 0 := by
                              unfold sessF
                              simp only [hat, hq0, hq1, hq2, hq3]
                              try simp only [h1, h2, h3, h4, h5, h6, h7, h8, h9, h10, h11, h12, h13, emp_size, ne_eq, not_true_eq_false, not_false_eq_true, true_or, or_true, false_or, or_false, and_true, true_and, and_false, false_and, and_self, or_self, if_true, if_false, Bool.true_eq_false, Bool.false_eq_true, reduceIte, Classical.not_not, Bool.and_eq_true, decide_eq_true_eq]
                              repeat (first | rw [if_pos (by omega)] | rw [if_neg (by omega)])
                              all_goals first | rfl | (exfalso; omega)
                            refine l_nil (q_loop (x := (i : Nat)) ((i + 1) : Nat) ⟨by omega, by rw [hI]; exact firstF_step (by omega) hf0⟩ (by omega) (s_start [18, 17, 16, 0, 1] 0 (by kernel_rfl) rfl))
                        | false =>
                          refine c_if true rfl ?_
                          refine c_seq ?_
                          refine c_region ?_
                          refine JL_run 1 [] [4] 0 ⟨[(4, vI 4)], []⟩ [] [] (by kernel_rfl) on wn ?_
                          refine l_nil (q_then_normal ?_)
                          refine c_ret ?_
                          refine q_then_ret (q_block_ret (q_then_ret (q_then_ret (q_block_ret (q_then_ret (q_ret (.inl rfl) [vI 4] rfl (fun bs w hS => ?_)))))))
                          refine ⟨?_, hS.kp⟩
                          simp only [retOf, den, List.map_cons, List.map_nil]
                          have hf : sessF (s.xs.map CSession.abs) n i = 4 := by
                            unfold sessF
                            simp only [hat, hq0, hq1, hq2, hq3]
                            try simp only [h1, h2, h3, h4, h5, h6, h7, h8, h9, h10, h11, h12, emp_size, ne_eq, not_true_eq_false, not_false_eq_true, true_or, or_true, false_or, or_false, and_true, true_and, and_false, false_and, and_self, or_self, if_true, if_false, Bool.true_eq_false, Bool.false_eq_true, reduceIte, Classical.not_not, Bool.and_eq_true, decide_eq_true_eq]
                            repeat (first | rw [if_pos (by omega)] | rw [if_neg (by omega)])
                            all_goals first | rfl | (exfalso; omega)
                          rw [hI, firstF_here (by omega) hf (by omega)]
        | false =>
          have h4 := of_decide_eq_false h4
          refine c_if false rfl ?_
          refine c_exit ?_
          refine q_then_exit (q_then_exit (q_block_hit (q_then_normal ?_)))
          refine c_seq ?_
          refine c_region ?_
          refine JL_run 1 [] [4] 0 ⟨[(4, vI 0)], []⟩ [] [] (by kernel_rfl) on wn ?_
          refine l_nil (q_then_normal ?_)
          refine c_ret ?_
          refine q_ret (.inl rfl) [vI 0] rfl (fun bs w hS => ?_)
          refine ⟨?_, hS.kp⟩
          simp only [retOf, den, List.map_cons, List.map_nil]
          rw [hI, firstF_end (by omega)]

theorem ref_SessionsFault {B : Nat → Prop} (s : Sl CSession) (n : Int) (w : World) (hs : s.rd B w) : Calls Try.prog 82 #[.slice s.A s.n s.c, .int .i64 n] w fun e w' => e = .returned (.int .i64 (mSess (s.xs.map CSession.abs) n)) ∧ Kp [] w w' := by
  have oks := Sl.rd.ok hs
  have ncs := Sl.ok.nc oks
  have hns : s.n = s.xs.length := rfl
  have hat : ∀ q, (s.xs.map CSession.abs).getD q default = (s.at q).abs := fun q => sabs_at q
  have hq0 : ∀ q, (s.at q).abs.client = (s.at q).client := fun _ => rfl
  have hq1 : ∀ q, (s.at q).abs.id = (s.at q).id := fun _ => rfl
  have hq2 : ∀ q, (s.at q).abs.acked = (s.at q).acked := fun _ => rfl
  have hq3 : ∀ q, (s.at q).abs.last = (s.at q).last := fun _ => rfl
  have hml : (s.xs.map CSession.abs).length = s.n := by simp
  refine calls_J0 65 Try.func82 rfl rfl [.slice s.A s.n s.c, .int .i64 n] rfl ?_
  refine c_seq ?_
  refine c_region ?_
  refine JL_run 1 [] [0, 1] 0 ⟨[(0, .v (.slice s.A s.n s.c)), (1, vI n)], []⟩ [] [] (by kernel_rfl) on wn ?_
  refine l_nil (q_then_normal ?_)
  refine c_seq ?_
  refine c_seq ?_
  refine c_region ?_
  refine JL_run 1 [] [7, 0, 1] 0 ⟨[(7, vI n), (0, .v (.slice s.A s.n s.c)), (1, vI n)], []⟩ [] [] (by kernel_rfl) on wn ?_
  refine l_pure 64 [] [vI n, vI 0, vI 1073741824] (.bool (inB n 0 1073741824)) Try.call64 rfl rfl rfl rfl (fun bs w hS => ref_In _ _ _ w) ?_
  refine JL_run 1 [] [9, 0, 1] 0 ⟨[(9, vB (!(inB n 0 1073741824))), (0, .v (.slice s.A s.n s.c)), (1, vI n)], []⟩ [] [] (by kernel_rfl) on wn ?_
  refine l_nil (q_then_normal ?_)
  cases h1 : inB n 0 1073741824 with
  | true =>
    simp only [inB, Bool.and_eq_true, Bool.and_eq_false_iff, decide_eq_true_eq, decide_eq_false_iff_not] at h1
    refine c_if false rfl ?_
    refine c_skip ?_
    refine q_then_normal ?_
    refine c_seq ?_
    refine c_seq ?_
    refine c_region ?_
    refine JL_run 3 [] [12, 0, 1] 0 ⟨[(12, vB (decide ((4 : Int) < ((s.n : Nat) : Int)))), (0, .v (.slice s.A s.n s.c)), (1, vI n)], []⟩ [] [] (by kernel_rfl) on wn ?_
    refine l_nil (q_then_normal ?_)
    cases h2 : decide ((4 : Int) < ((s.n : Nat) : Int)) with
    | true =>
      have h2 := of_decide_eq_true h2
      refine c_if true rfl ?_
      refine c_seq ?_
      refine c_region ?_
      refine JL_run 1 [] [4] 0 ⟨[(4, vI 1)], []⟩ [] [] (by kernel_rfl) on wn ?_
      refine l_nil (q_then_normal ?_)
      refine c_ret ?_
      refine q_then_ret (q_ret (.inl rfl) [vI 1] rfl (fun bs w hS => ?_))
      refine ⟨?_, hS.kp⟩
      simp only [retOf, den, List.map_cons, List.map_nil]
      have hm : mSess (s.xs.map CSession.abs) n = 1 := by
        unfold mSess; rw [hml]
        first | rw [if_pos (by omega)] | rw [if_neg (by omega), if_pos (by omega)]
      rw [hm]
    | false =>
      have h2 := of_decide_eq_false h2
      refine c_if false rfl ?_
      refine c_skip ?_
      refine q_then_normal ?_
      refine c_seq ?_
      refine c_seq ?_
      refine c_region ?_
      refine JL_run 1 [] [5, 0, 1] 0 ⟨[(5, vI 0), (0, .v (.slice s.A s.n s.c)), (1, vI n)], []⟩ [] [] (by kernel_rfl) on wn ?_
      refine l_nil (q_then_normal ?_)
      refine c_block ?_
      refine c_loop (σ := Nat) (fun i => i ≤ s.n ∧ mSess (s.xs.map CSession.abs) n = firstF (sessF (s.xs.map CSession.abs) n) (s.n - i) i) (fun i => s.n - i) (fun i => []) (fun i => ⟨[(5, vI ((i : Nat) : Int)), (0, .v (.slice s.A s.n s.c)), (1, vI n)], []⟩) 0 ⟨Nat.zero_le _, by unfold mSess; rw [hml, if_neg (by omega), if_neg (by omega)]⟩ (s_start [5, 0, 1] 0 (by kernel_rfl) rfl) ?_
      rintro i ⟨hi, hI⟩
      refine c_seq ?_
      refine c_seq ?_
      refine c_region ?_
      refine JL_run 4 [] [16, 5, 0, 1] 0 ⟨[(16, vB (decide (((i : Nat) : Int) < ((s.n : Nat) : Int)))), (5, vI ((i : Nat) : Int)), (0, .v (.slice s.A s.n s.c)), (1, vI n)], []⟩ [] [] (by kernel_rfl) on wn ?_
      refine l_nil (q_then_normal ?_)
      cases h3 : decide (((i : Nat) : Int) < ((s.n : Nat) : Int)) with
      | true =>
        have h3 := of_decide_eq_true h3
        refine c_if true rfl ?_
        refine c_skip ?_
        refine q_then_normal ?_
        refine c_seq ?_
        refine c_block ?_
        refine c_seq ?_
        refine c_region ?_
        refine JL_run 6 [(2, .idx s.ad i), (3, .ext [.int .i64 (s.at i).client, .int .i64 (s.at i).id, .int .i64 (s.at i).acked, .int .i64 (s.at i).last, .slice (s.at i).replies.A (s.at i).replies.n (s.at i).replies.c])] [6, 5, 0, 1] 1 ⟨[(6, .p 0 0), (5, vI ((i : Nat) : Int)), (0, .v (.slice s.A s.n s.c)), (1, vI n)], [⟨113, [vI (s.at i).client, vI (s.at i).id, vI (s.at i).acked, vI (s.at i).last, .v (.slice (s.at i).replies.A (s.at i).replies.n (s.at i).replies.c)]⟩]⟩ [s.A = some s.ad, ((i : Nat) : Int) = ((i : Nat) : Int), i < s.n] [(s.ad.add (i * 5), [.int .i64 (s.at i).client, .int .i64 (s.at i).id, .int .i64 (s.at i).acked, .int .i64 (s.at i).last, .slice (s.at i).replies.A (s.at i).replies.n (s.at i).replies.c])] (by kernel_rfl) (oc (Sl.ok.own (s := s) (i := i) oks (by omega)) (oc rfl (oc (by omega) on))) (fun w hk hr => ⟨(Sl.rd.all (s := s) (i := i) (Sl.rd.kp hs hk) (by omega) rfl), trivial⟩) ?_
        refine l_nil (q_then_normal ?_)
        refine c_seq ?_
        refine c_seq ?_
        refine c_region ?_
        refine JL_run 2 [] [24, 6, 5, 0, 1] 1 ⟨[(24, vI (s.at i).client), (6, .p 0 0), (5, vI ((i : Nat) : Int)), (0, .v (.slice s.A s.n s.c)), (1, vI n)], [⟨113, [vI (s.at i).client, vI (s.at i).id, vI (s.at i).acked, vI (s.at i).last, .v (.slice (s.at i).replies.A (s.at i).replies.n (s.at i).replies.c)]⟩]⟩ [] [] (by kernel_rfl) on wn ?_
        refine l_pure 64 [] [vI (s.at i).client, vI 1, vI 9] (.bool (inB (s.at i).client 1 9)) Try.call64 rfl rfl rfl rfl (fun bs w hS => ref_In _ _ _ w) ?_
        refine JL_run 2 [] [27, 6, 5, 0, 1] 1 ⟨[(27, vB (!(inB (s.at i).client 1 9))), (6, .p 0 0), (5, vI ((i : Nat) : Int)), (0, .v (.slice s.A s.n s.c)), (1, vI n)], [⟨113, [vI (s.at i).client, vI (s.at i).id, vI (s.at i).acked, vI (s.at i).last, .v (.slice (s.at i).replies.A (s.at i).replies.n (s.at i).replies.c)]⟩]⟩ [] [] (by kernel_rfl) on wn ?_
        cases h4 : inB (s.at i).client 1 9 with
        | true =>
          simp only [inB, Bool.and_eq_true, Bool.and_eq_false_iff, decide_eq_true_eq, decide_eq_false_iff_not] at h4
          refine JL_run 2 [] [29, 27, 6, 5, 0, 1] 1 ⟨[(29, vI (s.at i).acked), (27, vB false), (6, .p 0 0), (5, vI ((i : Nat) : Int)), (0, .v (.slice s.A s.n s.c)), (1, vI n)], [⟨113, [vI (s.at i).client, vI (s.at i).id, vI (s.at i).acked, vI (s.at i).last, .v (.slice (s.at i).replies.A (s.at i).replies.n (s.at i).replies.c)]⟩]⟩ [] [] (by kernel_rfl) on wn ?_
          refine l_pure 64 [] [vI (s.at i).acked, vI 0, vI 1048576] (.bool (inB (s.at i).acked 0 1048576)) Try.call64 rfl rfl rfl rfl (fun bs w hS => ref_In _ _ _ w) ?_
          refine JL_run 3 [] [33, 6, 5, 0, 1] 1 ⟨[(33, vB (!(inB (s.at i).acked 0 1048576))), (6, .p 0 0), (5, vI ((i : Nat) : Int)), (0, .v (.slice s.A s.n s.c)), (1, vI n)], [⟨113, [vI (s.at i).client, vI (s.at i).id, vI (s.at i).acked, vI (s.at i).last, .v (.slice (s.at i).replies.A (s.at i).replies.n (s.at i).replies.c)]⟩]⟩ [] [] (by kernel_rfl) on wn ?_
          cases h5 : inB (s.at i).acked 0 1048576 with
          | true =>
            simp only [inB, Bool.and_eq_true, Bool.and_eq_false_iff, decide_eq_true_eq, decide_eq_false_iff_not] at h5
            refine JL_run 3 [] [36, 35, 33, 6, 5, 0, 1] 1 ⟨[(36, vI n), (35, vI (s.at i).id), (33, vB false), (6, .p 0 0), (5, vI ((i : Nat) : Int)), (0, .v (.slice s.A s.n s.c)), (1, vI n)], [⟨113, [vI (s.at i).client, vI (s.at i).id, vI (s.at i).acked, vI (s.at i).last, .v (.slice (s.at i).replies.A (s.at i).replies.n (s.at i).replies.c)]⟩]⟩ [] [] (by kernel_rfl) on wn ?_
            refine l_pure 64 [] [vI (s.at i).id, vI 1, vI n] (.bool (inB (s.at i).id 1 n)) Try.call64 rfl rfl rfl rfl (fun bs w hS => ref_In _ _ _ w) ?_
            refine JL_run 3 [] [40, 6, 5, 0, 1] 1 ⟨[(40, vB (!(inB (s.at i).id 1 n))), (6, .p 0 0), (5, vI ((i : Nat) : Int)), (0, .v (.slice s.A s.n s.c)), (1, vI n)], [⟨113, [vI (s.at i).client, vI (s.at i).id, vI (s.at i).acked, vI (s.at i).last, .v (.slice (s.at i).replies.A (s.at i).replies.n (s.at i).replies.c)]⟩]⟩ [] [] (by kernel_rfl) on wn ?_
            cases h6 : inB (s.at i).id 1 n with
            | true =>
              simp only [inB, Bool.and_eq_true, Bool.and_eq_false_iff, decide_eq_true_eq, decide_eq_false_iff_not] at h6
              refine JL_run 5 [] [45, 44, 42, 40, 6, 5, 0, 1] 1 ⟨[(45, vI n), (44, vI (s.at i).id), (42, vI (s.at i).last), (40, vB false), (6, .p 0 0), (5, vI ((i : Nat) : Int)), (0, .v (.slice s.A s.n s.c)), (1, vI n)], [⟨113, [vI (s.at i).client, vI (s.at i).id, vI (s.at i).acked, vI (s.at i).last, .v (.slice (s.at i).replies.A (s.at i).replies.n (s.at i).replies.c)]⟩]⟩ [] [] (by kernel_rfl) on wn ?_
              refine l_pure 64 [] [vI (s.at i).last, vI (s.at i).id, vI n] (.bool (inB (s.at i).last (s.at i).id n)) Try.call64 rfl rfl rfl rfl (fun bs w hS => ref_In _ _ _ w) ?_
              refine JL_run 2 [] [48, 6, 5, 0, 1] 1 ⟨[(48, vB (!(inB (s.at i).last (s.at i).id n))), (6, .p 0 0), (5, vI ((i : Nat) : Int)), (0, .v (.slice s.A s.n s.c)), (1, vI n)], [⟨113, [vI (s.at i).client, vI (s.at i).id, vI (s.at i).acked, vI (s.at i).last, .v (.slice (s.at i).replies.A (s.at i).replies.n (s.at i).replies.c)]⟩]⟩ [] [] (by kernel_rfl) on wn ?_
              refine l_nil (q_then_normal ?_)
              cases h7 : inB (s.at i).last (s.at i).id n with
              | true =>
                simp only [inB, Bool.and_eq_true, Bool.and_eq_false_iff, decide_eq_true_eq, decide_eq_false_iff_not] at h7
                refine c_if false rfl ?_
                refine c_skip ?_
                refine q_then_normal ?_
                refine c_seq ?_
                refine c_seq ?_
                refine c_region ?_
                refine JL_run 1 [] [49, 6, 5, 0, 1] 1 ⟨[(49, .v (.agg #[.int .i64 (s.at i).client, .int .i64 (s.at i).id, .int .i64 (s.at i).acked, .int .i64 (s.at i).last, .slice (s.at i).replies.A (s.at i).replies.n (s.at i).replies.c])), (6, .p 0 0), (5, vI ((i : Nat) : Int)), (0, .v (.slice s.A s.n s.c)), (1, vI n)], [⟨113, [vI (s.at i).client, vI (s.at i).id, vI (s.at i).acked, vI (s.at i).last, .v (.slice (s.at i).replies.A (s.at i).replies.n (s.at i).replies.c)]⟩]⟩ [] [] (by kernel_rfl) on wn ?_
                refine l_pure 88 [] [.v (.agg #[.int .i64 (s.at i).client, .int .i64 (s.at i).id, .int .i64 (s.at i).acked, .int .i64 (s.at i).last, .slice (s.at i).replies.A (s.at i).replies.n (s.at i).replies.c])] (.bool (mReplies (s.at i).abs)) Try.call88 rfl rfl rfl rfl (fun bs w hS => ref_repliesMay (s.at i) w (Sl.rd.sub (s := s) (i := i) (Sl.rd.kp hs hS.kp) (by omega)) (by first | exact ⟨by omega, by omega⟩ | (simp only [] at *; exact ⟨by omega, by omega⟩))) ?_
                refine JL_run 1 [] [51, 6, 5, 0, 1] 1 ⟨[(51, vB (!(mReplies (s.at i).abs))), (6, .p 0 0), (5, vI ((i : Nat) : Int)), (0, .v (.slice s.A s.n s.c)), (1, vI n)], [⟨113, [vI (s.at i).client, vI (s.at i).id, vI (s.at i).acked, vI (s.at i).last, .v (.slice (s.at i).replies.A (s.at i).replies.n (s.at i).replies.c)]⟩]⟩ [] [] (by kernel_rfl) on wn ?_
                refine l_nil (q_then_normal ?_)
                cases h8 : mReplies (s.at i).abs with
                | true =>
                  refine c_if false rfl ?_
                  refine c_skip ?_
                  refine q_then_normal ?_
                  refine c_seq ?_
                  refine c_draw 13 [] (.p 0 (.p 1 (.p 2 (.p 3 (.q 4 (.p 5 (.p 6 (.p 7 (.p 8 (.p 9 (.q 10 (.p 11 (.p 12 .nil))))))))))))) [] [] Try_mixed (by kernel_rfl) (pq_then (pq_block (pq_then (pq_then (pq_block (pq_then pq_body)))))) .slnil ?_
                  refine h_quiet [] [(0, true), (1, true), (2, true)] [(54, vB (decide ((0 : Int) < ((i : Nat) : Int)))), (53, vB (decide ((0 : Int) < ((i : Nat) : Int)))), (52, vI ((i : Nat) : Int)), (51, vB false), (6, .p 0 0), (5, vI ((i : Nat) : Int)), (0, .v (.slice s.A s.n s.c)), (1, vI n)] [] [] rfl (by kernel_rfl) on wn ?_
                  cases h9 : decide ((0 : Int) < ((i : Nat) : Int)) with
                  | true =>
                    have h9 := of_decide_eq_true h9
                    refine h_quiet [(8, .idx s.ad (i - 1)), (10, .ext [.int .i64 (s.at (i - 1)).client])] [(3, true), (4, false), (5, true), (6, true), (7, true), (8, true), (9, true), (10, false), (11, true), (12, true)] [(64, vB (decide ((s.at i).client ≤ (s.at (i - 1)).client))), (63, vB (decide ((s.at i).client ≤ (s.at (i - 1)).client))), (62, vI (s.at (i - 1)).client), (61, .v (.pointer (some ((s.ad.add ((i - 1) * 5)).add 0)))), (60, .v (.pointer (some (s.ad.add ((i - 1) * 5))))), (59, vI (((i : Nat) : Int) - 1)), (58, vI ((i : Nat) : Int)), (57, .v (.slice s.A s.n s.c)), (56, vI (s.at i).client), (55, .p 0 0), (54, vB true), (53, vB true), (52, vI ((i : Nat) : Int)), (51, vB false), (6, .p 0 0), (5, vI ((i : Nat) : Int)), (0, .v (.slice s.A s.n s.c)), (1, vI n)] [inR (((i : Nat) : Int) - 1), s.A = some s.ad, ((i : Nat) : Int) - 1 = (((i - 1) : Nat) : Int), (i - 1) < s.n] [((s.ad.add ((i - 1) * 5)).add 0, [.int .i64 (s.at (i - 1)).client])] rfl (by kernel_rfl) (oc (by unfold inR; omega) (oc (Sl.ok.own (s := s) (i := (i - 1)) oks (by omega)) (oc (by omega) (oc (by omega) on)))) (fun w hk hr => ⟨(Sl.rd.fld (s := s) (i := (i - 1)) (Sl.rd.kp hs hk) (by omega) 0 1 rfl), trivial⟩) ?_
                    refine h_nil ?_
                    refine l_nil (q_then_normal ?_)
                    cases h10 : decide ((s.at i).client ≤ (s.at (i - 1)).client) with
                    | true =>
                      have h10 := of_decide_eq_true h10
                      refine c_if true rfl ?_
                      refine c_seq ?_
                      refine c_region ?_
                      refine JL_run 1 [] [4] 0 ⟨[(4, vI 14)], []⟩ [] [] (by kernel_rfl) on wn ?_
                      refine l_nil (q_then_normal ?_)
                      refine c_ret ?_
                      refine q_block_ret (q_then_ret (q_then_ret (q_block_ret (q_then_ret (q_ret (.inl rfl) [vI 14] rfl (fun bs w hS => ?_))))))
                      refine ⟨?_, hS.kp⟩
                      simp only [retOf, den, List.map_cons, List.map_nil]
                      have hf : sessF (s.xs.map CSession.abs) n i = 14 := by
                        unfold sessF
                        simp only [hat, hq0, hq1, hq2, hq3]
                        try simp only [h1, h2, h3, h4, h5, h6, h7, h8, h9, h10, emp_size, ne_eq, not_true_eq_false, not_false_eq_true, true_or, or_true, false_or, or_false, and_true, true_and, and_false, false_and, and_self, or_self, if_true, if_false, Bool.true_eq_false, Bool.false_eq_true, reduceIte, Classical.not_not, Bool.and_eq_true, decide_eq_true_eq]
                        repeat (first | rw [if_pos (by omega)] | rw [if_neg (by omega)])
                        all_goals first | rfl | (exfalso; omega)
                      rw [hI, firstF_here (by omega) hf (by omega)]
                    | false =>
                      have h10 := of_decide_eq_false h10
                      refine c_if false rfl ?_
                      refine c_skip ?_
                      refine q_block_normal (q_then_normal ?_)
                      refine c_region ?_
                      refine JL_run 3 [] [5, 0, 1] 0 ⟨[(5, vI (((i : Nat) : Int) + 1)), (0, .v (.slice s.A s.n s.c)), (1, vI n)], []⟩ [inR (((i : Nat) : Int) + 1)] [] (by kernel_rfl) (oc (by unfold inR; omega) on) wn ?_
                      have hf0 : sessF (s.xs.map CSession.abs) n i = 0 := by
                        unfold sessF
                        simp only [hat, hq0, hq1, hq2, hq3]
                        try simp only [h1, h2, h3, h4, h5, h6, h7, h8, h9, h10, emp_size, ne_eq, not_true_eq_false, not_false_eq_true, true_or, or_true, false_or, or_false, and_true, true_and, and_false, false_and, and_self, or_self, if_true, if_false, Bool.true_eq_false, Bool.false_eq_true, reduceIte, Classical.not_not, Bool.and_eq_true, decide_eq_true_eq]
                        repeat (first | rw [if_pos (by omega)] | rw [if_neg (by omega)])
                        all_goals first | rfl | (exfalso; omega)
                      refine l_nil (q_loop (x := (i : Nat)) ((i + 1) : Nat) ⟨by omega, by rw [hI]; exact firstF_step (by omega) hf0⟩ (by omega) (s_start [5, 0, 1] 0 (by kernel_rfl) rfl))
                  | false =>
                    have h9 := of_decide_eq_false h9
                    refine h_quiet [] [(3, true), (4, false), (5, true), (6, true), (7, true), (8, true), (9, true), (10, false), (11, true), (12, true)] [(64, vB false), (63, .v (undef)), (62, .v (undef)), (61, .v (undef)), (60, .v (undef)), (59, .v (undef)), (58, .v (undef)), (57, .v (undef)), (56, .v (undef)), (55, .v (undef)), (54, vB false), (53, vB false), (52, vI ((i : Nat) : Int)), (51, vB false), (6, .p 0 0), (5, vI ((i : Nat) : Int)), (0, .v (.slice s.A s.n s.c)), (1, vI n)] [] [] rfl (by kernel_rfl) on wn ?_
                    refine h_nil ?_
                    refine l_nil (q_then_normal ?_)
                    refine c_if false rfl ?_
                    refine c_skip ?_
                    refine q_block_normal (q_then_normal ?_)
                    refine c_region ?_
                    refine JL_run 3 [] [5, 0, 1] 0 ⟨[(5, vI (((i : Nat) : Int) + 1)), (0, .v (.slice s.A s.n s.c)), (1, vI n)], []⟩ [inR (((i : Nat) : Int) + 1)] [] (by kernel_rfl) (oc (by unfold inR; omega) on) wn ?_
                    have hf0 : sessF (s.xs.map CSession.abs) n i = 0 := by
                      unfold sessF
                      simp only [hat, hq0, hq1, hq2, hq3]
                      try simp only [h1, h2, h3, h4, h5, h6, h7, h8, h9, emp_size, ne_eq, not_true_eq_false, not_false_eq_true, true_or, or_true, false_or, or_false, and_true, true_and, and_false, false_and, and_self, or_self, if_true, if_false, Bool.true_eq_false, Bool.false_eq_true, reduceIte, Classical.not_not, Bool.and_eq_true, decide_eq_true_eq]
                      repeat (first | rw [if_pos (by omega)] | rw [if_neg (by omega)])
                      all_goals first | rfl | (exfalso; omega)
                    refine l_nil (q_loop (x := (i : Nat)) ((i + 1) : Nat) ⟨by omega, by rw [hI]; exact firstF_step (by omega) hf0⟩ (by omega) (s_start [5, 0, 1] 0 (by kernel_rfl) rfl))
                | false =>
                  refine c_if true rfl ?_
                  refine c_seq ?_
                  refine c_region ?_
                  refine JL_run 1 [] [4] 0 ⟨[(4, vI 4)], []⟩ [] [] (by kernel_rfl) on wn ?_
                  refine l_nil (q_then_normal ?_)
                  refine c_ret ?_
                  refine q_then_ret (q_block_ret (q_then_ret (q_then_ret (q_block_ret (q_then_ret (q_ret (.inl rfl) [vI 4] rfl (fun bs w hS => ?_)))))))
                  refine ⟨?_, hS.kp⟩
                  simp only [retOf, den, List.map_cons, List.map_nil]
                  have hf : sessF (s.xs.map CSession.abs) n i = 4 := by
                    unfold sessF
                    simp only [hat, hq0, hq1, hq2, hq3]
                    try simp only [h1, h2, h3, h4, h5, h6, h7, h8, emp_size, ne_eq, not_true_eq_false, not_false_eq_true, true_or, or_true, false_or, or_false, and_true, true_and, and_false, false_and, and_self, or_self, if_true, if_false, Bool.true_eq_false, Bool.false_eq_true, reduceIte, Classical.not_not, Bool.and_eq_true, decide_eq_true_eq]
                    repeat (first | rw [if_pos (by omega)] | rw [if_neg (by omega)])
                    all_goals first | rfl | (exfalso; omega)
                  rw [hI, firstF_here (by omega) hf (by omega)]
              | false =>
                simp only [inB, Bool.and_eq_true, Bool.and_eq_false_iff, decide_eq_true_eq, decide_eq_false_iff_not] at h7
                refine c_if true rfl ?_
                refine c_seq ?_
                refine c_region ?_
                refine JL_run 1 [] [4] 0 ⟨[(4, vI 2)], []⟩ [] [] (by kernel_rfl) on wn ?_
                refine l_nil (q_then_normal ?_)
                refine c_ret ?_
                refine q_then_ret (q_block_ret (q_then_ret (q_then_ret (q_block_ret (q_then_ret (q_ret (.inl rfl) [vI 2] rfl (fun bs w hS => ?_)))))))
                refine ⟨?_, hS.kp⟩
                simp only [retOf, den, List.map_cons, List.map_nil]
                have hf : sessF (s.xs.map CSession.abs) n i = 2 := by
                  unfold sessF
                  simp only [hat, hq0, hq1, hq2, hq3]
                  try simp only [h1, h2, h3, h4, h5, h6, h7, emp_size, ne_eq, not_true_eq_false, not_false_eq_true, true_or, or_true, false_or, or_false, and_true, true_and, and_false, false_and, and_self, or_self, if_true, if_false, Bool.true_eq_false, Bool.false_eq_true, reduceIte, Classical.not_not, Bool.and_eq_true, decide_eq_true_eq]
                  repeat (first | rw [if_pos (by omega)] | rw [if_neg (by omega)])
                  all_goals first | rfl | (exfalso; omega)
                rw [hI, firstF_here (by omega) hf (by omega)]
            | false =>
              simp only [inB, Bool.and_eq_true, Bool.and_eq_false_iff, decide_eq_true_eq, decide_eq_false_iff_not] at h6
              refine JL_run 8 [] [48, 6, 5, 0, 1] 1 ⟨[(48, vB true), (6, .p 0 0), (5, vI ((i : Nat) : Int)), (0, .v (.slice s.A s.n s.c)), (1, vI n)], [⟨113, [vI (s.at i).client, vI (s.at i).id, vI (s.at i).acked, vI (s.at i).last, .v (.slice (s.at i).replies.A (s.at i).replies.n (s.at i).replies.c)]⟩]⟩ [] [] (by kernel_rfl) on wn ?_
              refine l_nil (q_then_normal ?_)
              refine c_if true rfl ?_
              refine c_seq ?_
              refine c_region ?_
              refine JL_run 1 [] [4] 0 ⟨[(4, vI 2)], []⟩ [] [] (by kernel_rfl) on wn ?_
              refine l_nil (q_then_normal ?_)
              refine c_ret ?_
              refine q_then_ret (q_block_ret (q_then_ret (q_then_ret (q_block_ret (q_then_ret (q_ret (.inl rfl) [vI 2] rfl (fun bs w hS => ?_)))))))
              refine ⟨?_, hS.kp⟩
              simp only [retOf, den, List.map_cons, List.map_nil]
              have hf : sessF (s.xs.map CSession.abs) n i = 2 := by
                unfold sessF
                simp only [hat, hq0, hq1, hq2, hq3]
                try simp only [h1, h2, h3, h4, h5, h6, emp_size, ne_eq, not_true_eq_false, not_false_eq_true, true_or, or_true, false_or, or_false, and_true, true_and, and_false, false_and, and_self, or_self, if_true, if_false, Bool.true_eq_false, Bool.false_eq_true, reduceIte, Classical.not_not, Bool.and_eq_true, decide_eq_true_eq]
                repeat (first | rw [if_pos (by omega)] | rw [if_neg (by omega)])
                all_goals first | rfl | (exfalso; omega)
              rw [hI, firstF_here (by omega) hf (by omega)]
          | false =>
            simp only [inB, Bool.and_eq_true, Bool.and_eq_false_iff, decide_eq_true_eq, decide_eq_false_iff_not] at h5
            refine JL_run 15 [] [48, 6, 5, 0, 1] 1 ⟨[(48, vB true), (6, .p 0 0), (5, vI ((i : Nat) : Int)), (0, .v (.slice s.A s.n s.c)), (1, vI n)], [⟨113, [vI (s.at i).client, vI (s.at i).id, vI (s.at i).acked, vI (s.at i).last, .v (.slice (s.at i).replies.A (s.at i).replies.n (s.at i).replies.c)]⟩]⟩ [] [] (by kernel_rfl) on wn ?_
            refine l_nil (q_then_normal ?_)
            refine c_if true rfl ?_
            refine c_seq ?_
            refine c_region ?_
            refine JL_run 1 [] [4] 0 ⟨[(4, vI 2)], []⟩ [] [] (by kernel_rfl) on wn ?_
            refine l_nil (q_then_normal ?_)
            refine c_ret ?_
            refine q_then_ret (q_block_ret (q_then_ret (q_then_ret (q_block_ret (q_then_ret (q_ret (.inl rfl) [vI 2] rfl (fun bs w hS => ?_)))))))
            refine ⟨?_, hS.kp⟩
            simp only [retOf, den, List.map_cons, List.map_nil]
            have hf : sessF (s.xs.map CSession.abs) n i = 2 := by
              unfold sessF
              simp only [hat, hq0, hq1, hq2, hq3]
              try simp only [h1, h2, h3, h4, h5, emp_size, ne_eq, not_true_eq_false, not_false_eq_true, true_or, or_true, false_or, or_false, and_true, true_and, and_false, false_and, and_self, or_self, if_true, if_false, Bool.true_eq_false, Bool.false_eq_true, reduceIte, Classical.not_not, Bool.and_eq_true, decide_eq_true_eq]
              repeat (first | rw [if_pos (by omega)] | rw [if_neg (by omega)])
              all_goals first | rfl | (exfalso; omega)
            rw [hI, firstF_here (by omega) hf (by omega)]
        | false =>
          simp only [inB, Bool.and_eq_true, Bool.and_eq_false_iff, decide_eq_true_eq, decide_eq_false_iff_not] at h4
          refine JL_run 21 [] [48, 6, 5, 0, 1] 1 ⟨[(48, vB true), (6, .p 0 0), (5, vI ((i : Nat) : Int)), (0, .v (.slice s.A s.n s.c)), (1, vI n)], [⟨113, [vI (s.at i).client, vI (s.at i).id, vI (s.at i).acked, vI (s.at i).last, .v (.slice (s.at i).replies.A (s.at i).replies.n (s.at i).replies.c)]⟩]⟩ [] [] (by kernel_rfl) on wn ?_
          refine l_nil (q_then_normal ?_)
          refine c_if true rfl ?_
          refine c_seq ?_
          refine c_region ?_
          refine JL_run 1 [] [4] 0 ⟨[(4, vI 2)], []⟩ [] [] (by kernel_rfl) on wn ?_
          refine l_nil (q_then_normal ?_)
          refine c_ret ?_
          refine q_then_ret (q_block_ret (q_then_ret (q_then_ret (q_block_ret (q_then_ret (q_ret (.inl rfl) [vI 2] rfl (fun bs w hS => ?_)))))))
          refine ⟨?_, hS.kp⟩
          simp only [retOf, den, List.map_cons, List.map_nil]
          have hf : sessF (s.xs.map CSession.abs) n i = 2 := by
            unfold sessF
            simp only [hat, hq0, hq1, hq2, hq3]
            try simp only [h1, h2, h3, h4, emp_size, ne_eq, not_true_eq_false, not_false_eq_true, true_or, or_true, false_or, or_false, and_true, true_and, and_false, false_and, and_self, or_self, if_true, if_false, Bool.true_eq_false, Bool.false_eq_true, reduceIte, Classical.not_not, Bool.and_eq_true, decide_eq_true_eq]
            repeat (first | rw [if_pos (by omega)] | rw [if_neg (by omega)])
            all_goals first | rfl | (exfalso; omega)
          rw [hI, firstF_here (by omega) hf (by omega)]
      | false =>
        have h3 := of_decide_eq_false h3
        refine c_if false rfl ?_
        refine c_exit ?_
        refine q_then_exit (q_then_exit (q_block_hit (q_then_normal ?_)))
        refine c_seq ?_
        refine c_region ?_
        refine JL_run 1 [] [4] 0 ⟨[(4, vI 0)], []⟩ [] [] (by kernel_rfl) on wn ?_
        refine l_nil (q_then_normal ?_)
        refine c_ret ?_
        refine q_ret (.inl rfl) [vI 0] rfl (fun bs w hS => ?_)
        refine ⟨?_, hS.kp⟩
        simp only [retOf, den, List.map_cons, List.map_nil]
        rw [hI, firstF_end (by omega)]
  | false =>
    simp only [inB, Bool.and_eq_true, Bool.and_eq_false_iff, decide_eq_true_eq, decide_eq_false_iff_not] at h1
    refine c_if true rfl ?_
    refine c_seq ?_
    refine c_region ?_
    refine JL_run 1 [] [4] 0 ⟨[(4, vI 2)], []⟩ [] [] (by kernel_rfl) on wn ?_
    refine l_nil (q_then_normal ?_)
    refine c_ret ?_
    refine q_then_ret (q_ret (.inl rfl) [vI 2] rfl (fun bs w hS => ?_))
    refine ⟨?_, hS.kp⟩
    simp only [retOf, den, List.map_cons, List.map_nil]
    have hm : mSess (s.xs.map CSession.abs) n = 2 := by
      unfold mSess; rw [hml]
      first | rw [if_pos (by omega)] | rw [if_neg (by omega), if_pos (by omega)]
    rw [hm]

theorem pair_Check {B : Nat → Prop} (s : Sl DPair) (w : World) (hs : s.rd B w) : Calls Try.prog 89 #[.slice s.A s.n s.c] w fun e w' => e = .returned (.int .i64 (mPairs s.xs)) ∧ Kp [] w w' := by
  have oks := Sl.rd.ok hs
  have ncs := Sl.ok.nc oks
  have hns : s.n = s.xs.length := rfl
  refine calls_J0 45 Try.func89 rfl rfl [.slice s.A s.n s.c] rfl ?_
  refine c_seq ?_
  refine c_region ?_
  refine JL_run 1 [] [0] 0 ⟨[(0, .v (.slice s.A s.n s.c))], []⟩ [] [] (by kernel_rfl) on wn ?_
  refine l_nil (q_then_normal ?_)
  refine c_seq ?_
  refine c_seq ?_
  refine c_region ?_
  refine JL_run 3 [] [7, 0] 0 ⟨[(7, vB (decide ((5 : Int) < ((s.n : Nat) : Int)))), (0, .v (.slice s.A s.n s.c))], []⟩ [] [] (by kernel_rfl) on wn ?_
  refine l_nil (q_then_normal ?_)
  cases h1 : decide ((5 : Int) < ((s.n : Nat) : Int)) with
  | true =>
    have h1 := of_decide_eq_true h1
    refine c_if true rfl ?_
    refine c_seq ?_
    refine c_region ?_
    refine JL_run 1 [] [2] 0 ⟨[(2, vI 1)], []⟩ [] [] (by kernel_rfl) on wn ?_
    refine l_nil (q_then_normal ?_)
    refine c_ret ?_
    refine q_then_ret (q_ret (.inl rfl) [vI 1] rfl (fun bs w hS => ?_))
    refine ⟨?_, hS.kp⟩
    simp only [retOf, den, List.map_cons, List.map_nil]
    have hm : mPairs s.xs = 1 := by
      unfold mPairs; rw [if_pos (by omega)]
    rw [hm]
  | false =>
    have h1 := of_decide_eq_false h1
    refine c_if false rfl ?_
    refine c_skip ?_
    refine q_then_normal ?_
    refine c_seq ?_
    refine c_seq ?_
    refine c_region ?_
    refine JL_run 3 [] [10, 9, 8, 0] 0 ⟨[(10, vI 0), (9, vI ((s.n : Nat) : Int)), (8, .v (.slice s.A s.n s.c)), (0, .v (.slice s.A s.n s.c))], []⟩ [] [] (by kernel_rfl) on wn ?_
    refine l_nil (q_then_normal ?_)
    refine c_block ?_
    refine c_loop (σ := Nat) (fun i => i ≤ s.n ∧ mPairs s.xs = firstF (pairF s.xs) (s.n - i) i) (fun i => s.n - i) (fun i => []) (fun i => ⟨[(10, vI ((i : Nat) : Int)), (9, vI ((s.n : Nat) : Int)), (8, .v (.slice s.A s.n s.c)), (0, .v (.slice s.A s.n s.c))], []⟩) 0 ⟨Nat.zero_le _, by unfold mPairs; rw [if_neg (by omega)]⟩ (s_start [10, 9, 8, 0] 0 (by kernel_rfl) rfl) ?_
    rintro i ⟨hi, hI⟩
    have hlt := hi
    refine c_seq ?_
    refine c_region ?_
    refine JL_run 1 [] [11, 10, 9, 8, 0] 0 ⟨[(11, vB (decide (((i : Nat) : Int) < ((s.n : Nat) : Int)))), (10, vI ((i : Nat) : Int)), (9, vI ((s.n : Nat) : Int)), (8, .v (.slice s.A s.n s.c)), (0, .v (.slice s.A s.n s.c))], []⟩ [] [] (by kernel_rfl) on wn ?_
    refine l_nil (q_then_normal ?_)
    refine c_seq ?_
    cases h2 : decide (((i : Nat) : Int) < ((s.n : Nat) : Int)) with
    | true =>
      have h2 := of_decide_eq_true h2
      refine c_if true rfl ?_
      refine c_skip ?_
      refine q_then_normal ?_
      refine c_seq ?_
      refine c_block ?_
      refine c_seq ?_
      refine c_region ?_
      refine JL_run 6 [(1, .idx s.ad i), (2, .ext [.string (s.at i).name, .string (s.at i).value, .int .i64 (s.at i).version])] [3, 4, 10, 9, 8, 0] 1 ⟨[(3, vI ((i : Nat) : Int)), (4, .p 0 0), (10, vI ((i : Nat) : Int)), (9, vI ((s.n : Nat) : Int)), (8, .v (.slice s.A s.n s.c)), (0, .v (.slice s.A s.n s.c))], [⟨110, [vS (s.at i).name, vS (s.at i).value, vI (s.at i).version]⟩]⟩ [s.A = some s.ad, ((i : Nat) : Int) = ((i : Nat) : Int), i < s.n] [(s.ad.add (i * 3), [.string (s.at i).name, .string (s.at i).value, .int .i64 (s.at i).version])] (by kernel_rfl) (oc (Sl.ok.own (s := s) (i := i) oks (by omega)) (oc rfl (oc (by omega) on))) (fun w hk hr => ⟨(Sl.rd.all (s := s) (i := i) (Sl.rd.kp hs hk) (by omega) rfl), trivial⟩) ?_
      refine l_nil (q_then_normal ?_)
      refine c_seq ?_
      refine c_seq ?_
      refine c_region ?_
      refine JL_run 2 [] [16, 3, 4, 10, 9, 8, 0] 1 ⟨[(16, vS (s.at i).name), (3, vI ((i : Nat) : Int)), (4, .p 0 0), (10, vI ((i : Nat) : Int)), (9, vI ((s.n : Nat) : Int)), (8, .v (.slice s.A s.n s.c)), (0, .v (.slice s.A s.n s.c))], [⟨110, [vS (s.at i).name, vS (s.at i).value, vI (s.at i).version]⟩]⟩ [] [] (by kernel_rfl) on wn ?_
      refine l_pure 90 [] [vS (s.at i).name] (.bool (mName (s.at i).name)) Try.call90 rfl rfl rfl rfl (fun bs w hS => lock_Name _ w (And.left (Sl.ok.at (s := s) (i := i) oks (by omega)))) ?_
      refine JL_run 1 [] [18, 3, 4, 10, 9, 8, 0] 1 ⟨[(18, vB (!(mName (s.at i).name))), (3, vI ((i : Nat) : Int)), (4, .p 0 0), (10, vI ((i : Nat) : Int)), (9, vI ((s.n : Nat) : Int)), (8, .v (.slice s.A s.n s.c)), (0, .v (.slice s.A s.n s.c))], [⟨110, [vS (s.at i).name, vS (s.at i).value, vI (s.at i).version]⟩]⟩ [] [] (by kernel_rfl) on wn ?_
      refine l_nil (q_then_normal ?_)
      cases h3 : mName (s.at i).name with
      | true =>
        refine c_if false rfl ?_
        refine c_skip ?_
        refine q_then_normal ?_
        refine c_seq ?_
        refine c_seq ?_
        refine c_region ?_
        refine JL_run 4 [] [22, 3, 4, 10, 9, 8, 0] 1 ⟨[(22, vB (decide ((12 : Int) < ((s.at i).value.size : Int)))), (3, vI ((i : Nat) : Int)), (4, .p 0 0), (10, vI ((i : Nat) : Int)), (9, vI ((s.n : Nat) : Int)), (8, .v (.slice s.A s.n s.c)), (0, .v (.slice s.A s.n s.c))], [⟨110, [vS (s.at i).name, vS (s.at i).value, vI (s.at i).version]⟩]⟩ [] [] (by kernel_rfl) on wn ?_
        refine l_nil (q_then_normal ?_)
        cases h4 : decide ((12 : Int) < ((s.at i).value.size : Int)) with
        | true =>
          have h4 := of_decide_eq_true h4
          refine c_if true rfl ?_
          refine c_seq ?_
          refine c_region ?_
          refine JL_run 1 [] [2] 0 ⟨[(2, vI 1)], []⟩ [] [] (by kernel_rfl) on wn ?_
          refine l_nil (q_then_normal ?_)
          refine c_ret ?_
          refine q_then_ret (q_block_ret (q_then_ret (q_then_ret (q_block_ret (q_then_ret (q_ret (.inl rfl) [vI 1] rfl (fun bs w hS => ?_)))))))
          refine ⟨?_, hS.kp⟩
          simp only [retOf, den, List.map_cons, List.map_nil]
          have hf : pairF s.xs i = 1 := by
            have hat : ∀ q, s.xs.getD q default = s.at q := fun _ => rfl
            unfold pairF
            simp only [hat]
            try simp only [h1, h2, h3, h4, emp_size, ne_eq, not_true_eq_false, not_false_eq_true, true_or, or_true, false_or, or_false, and_true, true_and, and_false, false_and, and_self, or_self, if_true, if_false, Bool.true_eq_false, Bool.false_eq_true, reduceIte, Classical.not_not, Bool.and_eq_true, decide_eq_true_eq]
            repeat (first | rw [if_pos (by omega)] | rw [if_neg (by omega)])
            all_goals first | rfl | (exfalso; omega)
          rw [hI, firstF_here (by omega) hf (by omega)]
        | false =>
          have h4 := of_decide_eq_false h4
          refine c_if false rfl ?_
          refine c_skip ?_
          refine q_then_normal ?_
          refine c_seq ?_
          refine c_seq ?_
          refine c_region ?_
          refine JL_run 4 [] [26, 3, 4, 10, 9, 8, 0] 1 ⟨[(26, vB (decide ((s.at i).version < 1))), (3, vI ((i : Nat) : Int)), (4, .p 0 0), (10, vI ((i : Nat) : Int)), (9, vI ((s.n : Nat) : Int)), (8, .v (.slice s.A s.n s.c)), (0, .v (.slice s.A s.n s.c))], [⟨110, [vS (s.at i).name, vS (s.at i).value, vI (s.at i).version]⟩]⟩ [] [] (by kernel_rfl) on wn ?_
          cases h5 : decide ((s.at i).version < 1) with
          | true =>
            have h5 := of_decide_eq_true h5
            refine JL_run 4 [] [30, 3, 4, 10, 9, 8, 0] 1 ⟨[(30, vB true), (3, vI ((i : Nat) : Int)), (4, .p 0 0), (10, vI ((i : Nat) : Int)), (9, vI ((s.n : Nat) : Int)), (8, .v (.slice s.A s.n s.c)), (0, .v (.slice s.A s.n s.c))], [⟨110, [vS (s.at i).name, vS (s.at i).value, vI (s.at i).version]⟩]⟩ [] [] (by kernel_rfl) on wn ?_
            refine l_nil (q_then_normal ?_)
            refine c_if true rfl ?_
            refine c_seq ?_
            refine c_region ?_
            refine JL_run 1 [] [2] 0 ⟨[(2, vI 2)], []⟩ [] [] (by kernel_rfl) on wn ?_
            refine l_nil (q_then_normal ?_)
            refine c_ret ?_
            refine q_then_ret (q_block_ret (q_then_ret (q_then_ret (q_block_ret (q_then_ret (q_ret (.inl rfl) [vI 2] rfl (fun bs w hS => ?_)))))))
            refine ⟨?_, hS.kp⟩
            simp only [retOf, den, List.map_cons, List.map_nil]
            have hf : pairF s.xs i = 2 := by
              have hat : ∀ q, s.xs.getD q default = s.at q := fun _ => rfl
              unfold pairF
              simp only [hat]
              try simp only [h1, h2, h3, h4, h5, emp_size, ne_eq, not_true_eq_false, not_false_eq_true, true_or, or_true, false_or, or_false, and_true, true_and, and_false, false_and, and_self, or_self, if_true, if_false, Bool.true_eq_false, Bool.false_eq_true, reduceIte, Classical.not_not, Bool.and_eq_true, decide_eq_true_eq]
              repeat (first | rw [if_pos (by omega)] | rw [if_neg (by omega)])
              all_goals first | rfl | (exfalso; omega)
            rw [hI, firstF_here (by omega) hf (by omega)]
          | false =>
            have h5 := of_decide_eq_false h5
            refine JL_run 4 [] [30, 3, 4, 10, 9, 8, 0] 1 ⟨[(30, vB (decide ((1073741824 : Int) < (s.at i).version))), (3, vI ((i : Nat) : Int)), (4, .p 0 0), (10, vI ((i : Nat) : Int)), (9, vI ((s.n : Nat) : Int)), (8, .v (.slice s.A s.n s.c)), (0, .v (.slice s.A s.n s.c))], [⟨110, [vS (s.at i).name, vS (s.at i).value, vI (s.at i).version]⟩]⟩ [] [] (by kernel_rfl) on wn ?_
            refine l_nil (q_then_normal ?_)
            cases h6 : decide ((1073741824 : Int) < (s.at i).version) with
            | true =>
              have h6 := of_decide_eq_true h6
              refine c_if true rfl ?_
              refine c_seq ?_
              refine c_region ?_
              refine JL_run 1 [] [2] 0 ⟨[(2, vI 2)], []⟩ [] [] (by kernel_rfl) on wn ?_
              refine l_nil (q_then_normal ?_)
              refine c_ret ?_
              refine q_then_ret (q_block_ret (q_then_ret (q_then_ret (q_block_ret (q_then_ret (q_ret (.inl rfl) [vI 2] rfl (fun bs w hS => ?_)))))))
              refine ⟨?_, hS.kp⟩
              simp only [retOf, den, List.map_cons, List.map_nil]
              have hf : pairF s.xs i = 2 := by
                have hat : ∀ q, s.xs.getD q default = s.at q := fun _ => rfl
                unfold pairF
                simp only [hat]
                try simp only [h1, h2, h3, h4, h5, h6, emp_size, ne_eq, not_true_eq_false, not_false_eq_true, true_or, or_true, false_or, or_false, and_true, true_and, and_false, false_and, and_self, or_self, if_true, if_false, Bool.true_eq_false, Bool.false_eq_true, reduceIte, Classical.not_not, Bool.and_eq_true, decide_eq_true_eq]
                repeat (first | rw [if_pos (by omega)] | rw [if_neg (by omega)])
                all_goals first | rfl | (exfalso; omega)
              rw [hI, firstF_here (by omega) hf (by omega)]
            | false =>
              have h6 := of_decide_eq_false h6
              refine c_if false rfl ?_
              refine c_skip ?_
              refine q_then_normal ?_
              refine c_seq ?_
              refine c_draw 13 [] (.p 0 (.p 1 (.p 2 (.p 3 (.p 4 (.p 5 (.p 6 (.p 7 (.q 8 (.p 9 (.q 10 (.p 11 (.p 12 .nil))))))))))))) [] [] Try_mixed (by kernel_rfl) (pq_then (pq_block (pq_then (pq_then (pq_block (pq_then pq_body)))))) .slnil ?_
              refine h_quiet [] [(0, true), (1, true), (2, true)] [(33, vB (decide ((0 : Int) < ((i : Nat) : Int)))), (32, vB (decide ((0 : Int) < ((i : Nat) : Int)))), (31, vI ((i : Nat) : Int)), (30, vB false), (3, vI ((i : Nat) : Int)), (4, .p 0 0), (10, vI ((i : Nat) : Int)), (9, vI ((s.n : Nat) : Int)), (8, .v (.slice s.A s.n s.c)), (0, .v (.slice s.A s.n s.c))] [] [] rfl (by kernel_rfl) on wn ?_
              cases h7 : decide ((0 : Int) < ((i : Nat) : Int)) with
              | true =>
                have h7 := of_decide_eq_true h7
                refine h_quiet [(6, .idx s.ad (i - 1)), (8, .ext [.string (s.at (i - 1)).name])] [(3, true), (4, true), (5, true), (6, true), (7, true), (8, false), (9, true), (10, false), (11, true), (12, true)] [(43, vB (!(Op.bytesLess ((s.at (i - 1)).name).toList ((s.at i).name).toList))), (42, vB (!(Op.bytesLess ((s.at (i - 1)).name).toList ((s.at i).name).toList))), (41, vS (s.at i).name), (40, .p 0 0), (39, vS (s.at (i - 1)).name), (38, .v (.pointer (some ((s.ad.add ((i - 1) * 3)).add 0)))), (37, .v (.pointer (some (s.ad.add ((i - 1) * 3))))), (36, vI (((i : Nat) : Int) - 1)), (35, vI ((i : Nat) : Int)), (34, .v (.slice s.A s.n s.c)), (33, vB true), (32, vB true), (31, vI ((i : Nat) : Int)), (30, vB false), (3, vI ((i : Nat) : Int)), (4, .p 0 0), (10, vI ((i : Nat) : Int)), (9, vI ((s.n : Nat) : Int)), (8, .v (.slice s.A s.n s.c)), (0, .v (.slice s.A s.n s.c))] [inR (((i : Nat) : Int) - 1), s.A = some s.ad, ((i : Nat) : Int) - 1 = (((i - 1) : Nat) : Int), (i - 1) < s.n] [((s.ad.add ((i - 1) * 3)).add 0, [.string (s.at (i - 1)).name])] rfl (by kernel_rfl) (oc (by unfold inR; omega) (oc (Sl.ok.own (s := s) (i := (i - 1)) oks (by omega)) (oc (by omega) (oc (by omega) on)))) (fun w hk hr => ⟨(Sl.rd.fld (s := s) (i := (i - 1)) (Sl.rd.kp hs hk) (by omega) 0 1 rfl), trivial⟩) ?_
                refine h_nil ?_
                refine l_nil (q_then_normal ?_)
                cases h8 : Op.bytesLess ((s.at (i - 1)).name).toList ((s.at i).name).toList with
                | true =>
                  refine c_if false rfl ?_
                  refine c_skip ?_
                  refine q_block_normal (q_then_normal ?_)
                  refine c_region ?_
                  refine JL_run 2 [] [10, 9, 8, 0] 0 ⟨[(10, vI (((i : Nat) : Int) + 1)), (9, vI ((s.n : Nat) : Int)), (8, .v (.slice s.A s.n s.c)), (0, .v (.slice s.A s.n s.c))], []⟩ [inR (((i : Nat) : Int) + 1)] [] (by kernel_rfl) (oc (by unfold inR; omega) on) wn ?_
                  have hf0 : pairF s.xs i = 0 := by
                    have hat : ∀ q, s.xs.getD q default = s.at q := fun _ => rfl
                    unfold pairF
                    simp only [hat]
                    try simp only [h1, h2, h3, h4, h5, h6, h7, h8, emp_size, ne_eq, not_true_eq_false, not_false_eq_true, true_or, or_true, false_or, or_false, and_true, true_and, and_false, false_and, and_self, or_self, if_true, if_false, Bool.true_eq_false, Bool.false_eq_true, reduceIte, Classical.not_not, Bool.and_eq_true, decide_eq_true_eq]
                    repeat (first | rw [if_pos (by omega)] | rw [if_neg (by omega)])
                    all_goals first | rfl | (exfalso; omega)
                  refine l_nil (q_loop (x := (i : Nat)) ((i + 1) : Nat) ⟨by omega, by rw [hI]; exact firstF_step (by omega) hf0⟩ (by omega) (s_start [10, 9, 8, 0] 0 (by kernel_rfl) rfl))
                | false =>
                  refine c_if true rfl ?_
                  refine c_seq ?_
                  refine c_region ?_
                  refine JL_run 1 [] [2] 0 ⟨[(2, vI 14)], []⟩ [] [] (by kernel_rfl) on wn ?_
                  refine l_nil (q_then_normal ?_)
                  refine c_ret ?_
                  refine q_block_ret (q_then_ret (q_then_ret (q_block_ret (q_then_ret (q_ret (.inl rfl) [vI 14] rfl (fun bs w hS => ?_))))))
                  refine ⟨?_, hS.kp⟩
                  simp only [retOf, den, List.map_cons, List.map_nil]
                  have hf : pairF s.xs i = 14 := by
                    have hat : ∀ q, s.xs.getD q default = s.at q := fun _ => rfl
                    unfold pairF
                    simp only [hat]
                    try simp only [h1, h2, h3, h4, h5, h6, h7, h8, emp_size, ne_eq, not_true_eq_false, not_false_eq_true, true_or, or_true, false_or, or_false, and_true, true_and, and_false, false_and, and_self, or_self, if_true, if_false, Bool.true_eq_false, Bool.false_eq_true, reduceIte, Classical.not_not, Bool.and_eq_true, decide_eq_true_eq]
                    repeat (first | rw [if_pos (by omega)] | rw [if_neg (by omega)])
                    all_goals first | rfl | (exfalso; omega)
                  rw [hI, firstF_here (by omega) hf (by omega)]
              | false =>
                have h7 := of_decide_eq_false h7
                refine h_quiet [] [(3, true), (4, true), (5, true), (6, true), (7, true), (8, false), (9, true), (10, false), (11, true), (12, true)] [(43, vB false), (42, .v (undef)), (41, .v (undef)), (40, .v (undef)), (39, .v (undef)), (38, .v (undef)), (37, .v (undef)), (36, .v (undef)), (35, .v (undef)), (34, .v (undef)), (33, vB false), (32, vB false), (31, vI ((i : Nat) : Int)), (30, vB false), (3, vI ((i : Nat) : Int)), (4, .p 0 0), (10, vI ((i : Nat) : Int)), (9, vI ((s.n : Nat) : Int)), (8, .v (.slice s.A s.n s.c)), (0, .v (.slice s.A s.n s.c))] [] [] rfl (by kernel_rfl) on wn ?_
                refine h_nil ?_
                refine l_nil (q_then_normal ?_)
                refine c_if false rfl ?_
                refine c_skip ?_
                refine q_block_normal (q_then_normal ?_)
                refine c_region ?_
                refine JL_run 2 [] [10, 9, 8, 0] 0 ⟨[(10, vI (((i : Nat) : Int) + 1)), (9, vI ((s.n : Nat) : Int)), (8, .v (.slice s.A s.n s.c)), (0, .v (.slice s.A s.n s.c))], []⟩ [inR (((i : Nat) : Int) + 1)] [] (by kernel_rfl) (oc (by unfold inR; omega) on) wn ?_
                have hf0 : pairF s.xs i = 0 := by
                  have hat : ∀ q, s.xs.getD q default = s.at q := fun _ => rfl
                  unfold pairF
                  simp only [hat]
                  try simp only [h1, h2, h3, h4, h5, h6, h7, emp_size, ne_eq, not_true_eq_false, not_false_eq_true, true_or, or_true, false_or, or_false, and_true, true_and, and_false, false_and, and_self, or_self, if_true, if_false, Bool.true_eq_false, Bool.false_eq_true, reduceIte, Classical.not_not, Bool.and_eq_true, decide_eq_true_eq]
                  repeat (first | rw [if_pos (by omega)] | rw [if_neg (by omega)])
                  all_goals first | rfl | (exfalso; omega)
                refine l_nil (q_loop (x := (i : Nat)) ((i + 1) : Nat) ⟨by omega, by rw [hI]; exact firstF_step (by omega) hf0⟩ (by omega) (s_start [10, 9, 8, 0] 0 (by kernel_rfl) rfl))
      | false =>
        refine c_if true rfl ?_
        refine c_seq ?_
        refine c_region ?_
        refine JL_run 1 [] [2] 0 ⟨[(2, vI 4)], []⟩ [] [] (by kernel_rfl) on wn ?_
        refine l_nil (q_then_normal ?_)
        refine c_ret ?_
        refine q_then_ret (q_block_ret (q_then_ret (q_then_ret (q_block_ret (q_then_ret (q_ret (.inl rfl) [vI 4] rfl (fun bs w hS => ?_)))))))
        refine ⟨?_, hS.kp⟩
        simp only [retOf, den, List.map_cons, List.map_nil]
        have hf : pairF s.xs i = 4 := by
          have hat : ∀ q, s.xs.getD q default = s.at q := fun _ => rfl
          unfold pairF
          simp only [hat]
          try simp only [h1, h2, h3, emp_size, ne_eq, not_true_eq_false, not_false_eq_true, true_or, or_true, false_or, or_false, and_true, true_and, and_false, false_and, and_self, or_self, if_true, if_false, Bool.true_eq_false, Bool.false_eq_true, reduceIte, Classical.not_not, Bool.and_eq_true, decide_eq_true_eq]
          repeat (first | rw [if_pos (by omega)] | rw [if_neg (by omega)])
          all_goals first | rfl | (exfalso; omega)
        rw [hI, firstF_here (by omega) hf (by omega)]
    | false =>
      have h2 := of_decide_eq_false h2
      refine c_if false rfl ?_
      refine c_exit ?_
      refine q_then_exit (q_then_exit (q_block_hit (q_then_normal ?_)))
      refine c_seq ?_
      refine c_region ?_
      refine JL_run 1 [] [2] 0 ⟨[(2, vI 0)], []⟩ [] [] (by kernel_rfl) on wn ?_
      refine l_nil (q_then_normal ?_)
      refine c_ret ?_
      refine q_ret (.inl rfl) [vI 0] rfl (fun bs w hS => ?_)
      refine ⟨?_, hS.kp⟩
      simp only [retOf, den, List.map_cons, List.map_nil]
      rw [hI, firstF_end (by omega)]

theorem ref_PairsFault {B : Nat → Prop} (s : Sl DPair) (w : World) (hs : s.rd B w) : Calls Try.prog 94 #[.slice s.A s.n s.c] w fun e w' => e = .returned (.int .i64 (mPairs s.xs)) ∧ Kp [] w w' := by
  have oks := Sl.rd.ok hs
  have ncs := Sl.ok.nc oks
  have hns : s.n = s.xs.length := rfl
  refine calls_J0 50 Try.func94 rfl rfl [.slice s.A s.n s.c] rfl ?_
  refine c_seq ?_
  refine c_region ?_
  refine JL_run 1 [] [0] 0 ⟨[(0, .v (.slice s.A s.n s.c))], []⟩ [] [] (by kernel_rfl) on wn ?_
  refine l_nil (q_then_normal ?_)
  refine c_seq ?_
  refine c_seq ?_
  refine c_region ?_
  refine JL_run 3 [] [6, 0] 0 ⟨[(6, vB (decide ((5 : Int) < ((s.n : Nat) : Int)))), (0, .v (.slice s.A s.n s.c))], []⟩ [] [] (by kernel_rfl) on wn ?_
  refine l_nil (q_then_normal ?_)
  cases h1 : decide ((5 : Int) < ((s.n : Nat) : Int)) with
  | true =>
    have h1 := of_decide_eq_true h1
    refine c_if true rfl ?_
    refine c_seq ?_
    refine c_region ?_
    refine JL_run 1 [] [2] 0 ⟨[(2, vI 1)], []⟩ [] [] (by kernel_rfl) on wn ?_
    refine l_nil (q_then_normal ?_)
    refine c_ret ?_
    refine q_then_ret (q_ret (.inl rfl) [vI 1] rfl (fun bs w hS => ?_))
    refine ⟨?_, hS.kp⟩
    simp only [retOf, den, List.map_cons, List.map_nil]
    have hm : mPairs s.xs = 1 := by
      unfold mPairs; rw [if_pos (by omega)]
    rw [hm]
  | false =>
    have h1 := of_decide_eq_false h1
    refine c_if false rfl ?_
    refine c_skip ?_
    refine q_then_normal ?_
    refine c_seq ?_
    refine c_seq ?_
    refine c_region ?_
    refine JL_run 1 [] [3, 0] 0 ⟨[(3, vI 0), (0, .v (.slice s.A s.n s.c))], []⟩ [] [] (by kernel_rfl) on wn ?_
    refine l_nil (q_then_normal ?_)
    refine c_block ?_
    refine c_loop (σ := Nat) (fun i => i ≤ s.n ∧ mPairs s.xs = firstF (pairF s.xs) (s.n - i) i) (fun i => s.n - i) (fun i => []) (fun i => ⟨[(3, vI ((i : Nat) : Int)), (0, .v (.slice s.A s.n s.c))], []⟩) 0 ⟨Nat.zero_le _, by unfold mPairs; rw [if_neg (by omega)]⟩ (s_start [3, 0] 0 (by kernel_rfl) rfl) ?_
    rintro i ⟨hi, hI⟩
    have hlt := hi
    refine c_seq ?_
    refine c_seq ?_
    refine c_region ?_
    refine JL_run 4 [] [10, 3, 0] 0 ⟨[(10, vB (decide (((i : Nat) : Int) < ((s.n : Nat) : Int)))), (3, vI ((i : Nat) : Int)), (0, .v (.slice s.A s.n s.c))], []⟩ [] [] (by kernel_rfl) on wn ?_
    refine l_nil (q_then_normal ?_)
    cases h2 : decide (((i : Nat) : Int) < ((s.n : Nat) : Int)) with
    | true =>
      have h2 := of_decide_eq_true h2
      refine c_if true rfl ?_
      refine c_skip ?_
      refine q_then_normal ?_
      refine c_seq ?_
      refine c_block ?_
      refine c_seq ?_
      refine c_seq ?_
      refine c_region ?_
      refine JL_run 5 [(2, .idx s.ad i), (4, .ext [.string (s.at i).name])] [17, 3, 0] 0 ⟨[(17, vS (s.at i).name), (3, vI ((i : Nat) : Int)), (0, .v (.slice s.A s.n s.c))], []⟩ [s.A = some s.ad, ((i : Nat) : Int) = ((i : Nat) : Int), i < s.n] [((s.ad.add (i * 3)).add 0, [.string (s.at i).name])] (by kernel_rfl) (oc (Sl.ok.own (s := s) (i := i) oks (by omega)) (oc rfl (oc (by omega) on))) (fun w hk hr => ⟨(Sl.rd.fld (s := s) (i := i) (Sl.rd.kp hs hk) (by omega) 0 1 rfl), trivial⟩) ?_
      refine l_pure 95 [] [vS (s.at i).name] (.bool (mName (s.at i).name)) Try.call95 rfl rfl rfl rfl (fun bs w hS => ref_NameMay _ w (And.left (Sl.ok.at (s := s) (i := i) oks (by omega)))) ?_
      refine JL_run 1 [] [19, 3, 0] 0 ⟨[(19, vB (!(mName (s.at i).name))), (3, vI ((i : Nat) : Int)), (0, .v (.slice s.A s.n s.c))], []⟩ [] [] (by kernel_rfl) on wn ?_
      refine l_nil (q_then_normal ?_)
      cases h3 : mName (s.at i).name with
      | true =>
        refine c_if false rfl ?_
        refine c_skip ?_
        refine q_then_normal ?_
        refine c_seq ?_
        refine c_seq ?_
        refine c_region ?_
        refine JL_run 7 [(2, .idx s.ad i), (4, .ext [.string (s.at i).value])] [26, 3, 0] 0 ⟨[(26, vB (decide ((12 : Int) < ((s.at i).value.size : Int)))), (3, vI ((i : Nat) : Int)), (0, .v (.slice s.A s.n s.c))], []⟩ [s.A = some s.ad, ((i : Nat) : Int) = ((i : Nat) : Int), i < s.n] [((s.ad.add (i * 3)).add 1, [.string (s.at i).value])] (by kernel_rfl) (oc (Sl.ok.own (s := s) (i := i) oks (by omega)) (oc rfl (oc (by omega) on))) (fun w hk hr => ⟨(Sl.rd.fld (s := s) (i := i) (Sl.rd.kp hs hk) (by omega) 1 1 rfl), trivial⟩) ?_
        refine l_nil (q_then_normal ?_)
        cases h4 : decide ((12 : Int) < ((s.at i).value.size : Int)) with
        | true =>
          have h4 := of_decide_eq_true h4
          refine c_if true rfl ?_
          refine c_seq ?_
          refine c_region ?_
          refine JL_run 1 [] [2] 0 ⟨[(2, vI 1)], []⟩ [] [] (by kernel_rfl) on wn ?_
          refine l_nil (q_then_normal ?_)
          refine c_ret ?_
          refine q_then_ret (q_block_ret (q_then_ret (q_then_ret (q_block_ret (q_then_ret (q_ret (.inl rfl) [vI 1] rfl (fun bs w hS => ?_)))))))
          refine ⟨?_, hS.kp⟩
          simp only [retOf, den, List.map_cons, List.map_nil]
          have hf : pairF s.xs i = 1 := by
            have hat : ∀ q, s.xs.getD q default = s.at q := fun _ => rfl
            unfold pairF
            simp only [hat]
            try simp only [h1, h2, h3, h4, emp_size, ne_eq, not_true_eq_false, not_false_eq_true, true_or, or_true, false_or, or_false, and_true, true_and, and_false, false_and, and_self, or_self, if_true, if_false, Bool.true_eq_false, Bool.false_eq_true, reduceIte, Classical.not_not, Bool.and_eq_true, decide_eq_true_eq]
            repeat (first | rw [if_pos (by omega)] | rw [if_neg (by omega)])
            all_goals first | rfl | (exfalso; omega)
          rw [hI, firstF_here (by omega) hf (by omega)]
        | false =>
          have h4 := of_decide_eq_false h4
          refine c_if false rfl ?_
          refine c_skip ?_
          refine q_then_normal ?_
          refine c_seq ?_
          refine c_seq ?_
          refine c_region ?_
          refine JL_run 5 [(2, .idx s.ad i), (4, .ext [.int .i64 (s.at i).version])] [31, 3, 0] 0 ⟨[(31, vI (s.at i).version), (3, vI ((i : Nat) : Int)), (0, .v (.slice s.A s.n s.c))], []⟩ [s.A = some s.ad, ((i : Nat) : Int) = ((i : Nat) : Int), i < s.n] [((s.ad.add (i * 3)).add 2, [.int .i64 (s.at i).version])] (by kernel_rfl) (oc (Sl.ok.own (s := s) (i := i) oks (by omega)) (oc rfl (oc (by omega) on))) (fun w hk hr => ⟨(Sl.rd.fld (s := s) (i := i) (Sl.rd.kp hs hk) (by omega) 2 1 rfl), trivial⟩) ?_
          refine l_pure 64 [] [vI (s.at i).version, vI 1, vI 1073741824] (.bool (inB (s.at i).version 1 1073741824)) Try.call64 rfl rfl rfl rfl (fun bs w hS => ref_In _ _ _ w) ?_
          refine JL_run 1 [] [33, 3, 0] 0 ⟨[(33, vB (!(inB (s.at i).version 1 1073741824))), (3, vI ((i : Nat) : Int)), (0, .v (.slice s.A s.n s.c))], []⟩ [] [] (by kernel_rfl) on wn ?_
          refine l_nil (q_then_normal ?_)
          cases h5 : inB (s.at i).version 1 1073741824 with
          | true =>
            simp only [inB, Bool.and_eq_true, Bool.and_eq_false_iff, decide_eq_true_eq, decide_eq_false_iff_not] at h5
            refine c_if false rfl ?_
            refine c_skip ?_
            refine q_then_normal ?_
            refine c_seq ?_
            refine c_draw 16 [] (.p 0 (.p 1 (.p 2 (.p 3 (.p 4 (.p 5 (.p 6 (.q 7 (.p 8 (.p 9 (.p 10 (.p 11 (.p 12 (.q 13 (.p 14 (.p 15 .nil)))))))))))))))) [] [] Try_mixed (by kernel_rfl) (pq_then (pq_block (pq_then (pq_then (pq_block (pq_then pq_body)))))) .slnil ?_
            refine h_quiet [] [(0, true), (1, true), (2, true)] [(36, vB (decide ((0 : Int) < ((i : Nat) : Int)))), (35, vB (decide ((0 : Int) < ((i : Nat) : Int)))), (34, vI ((i : Nat) : Int)), (33, vB false), (3, vI ((i : Nat) : Int)), (0, .v (.slice s.A s.n s.c))] [] [] rfl (by kernel_rfl) on wn ?_
            cases h6 : decide ((0 : Int) < ((i : Nat) : Int)) with
            | true =>
              have h6 := of_decide_eq_true h6
              refine h_quiet [(5, .idx s.ad i), (7, .ext [.string (s.at i).name]), (11, .idx s.ad (i - 1)), (13, .ext [.string (s.at (i - 1)).name])] [(3, true), (4, true), (5, true), (6, true), (7, false), (8, true), (9, true), (10, true), (11, true), (12, true), (13, false), (14, true), (15, true)] [(49, vB (Op.bytesLess ((s.at i).name).toList ((s.at (i - 1)).name).toList || decide ((s.at i).name = (s.at (i - 1)).name))), (48, vB (Op.bytesLess ((s.at i).name).toList ((s.at (i - 1)).name).toList || decide ((s.at i).name = (s.at (i - 1)).name))), (47, vS (s.at (i - 1)).name), (46, .v (.pointer (some ((s.ad.add ((i - 1) * 3)).add 0)))), (45, .v (.pointer (some (s.ad.add ((i - 1) * 3))))), (44, vI (((i : Nat) : Int) - 1)), (43, vI ((i : Nat) : Int)), (42, .v (.slice s.A s.n s.c)), (41, vS (s.at i).name), (40, .v (.pointer (some ((s.ad.add (i * 3)).add 0)))), (39, .v (.pointer (some (s.ad.add (i * 3))))), (38, vI ((i : Nat) : Int)), (37, .v (.slice s.A s.n s.c)), (36, vB true), (35, vB true), (34, vI ((i : Nat) : Int)), (33, vB false), (3, vI ((i : Nat) : Int)), (0, .v (.slice s.A s.n s.c))] [s.A = some s.ad, ((i : Nat) : Int) = ((i : Nat) : Int), i < s.n, inR (((i : Nat) : Int) - 1), s.A = some s.ad, ((i : Nat) : Int) - 1 = (((i - 1) : Nat) : Int), (i - 1) < s.n] [((s.ad.add (i * 3)).add 0, [.string (s.at i).name]), ((s.ad.add ((i - 1) * 3)).add 0, [.string (s.at (i - 1)).name])] rfl (by kernel_rfl) (oc (Sl.ok.own (s := s) (i := i) oks (by omega)) (oc rfl (oc (by omega) (oc (by unfold inR; omega) (oc (Sl.ok.own (s := s) (i := (i - 1)) oks (by omega)) (oc (by omega) (oc (by omega) on))))))) (fun w hk hr => ⟨(Sl.rd.fld (s := s) (i := i) (Sl.rd.kp hs hk) (by omega) 0 1 rfl), ⟨(Sl.rd.fld (s := s) (i := (i - 1)) (Sl.rd.kp hs hk) (by omega) 0 1 rfl), trivial⟩⟩) ?_
              refine h_nil ?_
              refine l_nil (q_then_normal ?_)
              cases h7 : Op.bytesLess ((s.at i).name).toList ((s.at (i - 1)).name).toList || decide ((s.at i).name = (s.at (i - 1)).name) with
              | true =>
                rw [bytes_total] at h7
                simp only [Bool.not_eq_true', Bool.not_eq_false', Bool.not_eq_true, Bool.not_eq_false] at h7
                refine c_if true rfl ?_
                refine c_seq ?_
                refine c_region ?_
                refine JL_run 1 [] [2] 0 ⟨[(2, vI 14)], []⟩ [] [] (by kernel_rfl) on wn ?_
                refine l_nil (q_then_normal ?_)
                refine c_ret ?_
                refine q_block_ret (q_then_ret (q_then_ret (q_block_ret (q_then_ret (q_ret (.inl rfl) [vI 14] rfl (fun bs w hS => ?_))))))
                refine ⟨?_, hS.kp⟩
                simp only [retOf, den, List.map_cons, List.map_nil]
                have hf : pairF s.xs i = 14 := by
                  have hat : ∀ q, s.xs.getD q default = s.at q := fun _ => rfl
                  unfold pairF
                  simp only [hat]
                  try simp only [h1, h2, h3, h4, h5, h6, h7, emp_size, ne_eq, not_true_eq_false, not_false_eq_true, true_or, or_true, false_or, or_false, and_true, true_and, and_false, false_and, and_self, or_self, if_true, if_false, Bool.true_eq_false, Bool.false_eq_true, reduceIte, Classical.not_not, Bool.and_eq_true, decide_eq_true_eq]
                  repeat (first | rw [if_pos (by omega)] | rw [if_neg (by omega)])
                  all_goals first | rfl | (exfalso; omega)
                rw [hI, firstF_here (by omega) hf (by omega)]
              | false =>
                rw [bytes_total] at h7
                simp only [Bool.not_eq_true', Bool.not_eq_false', Bool.not_eq_true, Bool.not_eq_false] at h7
                refine c_if false rfl ?_
                refine c_skip ?_
                refine q_block_normal (q_then_normal ?_)
                refine c_region ?_
                refine JL_run 3 [] [3, 0] 0 ⟨[(3, vI (((i : Nat) : Int) + 1)), (0, .v (.slice s.A s.n s.c))], []⟩ [inR (((i : Nat) : Int) + 1)] [] (by kernel_rfl) (oc (by unfold inR; omega) on) wn ?_
                have hf0 : pairF s.xs i = 0 := by
                  have hat : ∀ q, s.xs.getD q default = s.at q := fun _ => rfl
                  unfold pairF
                  simp only [hat]
                  try simp only [h1, h2, h3, h4, h5, h6, h7, emp_size, ne_eq, not_true_eq_false, not_false_eq_true, true_or, or_true, false_or, or_false, and_true, true_and, and_false, false_and, and_self, or_self, if_true, if_false, Bool.true_eq_false, Bool.false_eq_true, reduceIte, Classical.not_not, Bool.and_eq_true, decide_eq_true_eq]
                  repeat (first | rw [if_pos (by omega)] | rw [if_neg (by omega)])
                  all_goals first | rfl | (exfalso; omega)
                refine l_nil (q_loop (x := (i : Nat)) ((i + 1) : Nat) ⟨by omega, by rw [hI]; exact firstF_step (by omega) hf0⟩ (by omega) (s_start [3, 0] 0 (by kernel_rfl) rfl))
            | false =>
              have h6 := of_decide_eq_false h6
              refine h_quiet [] [(3, true), (4, true), (5, true), (6, true), (7, false), (8, true), (9, true), (10, true), (11, true), (12, true), (13, false), (14, true), (15, true)] [(49, vB false), (48, .v (undef)), (47, .v (undef)), (46, .v (undef)), (45, .v (undef)), (44, .v (undef)), (43, .v (undef)), (42, .v (undef)), (41, .v (undef)), (40, .v (undef)), (39, .v (undef)), (38, .v (undef)), (37, .v (undef)), (36, vB false), (35, vB false), (34, vI ((i : Nat) : Int)), (33, vB false), (3, vI ((i : Nat) : Int)), (0, .v (.slice s.A s.n s.c))] [] [] rfl (by kernel_rfl) on wn ?_
              refine h_nil ?_
              refine l_nil (q_then_normal ?_)
              refine c_if false rfl ?_
              refine c_skip ?_
              refine q_block_normal (q_then_normal ?_)
              refine c_region ?_
              refine JL_run 3 [] [3, 0] 0 ⟨[(3, vI (((i : Nat) : Int) + 1)), (0, .v (.slice s.A s.n s.c))], []⟩ [inR (((i : Nat) : Int) + 1)] [] (by kernel_rfl) (oc (by unfold inR; omega) on) wn ?_
              have hf0 : pairF s.xs i = 0 := by
                have hat : ∀ q, s.xs.getD q default = s.at q := fun _ => rfl
                unfold pairF
                simp only [hat]
                try simp only [h1, h2, h3, h4, h5, h6, emp_size, ne_eq, not_true_eq_false, not_false_eq_true, true_or, or_true, false_or, or_false, and_true, true_and, and_false, false_and, and_self, or_self, if_true, if_false, Bool.true_eq_false, Bool.false_eq_true, reduceIte, Classical.not_not, Bool.and_eq_true, decide_eq_true_eq]
                repeat (first | rw [if_pos (by omega)] | rw [if_neg (by omega)])
                all_goals first | rfl | (exfalso; omega)
              refine l_nil (q_loop (x := (i : Nat)) ((i + 1) : Nat) ⟨by omega, by rw [hI]; exact firstF_step (by omega) hf0⟩ (by omega) (s_start [3, 0] 0 (by kernel_rfl) rfl))
          | false =>
            simp only [inB, Bool.and_eq_true, Bool.and_eq_false_iff, decide_eq_true_eq, decide_eq_false_iff_not] at h5
            refine c_if true rfl ?_
            refine c_seq ?_
            refine c_region ?_
            refine JL_run 1 [] [2] 0 ⟨[(2, vI 2)], []⟩ [] [] (by kernel_rfl) on wn ?_
            refine l_nil (q_then_normal ?_)
            refine c_ret ?_
            refine q_then_ret (q_block_ret (q_then_ret (q_then_ret (q_block_ret (q_then_ret (q_ret (.inl rfl) [vI 2] rfl (fun bs w hS => ?_)))))))
            refine ⟨?_, hS.kp⟩
            simp only [retOf, den, List.map_cons, List.map_nil]
            have hf : pairF s.xs i = 2 := by
              have hat : ∀ q, s.xs.getD q default = s.at q := fun _ => rfl
              unfold pairF
              simp only [hat]
              try simp only [h1, h2, h3, h4, h5, emp_size, ne_eq, not_true_eq_false, not_false_eq_true, true_or, or_true, false_or, or_false, and_true, true_and, and_false, false_and, and_self, or_self, if_true, if_false, Bool.true_eq_false, Bool.false_eq_true, reduceIte, Classical.not_not, Bool.and_eq_true, decide_eq_true_eq]
              repeat (first | rw [if_pos (by omega)] | rw [if_neg (by omega)])
              all_goals first | rfl | (exfalso; omega)
            rw [hI, firstF_here (by omega) hf (by omega)]
      | false =>
        refine c_if true rfl ?_
        refine c_seq ?_
        refine c_region ?_
        refine JL_run 1 [] [2] 0 ⟨[(2, vI 4)], []⟩ [] [] (by kernel_rfl) on wn ?_
        refine l_nil (q_then_normal ?_)
        refine c_ret ?_
        refine q_then_ret (q_block_ret (q_then_ret (q_then_ret (q_block_ret (q_then_ret (q_ret (.inl rfl) [vI 4] rfl (fun bs w hS => ?_)))))))
        refine ⟨?_, hS.kp⟩
        simp only [retOf, den, List.map_cons, List.map_nil]
        have hf : pairF s.xs i = 4 := by
          have hat : ∀ q, s.xs.getD q default = s.at q := fun _ => rfl
          unfold pairF
          simp only [hat]
          try simp only [h1, h2, h3, emp_size, ne_eq, not_true_eq_false, not_false_eq_true, true_or, or_true, false_or, or_false, and_true, true_and, and_false, false_and, and_self, or_self, if_true, if_false, Bool.true_eq_false, Bool.false_eq_true, reduceIte, Classical.not_not, Bool.and_eq_true, decide_eq_true_eq]
          repeat (first | rw [if_pos (by omega)] | rw [if_neg (by omega)])
          all_goals first | rfl | (exfalso; omega)
        rw [hI, firstF_here (by omega) hf (by omega)]
    | false =>
      have h2 := of_decide_eq_false h2
      refine c_if false rfl ?_
      refine c_exit ?_
      refine q_then_exit (q_then_exit (q_block_hit (q_then_normal ?_)))
      refine c_seq ?_
      refine c_region ?_
      refine JL_run 1 [] [2] 0 ⟨[(2, vI 0)], []⟩ [] [] (by kernel_rfl) on wn ?_
      refine l_nil (q_then_normal ?_)
      refine c_ret ?_
      refine q_ret (.inl rfl) [vI 0] rfl (fun bs w hS => ?_)
      refine ⟨?_, hS.kp⟩
      simp only [retOf, den, List.map_cons, List.map_nil]
      rw [hI, firstF_end (by omega)]

theorem machine_Check {B : Nat → Prop} (x : CState) (w : World) (hx : Rds.sub B w x) : Calls Try.prog 69 #[.agg #[.int .i64 x.index, .slice x.locks.A x.locks.n x.locks.c, .slice x.pairs.A x.pairs.n x.pairs.c, .slice x.sessions.A x.sessions.n x.sessions.c]] w fun e w' => e = .returned (.int .i64 (mState x.abs)) ∧ Kp [] w w' := by
  have okx := Rds.okof hx
  refine calls_J0 22 Try.func69 rfl rfl [.agg #[.int .i64 x.index, .slice x.locks.A x.locks.n x.locks.c, .slice x.pairs.A x.pairs.n x.pairs.c, .slice x.sessions.A x.sessions.n x.sessions.c]] rfl ?_
  refine c_seq ?_
  refine c_region ?_
  refine JL_run 2 [] [1] 1 ⟨[(1, .p 0 0)], [⟨48, [vI x.index, .v (.slice x.locks.A x.locks.n x.locks.c), .v (.slice x.pairs.A x.pairs.n x.pairs.c), .v (.slice x.sessions.A x.sessions.n x.sessions.c)]⟩]⟩ [] [] (by kernel_rfl) on wn ?_
  refine l_nil (q_then_normal ?_)
  refine c_seq ?_
  refine c_seq ?_
  refine c_region ?_
  refine JL_run 4 [] [8, 6, 1] 1 ⟨[(8, vI x.index), (6, .v (.slice x.sessions.A x.sessions.n x.sessions.c)), (1, .p 0 0)], [⟨48, [vI x.index, .v (.slice x.locks.A x.locks.n x.locks.c), .v (.slice x.pairs.A x.pairs.n x.pairs.c), .v (.slice x.sessions.A x.sessions.n x.sessions.c)]⟩]⟩ [] [] (by kernel_rfl) on wn ?_
  refine l_pure 78 [] [.v (.slice x.sessions.A x.sessions.n x.sessions.c), vI x.index] (.int .i64 (mSess (x.sessions.xs.map CSession.abs) x.index)) Try.call78 rfl rfl rfl rfl (fun bs w hS => session_Check x.sessions x.index w (And.right (And.right (Rds.kp hx hS.kp)))) ?_
  refine JL_run 1 [] [3, 1] 1 ⟨[(3, vI (mSess (x.sessions.xs.map CSession.abs) x.index)), (1, .p 0 0)], [⟨48, [vI x.index, .v (.slice x.locks.A x.locks.n x.locks.c), .v (.slice x.pairs.A x.pairs.n x.pairs.c), .v (.slice x.sessions.A x.sessions.n x.sessions.c)]⟩]⟩ [] [] (by kernel_rfl) on wn ?_
  refine l_nil (q_then_normal ?_)
  refine c_seq ?_
  refine c_region ?_
  refine JL_run 2 [] [11, 3, 1] 1 ⟨[(11, vB (!(decide (mSess (x.sessions.xs.map CSession.abs) x.index = 0)))), (3, vI (mSess (x.sessions.xs.map CSession.abs) x.index)), (1, .p 0 0)], [⟨48, [vI x.index, .v (.slice x.locks.A x.locks.n x.locks.c), .v (.slice x.pairs.A x.pairs.n x.pairs.c), .v (.slice x.sessions.A x.sessions.n x.sessions.c)]⟩]⟩ [] [] (by kernel_rfl) on wn ?_
  refine l_nil (q_then_normal ?_)
  cases h1 : decide (mSess (x.sessions.xs.map CSession.abs) x.index = 0) with
  | true =>
    have h1 := of_decide_eq_true h1
    refine c_if false rfl ?_
    refine c_skip ?_
    refine q_then_normal ?_
    refine c_seq ?_
    refine c_seq ?_
    refine c_region ?_
    refine JL_run 2 [] [14, 1] 1 ⟨[(14, .v (.slice x.locks.A x.locks.n x.locks.c)), (1, .p 0 0)], [⟨48, [vI x.index, .v (.slice x.locks.A x.locks.n x.locks.c), .v (.slice x.pairs.A x.pairs.n x.pairs.c), .v (.slice x.sessions.A x.sessions.n x.sessions.c)]⟩]⟩ [] [] (by kernel_rfl) on wn ?_
    refine l_pure 107 [] [.v (.slice x.locks.A x.locks.n x.locks.c)] (.int .i64 (mLocks (x.locks.xs.map CLock.abs))) Try.call107 rfl rfl rfl rfl (fun bs w hS => lock_Check x.locks w (And.left (Rds.kp hx hS.kp))) ?_
    refine JL_run 1 [] [4, 1] 1 ⟨[(4, vI (mLocks (x.locks.xs.map CLock.abs))), (1, .p 0 0)], [⟨48, [vI x.index, .v (.slice x.locks.A x.locks.n x.locks.c), .v (.slice x.pairs.A x.pairs.n x.pairs.c), .v (.slice x.sessions.A x.sessions.n x.sessions.c)]⟩]⟩ [] [] (by kernel_rfl) on wn ?_
    refine l_nil (q_then_normal ?_)
    refine c_seq ?_
    refine c_region ?_
    refine JL_run 2 [] [17, 4, 1] 1 ⟨[(17, vB (!(decide (mLocks (x.locks.xs.map CLock.abs) = 0)))), (4, vI (mLocks (x.locks.xs.map CLock.abs))), (1, .p 0 0)], [⟨48, [vI x.index, .v (.slice x.locks.A x.locks.n x.locks.c), .v (.slice x.pairs.A x.pairs.n x.pairs.c), .v (.slice x.sessions.A x.sessions.n x.sessions.c)]⟩]⟩ [] [] (by kernel_rfl) on wn ?_
    refine l_nil (q_then_normal ?_)
    cases h2 : decide (mLocks (x.locks.xs.map CLock.abs) = 0) with
    | true =>
      have h2 := of_decide_eq_true h2
      refine c_if false rfl ?_
      refine c_skip ?_
      refine q_then_normal ?_
      refine c_seq ?_
      refine c_region ?_
      refine JL_run 2 [] [20] 0 ⟨[(20, .v (.slice x.pairs.A x.pairs.n x.pairs.c))], []⟩ [] [] (by kernel_rfl) on wn ?_
      refine l_pure 89 [] [.v (.slice x.pairs.A x.pairs.n x.pairs.c)] (.int .i64 (mPairs x.pairs.xs)) Try.call89 rfl rfl rfl rfl (fun bs w hS => pair_Check x.pairs w (And.left (And.right (Rds.kp hx hS.kp)))) ?_
      refine JL_run 1 [] [2] 0 ⟨[(2, vI (mPairs x.pairs.xs))], []⟩ [] [] (by kernel_rfl) on wn ?_
      refine l_nil (q_then_normal ?_)
      refine c_ret ?_
      refine q_ret (.inl rfl) [vI (mPairs x.pairs.xs)] rfl (fun bs w hS => ?_)
      refine ⟨?_, hS.kp⟩
      have hm : mState x.abs = mPairs x.pairs.xs := by
        have q1 : x.abs.sessions = x.sessions.xs.map CSession.abs := rfl
        have q2 : x.abs.locks = x.locks.xs.map CLock.abs := rfl
        have q3 : x.abs.pairs = x.pairs.xs := rfl
        have q4 : x.abs.index = x.index := rfl
        unfold mState; rw [q1, q2, q3, q4]; simp only [h1, h2, if_true, if_false, reduceIte]
      rw [hm]
      rfl
    | false =>
      have h2 := of_decide_eq_false h2
      refine c_if true rfl ?_
      refine c_seq ?_
      refine c_region ?_
      refine JL_run 2 [] [2] 0 ⟨[(2, vI (mLocks (x.locks.xs.map CLock.abs)))], []⟩ [] [] (by kernel_rfl) on wn ?_
      refine l_nil (q_then_normal ?_)
      refine c_ret ?_
      refine q_then_ret (q_ret (.inl rfl) [vI (mLocks (x.locks.xs.map CLock.abs))] rfl (fun bs w hS => ?_))
      refine ⟨?_, hS.kp⟩
      have hm : mState x.abs = mLocks (x.locks.xs.map CLock.abs) := by
        have q1 : x.abs.sessions = x.sessions.xs.map CSession.abs := rfl
        have q2 : x.abs.locks = x.locks.xs.map CLock.abs := rfl
        have q3 : x.abs.pairs = x.pairs.xs := rfl
        have q4 : x.abs.index = x.index := rfl
        unfold mState; rw [q1, q2, q3, q4]; simp only [h1, h2, if_true, if_false, reduceIte]
      rw [hm]
      rfl
  | false =>
    have h1 := of_decide_eq_false h1
    refine c_if true rfl ?_
    refine c_seq ?_
    refine c_region ?_
    refine JL_run 2 [] [2] 0 ⟨[(2, vI (mSess (x.sessions.xs.map CSession.abs) x.index))], []⟩ [] [] (by kernel_rfl) on wn ?_
    refine l_nil (q_then_normal ?_)
    refine c_ret ?_
    refine q_then_ret (q_ret (.inl rfl) [vI (mSess (x.sessions.xs.map CSession.abs) x.index)] rfl (fun bs w hS => ?_))
    refine ⟨?_, hS.kp⟩
    have hm : mState x.abs = mSess (x.sessions.xs.map CSession.abs) x.index := by
      have q1 : x.abs.sessions = x.sessions.xs.map CSession.abs := rfl
      have q2 : x.abs.locks = x.locks.xs.map CLock.abs := rfl
      have q3 : x.abs.pairs = x.pairs.xs := rfl
      have q4 : x.abs.index = x.index := rfl
      unfold mState; rw [q1, q2, q3, q4]; simp only [h1, if_true, if_false, reduceIte]
    rw [hm]
    rfl

theorem ref_StateFault {B : Nat → Prop} (x : CState) (w : World) (hx : Rds.sub B w x) : Calls Try.prog 73 #[.agg #[.int .i64 x.index, .slice x.locks.A x.locks.n x.locks.c, .slice x.pairs.A x.pairs.n x.pairs.c, .slice x.sessions.A x.sessions.n x.sessions.c]] w fun e w' => e = .returned (.int .i64 (mState x.abs)) ∧ Kp [] w w' := by
  have okx := Rds.okof hx
  refine calls_J0 20 Try.func73 rfl rfl [.agg #[.int .i64 x.index, .slice x.locks.A x.locks.n x.locks.c, .slice x.pairs.A x.pairs.n x.pairs.c, .slice x.sessions.A x.sessions.n x.sessions.c]] rfl ?_
  refine c_seq ?_
  refine c_region ?_
  refine JL_run 2 [] [1] 1 ⟨[(1, .p 0 0)], [⟨48, [vI x.index, .v (.slice x.locks.A x.locks.n x.locks.c), .v (.slice x.pairs.A x.pairs.n x.pairs.c), .v (.slice x.sessions.A x.sessions.n x.sessions.c)]⟩]⟩ [] [] (by kernel_rfl) on wn ?_
  refine l_nil (q_then_normal ?_)
  refine c_seq ?_
  refine c_region ?_
  refine JL_run 4 [] [7, 5, 1] 1 ⟨[(7, vI x.index), (5, .v (.slice x.sessions.A x.sessions.n x.sessions.c)), (1, .p 0 0)], [⟨48, [vI x.index, .v (.slice x.locks.A x.locks.n x.locks.c), .v (.slice x.pairs.A x.pairs.n x.pairs.c), .v (.slice x.sessions.A x.sessions.n x.sessions.c)]⟩]⟩ [] [] (by kernel_rfl) on wn ?_
  refine l_pure 82 [] [.v (.slice x.sessions.A x.sessions.n x.sessions.c), vI x.index] (.int .i64 (mSess (x.sessions.xs.map CSession.abs) x.index)) Try.call82 rfl rfl rfl rfl (fun bs w hS => ref_SessionsFault x.sessions x.index w (And.right (And.right (Rds.kp hx hS.kp)))) ?_
  refine JL_run 1 [] [3, 1] 1 ⟨[(3, vI (mSess (x.sessions.xs.map CSession.abs) x.index)), (1, .p 0 0)], [⟨48, [vI x.index, .v (.slice x.locks.A x.locks.n x.locks.c), .v (.slice x.pairs.A x.pairs.n x.pairs.c), .v (.slice x.sessions.A x.sessions.n x.sessions.c)]⟩]⟩ [] [] (by kernel_rfl) on wn ?_
  refine l_nil (q_then_normal ?_)
  refine c_seq ?_
  refine c_seq ?_
  refine c_region ?_
  refine JL_run 2 [] [10, 3, 1] 1 ⟨[(10, vB (decide (mSess (x.sessions.xs.map CSession.abs) x.index = 0))), (3, vI (mSess (x.sessions.xs.map CSession.abs) x.index)), (1, .p 0 0)], [⟨48, [vI x.index, .v (.slice x.locks.A x.locks.n x.locks.c), .v (.slice x.pairs.A x.pairs.n x.pairs.c), .v (.slice x.sessions.A x.sessions.n x.sessions.c)]⟩]⟩ [] [] (by kernel_rfl) on wn ?_
  refine l_nil (q_then_normal ?_)
  cases h1 : decide (mSess (x.sessions.xs.map CSession.abs) x.index = 0) with
  | true =>
    have h1 := of_decide_eq_true h1
    refine c_if true rfl ?_
    refine c_region ?_
    refine JL_run 2 [] [12, 1] 1 ⟨[(12, .v (.slice x.locks.A x.locks.n x.locks.c)), (1, .p 0 0)], [⟨48, [vI x.index, .v (.slice x.locks.A x.locks.n x.locks.c), .v (.slice x.pairs.A x.pairs.n x.pairs.c), .v (.slice x.sessions.A x.sessions.n x.sessions.c)]⟩]⟩ [] [] (by kernel_rfl) on wn ?_
    refine l_pure 113 [] [.v (.slice x.locks.A x.locks.n x.locks.c)] (.int .i64 (mLocks (x.locks.xs.map CLock.abs))) Try.call113 rfl rfl rfl rfl (fun bs w hS => ref_LocksFault x.locks w (And.left (Rds.kp hx hS.kp))) ?_
    refine JL_run 1 [] [3, 1] 1 ⟨[(3, vI (mLocks (x.locks.xs.map CLock.abs))), (1, .p 0 0)], [⟨48, [vI x.index, .v (.slice x.locks.A x.locks.n x.locks.c), .v (.slice x.pairs.A x.pairs.n x.pairs.c), .v (.slice x.sessions.A x.sessions.n x.sessions.c)]⟩]⟩ [] [] (by kernel_rfl) on wn ?_
    refine l_nil (q_then_normal ?_)
    refine c_seq ?_
    refine c_seq ?_
    refine c_region ?_
    refine JL_run 2 [] [15, 3, 1] 1 ⟨[(15, vB (decide (mLocks (x.locks.xs.map CLock.abs) = 0))), (3, vI (mLocks (x.locks.xs.map CLock.abs))), (1, .p 0 0)], [⟨48, [vI x.index, .v (.slice x.locks.A x.locks.n x.locks.c), .v (.slice x.pairs.A x.pairs.n x.pairs.c), .v (.slice x.sessions.A x.sessions.n x.sessions.c)]⟩]⟩ [] [] (by kernel_rfl) on wn ?_
    refine l_nil (q_then_normal ?_)
    cases h2 : decide (mLocks (x.locks.xs.map CLock.abs) = 0) with
    | true =>
      have h2 := of_decide_eq_true h2
      refine c_if true rfl ?_
      refine c_region ?_
      refine JL_run 2 [] [17] 0 ⟨[(17, .v (.slice x.pairs.A x.pairs.n x.pairs.c))], []⟩ [] [] (by kernel_rfl) on wn ?_
      refine l_pure 94 [] [.v (.slice x.pairs.A x.pairs.n x.pairs.c)] (.int .i64 (mPairs x.pairs.xs)) Try.call94 rfl rfl rfl rfl (fun bs w hS => ref_PairsFault x.pairs w (And.left (And.right (Rds.kp hx hS.kp)))) ?_
      refine JL_run 1 [] [3] 0 ⟨[(3, vI (mPairs x.pairs.xs))], []⟩ [] [] (by kernel_rfl) on wn ?_
      refine l_nil (q_then_normal ?_)
      refine c_seq ?_
      refine c_region ?_
      refine JL_run 2 [] [2] 0 ⟨[(2, vI (mPairs x.pairs.xs))], []⟩ [] [] (by kernel_rfl) on wn ?_
      refine l_nil (q_then_normal ?_)
      refine c_ret ?_
      refine q_ret (.inl rfl) [vI (mPairs x.pairs.xs)] rfl (fun bs w hS => ?_)
      refine ⟨?_, hS.kp⟩
      have hm : mState x.abs = mPairs x.pairs.xs := by
        have q1 : x.abs.sessions = x.sessions.xs.map CSession.abs := rfl
        have q2 : x.abs.locks = x.locks.xs.map CLock.abs := rfl
        have q3 : x.abs.pairs = x.pairs.xs := rfl
        have q4 : x.abs.index = x.index := rfl
        unfold mState; rw [q1, q2, q3, q4]; simp only [h1, h2, if_true, if_false, reduceIte]
      rw [hm]
      rfl
    | false =>
      have h2 := of_decide_eq_false h2
      refine c_if false rfl ?_
      refine c_skip ?_
      refine q_then_normal ?_
      refine c_seq ?_
      refine c_region ?_
      refine JL_run 2 [] [2] 0 ⟨[(2, vI (mLocks (x.locks.xs.map CLock.abs)))], []⟩ [] [] (by kernel_rfl) on wn ?_
      refine l_nil (q_then_normal ?_)
      refine c_ret ?_
      refine q_ret (.inl rfl) [vI (mLocks (x.locks.xs.map CLock.abs))] rfl (fun bs w hS => ?_)
      refine ⟨?_, hS.kp⟩
      have hm : mState x.abs = mLocks (x.locks.xs.map CLock.abs) := by
        have q1 : x.abs.sessions = x.sessions.xs.map CSession.abs := rfl
        have q2 : x.abs.locks = x.locks.xs.map CLock.abs := rfl
        have q3 : x.abs.pairs = x.pairs.xs := rfl
        have q4 : x.abs.index = x.index := rfl
        unfold mState; rw [q1, q2, q3, q4]; simp only [h1, h2, if_true, if_false, reduceIte]
      rw [hm]
      rfl
  | false =>
    have h1 := of_decide_eq_false h1
    refine c_if false rfl ?_
    refine c_skip ?_
    refine q_then_normal ?_
    refine c_seq ?_
    refine c_seq ?_
    refine c_region ?_
    refine JL_run 2 [] [15, 3, 1] 1 ⟨[(15, vB (decide (mSess (x.sessions.xs.map CSession.abs) x.index = 0))), (3, vI (mSess (x.sessions.xs.map CSession.abs) x.index)), (1, .p 0 0)], [⟨48, [vI x.index, .v (.slice x.locks.A x.locks.n x.locks.c), .v (.slice x.pairs.A x.pairs.n x.pairs.c), .v (.slice x.sessions.A x.sessions.n x.sessions.c)]⟩]⟩ [] [] (by kernel_rfl) on wn ?_
    refine l_nil (q_then_normal ?_)
    cases h3 : decide (mSess (x.sessions.xs.map CSession.abs) x.index = 0) with
    | true =>
      have h3 := of_decide_eq_true h3
      exact absurd h3 h1
    | false =>
      have h3 := of_decide_eq_false h3
      refine c_if false rfl ?_
      refine c_skip ?_
      refine q_then_normal ?_
      refine c_seq ?_
      refine c_region ?_
      refine JL_run 2 [] [2] 0 ⟨[(2, vI (mSess (x.sessions.xs.map CSession.abs) x.index))], []⟩ [] [] (by kernel_rfl) on wn ?_
      refine l_nil (q_then_normal ?_)
      refine c_ret ?_
      refine q_ret (.inl rfl) [vI (mSess (x.sessions.xs.map CSession.abs) x.index)] rfl (fun bs w hS => ?_)
      refine ⟨?_, hS.kp⟩
      have hm : mState x.abs = mSess (x.sessions.xs.map CSession.abs) x.index := by
        have q1 : x.abs.sessions = x.sessions.xs.map CSession.abs := rfl
        have q2 : x.abs.locks = x.locks.xs.map CLock.abs := rfl
        have q3 : x.abs.pairs = x.pairs.xs := rfl
        have q4 : x.abs.index = x.index := rfl
        unfold mState; rw [q1, q2, q3, q4]; simp only [h1, h3, if_true, if_false, reduceIte]
      rw [hm]
      rfl

theorem codec_Seal (s : ByteArray) (w : World) (hs : s.size ≤ 9223372036854775807) : Calls Try.prog 72 #[.string s] w fun e w' => e = .returned (.string (mSeal s)) ∧ Kp [] w w' := by
  refine calls_J0 35 Try.func72 rfl rfl [.string s] rfl ?_
  refine c_seq ?_
  refine c_region ?_
  refine JL_run 1 [] [0] 0 ⟨[(0, vS s)], []⟩ [] [] (by kernel_rfl) on wn ?_
  refine l_nil (q_then_normal ?_)
  refine c_seq ?_
  refine c_region ?_
  refine JL_run 2 [] [4, 3, 0] 0 ⟨[(4, vI 0), (3, vI 1), (0, vS s)], []⟩ [] [] (by kernel_rfl) on wn ?_
  refine l_nil (q_then_normal ?_)
  refine c_seq ?_
  refine c_seq ?_
  refine c_region ?_
  refine JL_run 3 [] [8, 7, 4, 3, 0] 0 ⟨[(8, vI 0), (7, vI (s.size : Int)), (4, vI 0), (3, vI 1), (0, vS s)], []⟩ [] [] (by kernel_rfl) on wn ?_
  refine l_nil (q_then_normal ?_)
  refine c_block ?_
  refine c_loop (σ := Nat) (fun k => k ≤ s.size) (fun k => s.size - k) (fun k => []) (fun k => ⟨[(8, vI ((k : Nat) : Int)), (7, vI (s.size : Int)), (4, vI (sealTo s k).2), (3, vI (sealTo s k).1), (0, vS s)], []⟩) 0 (Nat.zero_le _) (s_start [8, 7, 4, 3, 0] 0 (by kernel_rfl) rfl) ?_
  rintro k hk
  have hb := sealTo_bd s k
  have hu := (s.data.getD k 0).toNat_lt
  refine c_seq ?_
  refine c_region ?_
  refine JL_run 1 [] [9, 8, 7, 4, 3, 0] 0 ⟨[(9, vB (decide (((k : Nat) : Int) < (s.size : Int)))), (8, vI ((k : Nat) : Int)), (7, vI (s.size : Int)), (4, vI (sealTo s k).2), (3, vI (sealTo s k).1), (0, vS s)], []⟩ [] [] (by kernel_rfl) on wn ?_
  refine l_nil (q_then_normal ?_)
  refine c_seq ?_
  cases h1 : decide (((k : Nat) : Int) < (s.size : Int)) with
  | true =>
    have h1 := of_decide_eq_true h1
    refine c_if true rfl ?_
    refine c_skip ?_
    refine q_then_normal ?_
    refine c_seq ?_
    refine c_block ?_
    refine c_seq ?_
    refine c_region ?_
    refine JL_run 2 [] [5, 8, 7, 4, 3, 0] 0 ⟨[(5, vI ((k : Nat) : Int)), (8, vI ((k : Nat) : Int)), (7, vI (s.size : Int)), (4, vI (sealTo s k).2), (3, vI (sealTo s k).1), (0, vS s)], []⟩ [] [] (by kernel_rfl) on wn ?_
    refine l_nil (q_then_normal ?_)
    refine c_seq ?_
    refine c_region ?_
    refine JL_run 8 [(3, .sidx k)] [3, 8, 7, 4, 0] 0 ⟨[(3, vI (((sealTo s k).1 + ((s.data.getD k 0).toNat : Int)) % 65521)), (8, vI ((k : Nat) : Int)), (7, vI (s.size : Int)), (4, vI (sealTo s k).2), (0, vS s)], []⟩ [((k : Nat) : Int) = ((k : Nat) : Int), k < s.size, 0 ≤ ((s.data.getD k 0).toNat : Int), ((s.data.getD k 0).toNat : Int) ≤ 255, inR ((sealTo s k).1 + ((s.data.getD k 0).toNat : Int)), 0 ≤ (sealTo s k).1 + ((s.data.getD k 0).toNat : Int), (0 : Int) < 65521] [] (by kernel_rfl) (oc rfl (oc (by omega) (oc (by omega) (oc (by omega) (oc (by unfold inR; omega) (oc (by omega) (oc (by omega) on))))))) wn ?_
    refine l_nil (q_then_normal ?_)
    refine c_region ?_
    refine JL_run 5 [] [4, 3, 8, 7, 0] 0 ⟨[(4, vI (((sealTo s k).2 + (((sealTo s k).1 + ((s.data.getD k 0).toNat : Int)) % 65521)) % 65521)), (3, vI (((sealTo s k).1 + ((s.data.getD k 0).toNat : Int)) % 65521)), (8, vI ((k : Nat) : Int)), (7, vI (s.size : Int)), (0, vS s)], []⟩ [inR ((sealTo s k).2 + (((sealTo s k).1 + ((s.data.getD k 0).toNat : Int)) % 65521)), 0 ≤ (sealTo s k).2 + (((sealTo s k).1 + ((s.data.getD k 0).toNat : Int)) % 65521), (0 : Int) < 65521] [] (by kernel_rfl) (oc (by unfold inR; omega) (oc (by omega) (oc (by omega) on))) wn ?_
    refine l_nil (q_block_normal (q_then_normal ?_))
    refine c_region ?_
    refine JL_run 2 [] [8, 4, 3, 7, 0] 0 ⟨[(8, vI (((k : Nat) : Int) + 1)), (4, vI (((sealTo s k).2 + (((sealTo s k).1 + ((s.data.getD k 0).toNat : Int)) % 65521)) % 65521)), (3, vI (((sealTo s k).1 + ((s.data.getD k 0).toNat : Int)) % 65521)), (7, vI (s.size : Int)), (0, vS s)], []⟩ [inR (((k : Nat) : Int) + 1)] [] (by kernel_rfl) (oc (by unfold inR; omega) on) wn ?_
    refine l_nil (q_loop (x := (k : Nat)) ((k + 1) : Nat) (by omega) (by omega) (s_start [8, 7, 4, 3, 0] 0 (by kernel_rfl) rfl))
  | false =>
    have h1 := of_decide_eq_false h1
    refine c_if false rfl ?_
    refine c_exit ?_
    refine q_then_exit (q_then_exit (q_block_hit (q_then_normal ?_)))
    refine c_seq ?_
    refine c_region ?_
    refine JL_run 11 [] [33] 1 ⟨[(33, .s 0 0 4 4)], [⟨5, [.v (.int .u8 (((sealTo s k).2 / 2 ^ (8 : Int).toNat) % 256)), .v (.int .u8 ((sealTo s k).2 % 256)), .v (.int .u8 (((sealTo s k).1 / 2 ^ (8 : Int).toNat) % 256)), .v (.int .u8 ((sealTo s k).1 % 256))]⟩]⟩ [(0 : Int) ≤ 8, 8 ≤ (64 : Int), (0 : Int) ≤ 8, 8 ≤ (64 : Int)] [] (by kernel_rfl) (oc (by omega) (oc (by omega) (oc (by omega) (oc (by omega) on)))) wn ?_
    refine l_bytes 5 (.s 0 0 4 4) [((sealTo s k).2 / 2 ^ (8 : Int).toNat) % 256, (sealTo s k).2 % 256, ((sealTo s k).1 / 2 ^ (8 : Int).toNat) % 256, (sealTo s k).1 % 256] Try.underlying163 Try.underlying5 Try.underlying9 rfl rfl (fun bs w hS => src_loc (q := 4) hS rfl rfl) ?_
    refine JL_run 1 [] [2] 0 ⟨[(2, vS (bstr ([((sealTo s k).2 / 2 ^ (8 : Int).toNat) % 256, (sealTo s k).2 % 256, ((sealTo s k).1 / 2 ^ (8 : Int).toNat) % 256, (sealTo s k).1 % 256])))], []⟩ [] [] (by kernel_rfl) on wn ?_
    refine l_nil (q_then_normal ?_)
    refine c_ret ?_
    refine q_ret (.inl rfl) [vS (bstr ([((sealTo s k).2 / 2 ^ (8 : Int).toNat) % 256, (sealTo s k).2 % 256, ((sealTo s k).1 / 2 ^ (8 : Int).toNat) % 256, (sealTo s k).1 % 256]))] rfl (fun bs w hS => ?_)
    refine ⟨?_, hS.kp⟩
    have e : k = s.size := by omega
    subst e
    simp [retOf, den, mSeal]

theorem ref_SealOf (s : ByteArray) (w : World) (hs : s.size ≤ 9223372036854775807) : Calls Try.prog 76 #[.string s] w fun e w' => e = .returned (.string (mSeal s)) ∧ Kp [] w w' := by
  refine calls_J0 37 Try.func76 rfl rfl [.string s] rfl ?_
  refine c_seq ?_
  refine c_region ?_
  refine JL_run 1 [] [0] 0 ⟨[(0, vS s)], []⟩ [] [] (by kernel_rfl) on wn ?_
  refine l_nil (q_then_normal ?_)
  refine c_seq ?_
  refine c_region ?_
  refine JL_run 1 [] [3, 0] 0 ⟨[(3, vI 1), (0, vS s)], []⟩ [] [] (by kernel_rfl) on wn ?_
  refine l_nil (q_then_normal ?_)
  refine c_seq ?_
  refine c_region ?_
  refine JL_run 1 [] [4, 3, 0] 0 ⟨[(4, vI 0), (3, vI 1), (0, vS s)], []⟩ [] [] (by kernel_rfl) on wn ?_
  refine l_nil (q_then_normal ?_)
  refine c_seq ?_
  refine c_seq ?_
  refine c_region ?_
  refine JL_run 1 [] [5, 4, 3, 0] 0 ⟨[(5, vI 0), (4, vI 0), (3, vI 1), (0, vS s)], []⟩ [] [] (by kernel_rfl) on wn ?_
  refine l_nil (q_then_normal ?_)
  refine c_block ?_
  refine c_loop (σ := Nat) (fun k => k ≤ s.size) (fun k => s.size - k) (fun k => []) (fun k => ⟨[(5, vI ((k : Nat) : Int)), (4, vI (sealTo s k).2), (3, vI (sealTo s k).1), (0, vS s)], []⟩) 0 (Nat.zero_le _) (s_start [5, 4, 3, 0] 0 (by kernel_rfl) rfl) ?_
  rintro k hk
  have hb := sealTo_bd s k
  have hu := (s.data.getD k 0).toNat_lt
  refine c_seq ?_
  refine c_seq ?_
  refine c_region ?_
  refine JL_run 4 [] [9, 5, 4, 3, 0] 0 ⟨[(9, vB (decide (((k : Nat) : Int) < (s.size : Int)))), (5, vI ((k : Nat) : Int)), (4, vI (sealTo s k).2), (3, vI (sealTo s k).1), (0, vS s)], []⟩ [] [] (by kernel_rfl) on wn ?_
  refine l_nil (q_then_normal ?_)
  cases h1 : decide (((k : Nat) : Int) < (s.size : Int)) with
  | true =>
    have h1 := of_decide_eq_true h1
    refine c_if true rfl ?_
    refine c_skip ?_
    refine q_then_normal ?_
    refine c_seq ?_
    refine c_block ?_
    refine c_seq ?_
    refine c_region ?_
    refine JL_run 8 [(3, .sidx k)] [3, 5, 4, 0] 0 ⟨[(3, vI (((sealTo s k).1 + ((s.data.getD k 0).toNat : Int)) % 65521)), (5, vI ((k : Nat) : Int)), (4, vI (sealTo s k).2), (0, vS s)], []⟩ [((k : Nat) : Int) = ((k : Nat) : Int), k < s.size, 0 ≤ ((s.data.getD k 0).toNat : Int), ((s.data.getD k 0).toNat : Int) ≤ 255, inR ((sealTo s k).1 + ((s.data.getD k 0).toNat : Int)), 0 ≤ (sealTo s k).1 + ((s.data.getD k 0).toNat : Int), (0 : Int) < 65521] [] (by kernel_rfl) (oc rfl (oc (by omega) (oc (by omega) (oc (by omega) (oc (by unfold inR; omega) (oc (by omega) (oc (by omega) on))))))) wn ?_
    refine l_nil (q_then_normal ?_)
    refine c_region ?_
    refine JL_run 5 [] [4, 3, 5, 0] 0 ⟨[(4, vI (((sealTo s k).2 + (((sealTo s k).1 + ((s.data.getD k 0).toNat : Int)) % 65521)) % 65521)), (3, vI (((sealTo s k).1 + ((s.data.getD k 0).toNat : Int)) % 65521)), (5, vI ((k : Nat) : Int)), (0, vS s)], []⟩ [inR ((sealTo s k).2 + (((sealTo s k).1 + ((s.data.getD k 0).toNat : Int)) % 65521)), 0 ≤ (sealTo s k).2 + (((sealTo s k).1 + ((s.data.getD k 0).toNat : Int)) % 65521), (0 : Int) < 65521] [] (by kernel_rfl) (oc (by unfold inR; omega) (oc (by omega) (oc (by omega) on))) wn ?_
    refine l_nil (q_block_normal (q_then_normal ?_))
    refine c_region ?_
    refine JL_run 3 [] [5, 4, 3, 0] 0 ⟨[(5, vI (((k : Nat) : Int) + 1)), (4, vI (((sealTo s k).2 + (((sealTo s k).1 + ((s.data.getD k 0).toNat : Int)) % 65521)) % 65521)), (3, vI (((sealTo s k).1 + ((s.data.getD k 0).toNat : Int)) % 65521)), (0, vS s)], []⟩ [inR (((k : Nat) : Int) + 1)] [] (by kernel_rfl) (oc (by unfold inR; omega) on) wn ?_
    refine l_nil (q_loop (x := (k : Nat)) ((k + 1) : Nat) (by omega) (by omega) (s_start [5, 4, 3, 0] 0 (by kernel_rfl) rfl))
  | false =>
    have h1 := of_decide_eq_false h1
    refine c_if false rfl ?_
    refine c_exit ?_
    refine q_then_exit (q_then_exit (q_block_hit (q_then_normal ?_)))
    refine c_seq ?_
    refine c_region ?_
    refine JL_run 13 [] [35] 1 ⟨[(35, .s 0 0 4 4)], [⟨5, [.v (.int .u8 (((sealTo s k).2 / 256) % 256)), .v (.int .u8 (((sealTo s k).2 % 256) % 256)), .v (.int .u8 (((sealTo s k).1 / 256) % 256)), .v (.int .u8 (((sealTo s k).1 % 256) % 256))]⟩]⟩ [0 ≤ (sealTo s k).2, (sealTo s k).2 ≤ 9223372036854775807, (0 : Int) < 256, 0 ≤ (sealTo s k).2, (0 : Int) < 256, 0 ≤ (sealTo s k).1, (sealTo s k).1 ≤ 9223372036854775807, (0 : Int) < 256, 0 ≤ (sealTo s k).1, (0 : Int) < 256] [] (by kernel_rfl) (oc (by omega) (oc (by omega) (oc (by omega) (oc (by omega) (oc (by omega) (oc (by omega) (oc (by omega) (oc (by omega) (oc (by omega) (oc (by omega) on)))))))))) wn ?_
    refine l_bytes 5 (.s 0 0 4 4) [((sealTo s k).2 / 256) % 256, ((sealTo s k).2 % 256) % 256, ((sealTo s k).1 / 256) % 256, ((sealTo s k).1 % 256) % 256] Try.underlying163 Try.underlying5 Try.underlying9 rfl rfl (fun bs w hS => src_loc (q := 4) hS rfl rfl) ?_
    refine JL_run 1 [] [2] 0 ⟨[(2, vS (bstr ([((sealTo s k).2 / 256) % 256, ((sealTo s k).2 % 256) % 256, ((sealTo s k).1 / 256) % 256, ((sealTo s k).1 % 256) % 256])))], []⟩ [] [] (by kernel_rfl) on wn ?_
    refine l_nil (q_then_normal ?_)
    refine c_ret ?_
    refine q_ret (.inl rfl) [vS (bstr ([((sealTo s k).2 / 256) % 256, ((sealTo s k).2 % 256) % 256, ((sealTo s k).1 / 256) % 256, ((sealTo s k).1 % 256) % 256]))] rfl (fun bs w hS => ?_)
    refine ⟨?_, hS.kp⟩
    have e : k = s.size := by omega
    subst e
    simp [retOf, den, mSeal]

theorem same_pairs {B B' : Nat → Prop} (a b : Sl DPair) (w : World) (ha : a.rd B w) (hb : b.rd B' w) (he : a.xs = b.xs) : Calls Try.prog 38 #[.slice a.A a.n a.c, .slice b.A b.n b.c] w fun e w' => e = .returned (.bool true) ∧ Kp [] w w' := by
  have oka := Sl.rd.ok ha
  have okb := Sl.rd.ok hb
  have hn := xs_n he
  have nca := Sl.ok.nc oka
  refine calls_J0 26 Try.func38 rfl rfl [.slice a.A a.n a.c, .slice b.A b.n b.c] rfl ?_
  refine c_seq ?_
  refine c_region ?_
  refine JL_run 1 [] [0, 1] 0 ⟨[(0, .v (.slice a.A a.n a.c)), (1, .v (.slice b.A b.n b.c))], []⟩ [] [] (by kernel_rfl) on wn ?_
  refine l_nil (q_then_normal ?_)
  refine c_seq ?_
  refine c_seq ?_
  refine c_region ?_
  refine JL_run 5 [] [10, 0, 1] 0 ⟨[(10, vB (!(decide (((a.n : Nat) : Int) = ((b.n : Nat) : Int))))), (0, .v (.slice a.A a.n a.c)), (1, .v (.slice b.A b.n b.c))], []⟩ [] [] (by kernel_rfl) on wn ?_
  refine l_nil (q_then_normal ?_)
  cases h1 : decide (((a.n : Nat) : Int) = ((b.n : Nat) : Int)) with
  | true =>
    have h1 := of_decide_eq_true h1
    refine c_if false rfl ?_
    refine c_skip ?_
    refine q_then_normal ?_
    refine c_seq ?_
    refine c_seq ?_
    refine c_region ?_
    refine JL_run 1 [] [5, 0, 1] 0 ⟨[(5, vI 0), (0, .v (.slice a.A a.n a.c)), (1, .v (.slice b.A b.n b.c))], []⟩ [] [] (by kernel_rfl) on wn ?_
    refine l_nil (q_then_normal ?_)
    refine c_block ?_
    refine c_loop (σ := Nat) (fun i => True) (fun i => a.n - i) (fun i => []) (fun i => ⟨[(5, vI ((i : Nat) : Int)), (0, .v (.slice a.A a.n a.c)), (1, .v (.slice b.A b.n b.c))], []⟩) 0 trivial (s_start [5, 0, 1] 0 (by kernel_rfl) rfl) ?_
    rintro i _
    have hat := xs_at he i
    refine c_seq ?_
    refine c_seq ?_
    refine c_region ?_
    refine JL_run 4 [] [14, 5, 0, 1] 0 ⟨[(14, vB (decide (((i : Nat) : Int) < ((a.n : Nat) : Int)))), (5, vI ((i : Nat) : Int)), (0, .v (.slice a.A a.n a.c)), (1, .v (.slice b.A b.n b.c))], []⟩ [] [] (by kernel_rfl) on wn ?_
    refine l_nil (q_then_normal ?_)
    cases h2 : decide (((i : Nat) : Int) < ((a.n : Nat) : Int)) with
    | true =>
      have h2 := of_decide_eq_true h2
      refine c_if true rfl ?_
      refine c_skip ?_
      refine q_then_normal ?_
      refine c_seq ?_
      refine c_block ?_
      refine c_seq ?_
      refine c_draw 9 [] (.p 0 (.p 1 (.p 2 (.q 3 (.p 4 (.p 5 (.p 6 (.q 7 (.p 8 .nil))))))))) [] [] Try_mixed (by kernel_rfl) (pq_then (pq_block (pq_then (pq_then (pq_block (pq_then pq_body)))))) .slnil ?_
      refine h_quiet [(2, .idx a.ad i), (3, .ext [.string (a.at i).name, .string (a.at i).value, .int .i64 (a.at i).version]), (6, .idx b.ad i), (7, .ext [.string (b.at i).name, .string (b.at i).value, .int .i64 (b.at i).version]), (8, .val (.bool (!((decide ((a.at i).name = (b.at i).name)) && ((decide ((a.at i).value = (b.at i).value)) && ((decide ((a.at i).version = (b.at i).version)) && true))))))] [(0, true), (1, true), (2, true), (3, false), (4, true), (5, true), (6, true), (7, false), (8, true)] [(25, vB (!((decide ((a.at i).name = (b.at i).name)) && ((decide ((a.at i).value = (b.at i).value)) && ((decide ((a.at i).version = (b.at i).version)) && true))))), (24, .v (.agg #[.string (b.at i).name, .string (b.at i).value, .int .i64 (b.at i).version])), (23, .v (.pointer (some (b.ad.add (i * 3))))), (22, vI ((i : Nat) : Int)), (21, .v (.slice b.A b.n b.c)), (20, .v (.agg #[.string (a.at i).name, .string (a.at i).value, .int .i64 (a.at i).version])), (19, .v (.pointer (some (a.ad.add (i * 3))))), (18, vI ((i : Nat) : Int)), (17, .v (.slice a.A a.n a.c)), (14, vB true), (5, vI ((i : Nat) : Int)), (0, .v (.slice a.A a.n a.c)), (1, .v (.slice b.A b.n b.c))] [a.A = some a.ad, ((i : Nat) : Int) = ((i : Nat) : Int), i < a.n, b.A = some b.ad, ((i : Nat) : Int) = ((i : Nat) : Int), i < b.n, ∀ w, (do eqGuard .neq 110 (.tmp 20) (.tmp 24) (.agg #[.string (a.at i).name, .string (a.at i).value, .int .i64 (a.at i).version]) (.agg #[.string (b.at i).name, .string (b.at i).value, .int .i64 (b.at i).version]); binOp .neq 110 (.agg #[.string (a.at i).name, .string (a.at i).value, .int .i64 (a.at i).version]) (.agg #[.string (b.at i).name, .string (b.at i).value, .int .i64 (b.at i).version]) : Sem Value).run Try.prog w = .ok (.bool (!((decide ((a.at i).name = (b.at i).name)) && ((decide ((a.at i).value = (b.at i).value)) && ((decide ((a.at i).version = (b.at i).version)) && true))))) w] [(a.ad.add (i * 3), [.string (a.at i).name, .string (a.at i).value, .int .i64 (a.at i).version]), (b.ad.add (i * 3), [.string (b.at i).name, .string (b.at i).value, .int .i64 (b.at i).version])] rfl (by kernel_rfl) (oc (Sl.ok.own (s := a) (i := i) oka (by omega)) (oc rfl (oc (by omega) (oc (Sl.ok.own (s := b) (i := i) okb (by omega)) (oc rfl (oc (by omega) (oc (neq_agg (by kernel_rfl) (by kernel_rfl)) on))))))) (fun w hk hr => ⟨(Sl.rd.all (s := a) (i := i) (Sl.rd.kp ha hk) (by omega) rfl), ⟨(Sl.rd.all (s := b) (i := i) (Sl.rd.kp hb hk) (by omega) rfl), trivial⟩⟩) ?_
      refine h_nil ?_
      refine l_nil (q_then_normal ?_)
      cases h3 : (decide ((a.at i).name = (b.at i).name)) && ((decide ((a.at i).value = (b.at i).value)) && ((decide ((a.at i).version = (b.at i).version)) && true)) with
      | true =>
        refine c_if false rfl ?_
        refine c_skip ?_
        refine q_block_normal (q_then_normal ?_)
        refine c_region ?_
        refine JL_run 3 [] [5, 0, 1] 0 ⟨[(5, vI (((i : Nat) : Int) + 1)), (0, .v (.slice a.A a.n a.c)), (1, .v (.slice b.A b.n b.c))], []⟩ [inR (((i : Nat) : Int) + 1)] [] (by kernel_rfl) (oc (by unfold inR; omega) on) wn ?_
        refine l_nil (q_loop (x := (i : Nat)) ((i + 1) : Nat) trivial (by omega) (s_start [5, 0, 1] 0 (by kernel_rfl) rfl))
      | false =>
        exfalso; simp [xs_at he i] at h3
    | false =>
      have h2 := of_decide_eq_false h2
      refine c_if false rfl ?_
      refine c_exit ?_
      refine q_then_exit (q_then_exit (q_block_hit (q_then_normal ?_)))
      refine c_seq ?_
      refine c_region ?_
      refine JL_run 1 [] [4] 0 ⟨[(4, vB true)], []⟩ [] [] (by kernel_rfl) on wn ?_
      refine l_nil (q_then_normal ?_)
      refine c_ret ?_
      refine q_ret (.inl rfl) [vB true] rfl (fun bs w hS => ?_)
      exact ⟨rfl, hS.kp⟩
  | false =>
    have h1 := of_decide_eq_false h1
    exfalso; first | omega | exact h1 (xs_at he i)

theorem same_ints {B B' : Nat → Prop} (a b : Sl Int) (w : World) (ha : a.rd B w) (hb : b.rd B' w) (he : a.xs = b.xs) : Calls Try.prog 59 #[.slice a.A a.n a.c, .slice b.A b.n b.c] w fun e w' => e = .returned (.bool true) ∧ Kp [] w w' := by
  have oka := Sl.rd.ok ha
  have okb := Sl.rd.ok hb
  have hn := xs_n he
  have nca := Sl.ok.nc oka
  refine calls_J0 26 Try.func59 rfl rfl [.slice a.A a.n a.c, .slice b.A b.n b.c] rfl ?_
  refine c_seq ?_
  refine c_region ?_
  refine JL_run 1 [] [0, 1] 0 ⟨[(0, .v (.slice a.A a.n a.c)), (1, .v (.slice b.A b.n b.c))], []⟩ [] [] (by kernel_rfl) on wn ?_
  refine l_nil (q_then_normal ?_)
  refine c_seq ?_
  refine c_seq ?_
  refine c_region ?_
  refine JL_run 5 [] [10, 0, 1] 0 ⟨[(10, vB (!(decide (((a.n : Nat) : Int) = ((b.n : Nat) : Int))))), (0, .v (.slice a.A a.n a.c)), (1, .v (.slice b.A b.n b.c))], []⟩ [] [] (by kernel_rfl) on wn ?_
  refine l_nil (q_then_normal ?_)
  cases h1 : decide (((a.n : Nat) : Int) = ((b.n : Nat) : Int)) with
  | true =>
    have h1 := of_decide_eq_true h1
    refine c_if false rfl ?_
    refine c_skip ?_
    refine q_then_normal ?_
    refine c_seq ?_
    refine c_seq ?_
    refine c_region ?_
    refine JL_run 1 [] [5, 0, 1] 0 ⟨[(5, vI 0), (0, .v (.slice a.A a.n a.c)), (1, .v (.slice b.A b.n b.c))], []⟩ [] [] (by kernel_rfl) on wn ?_
    refine l_nil (q_then_normal ?_)
    refine c_block ?_
    refine c_loop (σ := Nat) (fun i => True) (fun i => a.n - i) (fun i => []) (fun i => ⟨[(5, vI ((i : Nat) : Int)), (0, .v (.slice a.A a.n a.c)), (1, .v (.slice b.A b.n b.c))], []⟩) 0 trivial (s_start [5, 0, 1] 0 (by kernel_rfl) rfl) ?_
    rintro i _
    have hat := xs_at he i
    refine c_seq ?_
    refine c_seq ?_
    refine c_region ?_
    refine JL_run 4 [] [14, 5, 0, 1] 0 ⟨[(14, vB (decide (((i : Nat) : Int) < ((a.n : Nat) : Int)))), (5, vI ((i : Nat) : Int)), (0, .v (.slice a.A a.n a.c)), (1, .v (.slice b.A b.n b.c))], []⟩ [] [] (by kernel_rfl) on wn ?_
    refine l_nil (q_then_normal ?_)
    cases h2 : decide (((i : Nat) : Int) < ((a.n : Nat) : Int)) with
    | true =>
      have h2 := of_decide_eq_true h2
      refine c_if true rfl ?_
      refine c_skip ?_
      refine q_then_normal ?_
      refine c_seq ?_
      refine c_block ?_
      refine c_seq ?_
      refine c_draw 9 [] (.p 0 (.p 1 (.p 2 (.q 3 (.p 4 (.p 5 (.p 6 (.q 7 (.p 8 .nil))))))))) [] [] Try_mixed (by kernel_rfl) (pq_then (pq_block (pq_then (pq_then (pq_block (pq_then pq_body)))))) .slnil ?_
      refine h_quiet [(2, .idx a.ad i), (3, .ext [.int .i64 (a.at i)]), (6, .idx b.ad i), (7, .ext [.int .i64 (b.at i)])] [(0, true), (1, true), (2, true), (3, false), (4, true), (5, true), (6, true), (7, false), (8, true)] [(25, vB (!(decide ((a.at i) = (b.at i))))), (24, vI (b.at i)), (23, .v (.pointer (some (b.ad.add (i * 1))))), (22, vI ((i : Nat) : Int)), (21, .v (.slice b.A b.n b.c)), (20, vI (a.at i)), (19, .v (.pointer (some (a.ad.add (i * 1))))), (18, vI ((i : Nat) : Int)), (17, .v (.slice a.A a.n a.c)), (14, vB true), (5, vI ((i : Nat) : Int)), (0, .v (.slice a.A a.n a.c)), (1, .v (.slice b.A b.n b.c))] [a.A = some a.ad, ((i : Nat) : Int) = ((i : Nat) : Int), i < a.n, b.A = some b.ad, ((i : Nat) : Int) = ((i : Nat) : Int), i < b.n] [(a.ad.add (i * 1), [.int .i64 (a.at i)]), (b.ad.add (i * 1), [.int .i64 (b.at i)])] rfl (by kernel_rfl) (oc (Sl.ok.own (s := a) (i := i) oka (by omega)) (oc rfl (oc (by omega) (oc (Sl.ok.own (s := b) (i := i) okb (by omega)) (oc rfl (oc (by omega) on)))))) (fun w hk hr => ⟨(Sl.rd.all (s := a) (i := i) (Sl.rd.kp ha hk) (by omega) rfl), ⟨(Sl.rd.all (s := b) (i := i) (Sl.rd.kp hb hk) (by omega) rfl), trivial⟩⟩) ?_
      refine h_nil ?_
      refine l_nil (q_then_normal ?_)
      cases h3 : decide ((a.at i) = (b.at i)) with
      | true =>
        have h3 := of_decide_eq_true h3
        refine c_if false rfl ?_
        refine c_skip ?_
        refine q_block_normal (q_then_normal ?_)
        refine c_region ?_
        refine JL_run 3 [] [5, 0, 1] 0 ⟨[(5, vI (((i : Nat) : Int) + 1)), (0, .v (.slice a.A a.n a.c)), (1, .v (.slice b.A b.n b.c))], []⟩ [inR (((i : Nat) : Int) + 1)] [] (by kernel_rfl) (oc (by unfold inR; omega) on) wn ?_
        refine l_nil (q_loop (x := (i : Nat)) ((i + 1) : Nat) trivial (by omega) (s_start [5, 0, 1] 0 (by kernel_rfl) rfl))
      | false =>
        have h3 := of_decide_eq_false h3
        exfalso; first | omega | exact h3 (xs_at he i)
    | false =>
      have h2 := of_decide_eq_false h2
      refine c_if false rfl ?_
      refine c_exit ?_
      refine q_then_exit (q_then_exit (q_block_hit (q_then_normal ?_)))
      refine c_seq ?_
      refine c_region ?_
      refine JL_run 1 [] [4] 0 ⟨[(4, vB true)], []⟩ [] [] (by kernel_rfl) on wn ?_
      refine l_nil (q_then_normal ?_)
      refine c_ret ?_
      refine q_ret (.inl rfl) [vB true] rfl (fun bs w hS => ?_)
      exact ⟨rfl, hS.kp⟩
  | false =>
    have h1 := of_decide_eq_false h1
    exfalso; first | omega | exact h1 (xs_at he i)

theorem same_locks {B B' : Nat → Prop} (a b : Sl CLock) (w : World) (ha : a.rd B w) (hb : b.rd B' w) (he : a.xs.map CLock.abs = b.xs.map CLock.abs) : Calls Try.prog 18 #[.slice a.A a.n a.c, .slice b.A b.n b.c] w fun e w' => e = .returned (.bool true) ∧ Kp [] w w' := by
  have oka := Sl.rd.ok ha
  have okb := Sl.rd.ok hb
  have hn := map_n he
  have nca := Sl.ok.nc oka
  refine calls_J0 68 Try.func18 rfl rfl [.slice a.A a.n a.c, .slice b.A b.n b.c] rfl ?_
  refine c_seq ?_
  refine c_region ?_
  refine JL_run 1 [] [0, 1] 0 ⟨[(0, .v (.slice a.A a.n a.c)), (1, .v (.slice b.A b.n b.c))], []⟩ [] [] (by kernel_rfl) on wn ?_
  refine l_nil (q_then_normal ?_)
  refine c_seq ?_
  refine c_seq ?_
  refine c_region ?_
  refine JL_run 5 [] [10, 0, 1] 0 ⟨[(10, vB (!(decide (((a.n : Nat) : Int) = ((b.n : Nat) : Int))))), (0, .v (.slice a.A a.n a.c)), (1, .v (.slice b.A b.n b.c))], []⟩ [] [] (by kernel_rfl) on wn ?_
  refine l_nil (q_then_normal ?_)
  cases h1 : decide (((a.n : Nat) : Int) = ((b.n : Nat) : Int)) with
  | true =>
    have h1 := of_decide_eq_true h1
    refine c_if false rfl ?_
    refine c_skip ?_
    refine q_then_normal ?_
    refine c_seq ?_
    refine c_seq ?_
    refine c_region ?_
    refine JL_run 1 [] [5, 0, 1] 0 ⟨[(5, vI 0), (0, .v (.slice a.A a.n a.c)), (1, .v (.slice b.A b.n b.c))], []⟩ [] [] (by kernel_rfl) on wn ?_
    refine l_nil (q_then_normal ?_)
    refine c_block ?_
    refine c_loop (σ := Nat) (fun i => True) (fun i => a.n - i) (fun i => []) (fun i => ⟨[(5, vI ((i : Nat) : Int)), (0, .v (.slice a.A a.n a.c)), (1, .v (.slice b.A b.n b.c))], []⟩) 0 trivial (s_start [5, 0, 1] 0 (by kernel_rfl) rfl) ?_
    rintro i _
    have hat := map_at (f := CLock.abs) (g := CLock.abs) rfl he i
    have q1 : (a.at i).name = (b.at i).name := congrArg DLock.name hat
    have q2 : (a.at i).holder = (b.at i).holder := congrArg DLock.holder hat
    have q3 : (a.at i).fence = (b.at i).fence := congrArg DLock.fence hat
    have q4 : (a.at i).line.xs = (b.at i).line.xs := congrArg DLock.line hat
    refine c_seq ?_
    refine c_seq ?_
    refine c_region ?_
    refine JL_run 4 [] [14, 5, 0, 1] 0 ⟨[(14, vB (decide (((i : Nat) : Int) < ((a.n : Nat) : Int)))), (5, vI ((i : Nat) : Int)), (0, .v (.slice a.A a.n a.c)), (1, .v (.slice b.A b.n b.c))], []⟩ [] [] (by kernel_rfl) on wn ?_
    refine l_nil (q_then_normal ?_)
    cases h2 : decide (((i : Nat) : Int) < ((a.n : Nat) : Int)) with
    | true =>
      have h2 := of_decide_eq_true h2
      refine c_if true rfl ?_
      refine c_skip ?_
      refine q_then_normal ?_
      refine c_seq ?_
      refine c_block ?_
      refine c_seq ?_
      refine c_draw 51 [] (.p 0 (.p 1 (.p 2 (.p 3 (.q 4 (.p 5 (.p 6 (.p 7 (.p 8 (.q 9 (.p 10 (.p 11 (.p 12 (.p 13 (.p 14 (.p 15 (.q 16 (.p 17 (.p 18 (.p 19 (.p 20 (.q 21 (.p 22 (.p 23 (.p 24 (.p 25 (.p 26 (.p 27 (.p 28 (.q 29 (.p 30 (.p 31 (.p 32 (.p 33 (.q 34 (.p 35 (.p 36 (.p 37 (.p 38 (.p 39 (.p 40 (.p 41 (.q 42 (.p 43 (.p 44 (.p 45 (.p 46 (.q 47 (.b 48 (.p 49 (.p 50 .nil)) .z))))))))))))))))))))))))))))))))))))))))))))))))) [] [] Try_mixed (by kernel_rfl) (pq_then (pq_block (pq_then (pq_then (pq_block (pq_then pq_body)))))) .slnil ?_
      refine h_quiet [(2, .idx a.ad i), (4, .ext [.string (a.at i).name]), (7, .idx b.ad i), (9, .ext [.string (b.at i).name])] [(0, true), (1, true), (2, true), (3, true), (4, false), (5, true), (6, true), (7, true), (8, true), (9, false), (10, true), (11, true)] [(28, vB (!(decide ((a.at i).name = (b.at i).name)))), (27, vB (!(decide ((a.at i).name = (b.at i).name)))), (26, vS (b.at i).name), (25, .v (.pointer (some ((b.ad.add (i * 4)).add 0)))), (24, .v (.pointer (some (b.ad.add (i * 4))))), (23, vI ((i : Nat) : Int)), (22, .v (.slice b.A b.n b.c)), (21, vS (a.at i).name), (20, .v (.pointer (some ((a.ad.add (i * 4)).add 0)))), (19, .v (.pointer (some (a.ad.add (i * 4))))), (18, vI ((i : Nat) : Int)), (17, .v (.slice a.A a.n a.c)), (14, vB true), (5, vI ((i : Nat) : Int)), (0, .v (.slice a.A a.n a.c)), (1, .v (.slice b.A b.n b.c))] [a.A = some a.ad, ((i : Nat) : Int) = ((i : Nat) : Int), i < a.n, b.A = some b.ad, ((i : Nat) : Int) = ((i : Nat) : Int), i < b.n] [((a.ad.add (i * 4)).add 0, [.string (a.at i).name]), ((b.ad.add (i * 4)).add 0, [.string (b.at i).name])] rfl (by kernel_rfl) (oc (Sl.ok.own (s := a) (i := i) oka (by omega)) (oc rfl (oc (by omega) (oc (Sl.ok.own (s := b) (i := i) okb (by omega)) (oc rfl (oc (by omega) on)))))) (fun w hk hr => ⟨(Sl.rd.fld (s := a) (i := i) (Sl.rd.kp ha hk) (by omega) 0 1 rfl), ⟨(Sl.rd.fld (s := b) (i := i) (Sl.rd.kp hb hk) (by omega) 0 1 rfl), trivial⟩⟩) ?_
      cases h3 : decide ((a.at i).name = (b.at i).name) with
      | true =>
        have h3 := of_decide_eq_true h3
        refine h_quiet [(14, .idx a.ad i), (16, .ext [.int .i64 (a.at i).holder]), (19, .idx b.ad i), (21, .ext [.int .i64 (b.at i).holder])] [(12, true), (13, true), (14, true), (15, true), (16, false), (17, true), (18, true), (19, true), (20, true), (21, false), (22, true), (23, true), (24, true)] [(41, vB (!(decide ((a.at i).holder = (b.at i).holder)))), (40, vB (!(decide ((a.at i).holder = (b.at i).holder)))), (39, vB (!(decide ((a.at i).holder = (b.at i).holder)))), (38, vI (b.at i).holder), (37, .v (.pointer (some ((b.ad.add (i * 4)).add 1)))), (36, .v (.pointer (some (b.ad.add (i * 4))))), (35, vI ((i : Nat) : Int)), (34, .v (.slice b.A b.n b.c)), (33, vI (a.at i).holder), (32, .v (.pointer (some ((a.ad.add (i * 4)).add 1)))), (31, .v (.pointer (some (a.ad.add (i * 4))))), (30, vI ((i : Nat) : Int)), (29, .v (.slice a.A a.n a.c)), (28, vB false), (27, vB false), (26, vS (b.at i).name), (25, .v (.pointer (some ((b.ad.add (i * 4)).add 0)))), (24, .v (.pointer (some (b.ad.add (i * 4))))), (23, vI ((i : Nat) : Int)), (22, .v (.slice b.A b.n b.c)), (21, vS (a.at i).name), (20, .v (.pointer (some ((a.ad.add (i * 4)).add 0)))), (19, .v (.pointer (some (a.ad.add (i * 4))))), (18, vI ((i : Nat) : Int)), (17, .v (.slice a.A a.n a.c)), (14, vB true), (5, vI ((i : Nat) : Int)), (0, .v (.slice a.A a.n a.c)), (1, .v (.slice b.A b.n b.c))] [a.A = some a.ad, ((i : Nat) : Int) = ((i : Nat) : Int), i < a.n, b.A = some b.ad, ((i : Nat) : Int) = ((i : Nat) : Int), i < b.n] [((a.ad.add (i * 4)).add 1, [.int .i64 (a.at i).holder]), ((b.ad.add (i * 4)).add 1, [.int .i64 (b.at i).holder])] rfl (by kernel_rfl) (oc (Sl.ok.own (s := a) (i := i) oka (by omega)) (oc rfl (oc (by omega) (oc (Sl.ok.own (s := b) (i := i) okb (by omega)) (oc rfl (oc (by omega) on)))))) (fun w hk hr => ⟨(Sl.rd.fld (s := a) (i := i) (Sl.rd.kp ha hk) (by omega) 1 1 rfl), ⟨(Sl.rd.fld (s := b) (i := i) (Sl.rd.kp hb hk) (by omega) 1 1 rfl), trivial⟩⟩) ?_
        cases h4 : decide ((a.at i).holder = (b.at i).holder) with
        | true =>
          have h4 := of_decide_eq_true h4
          refine h_quiet [(27, .idx a.ad i), (29, .ext [.int .i64 (a.at i).fence]), (32, .idx b.ad i), (34, .ext [.int .i64 (b.at i).fence])] [(25, true), (26, true), (27, true), (28, true), (29, false), (30, true), (31, true), (32, true), (33, true), (34, false), (35, true), (36, true), (37, true)] [(54, vB (!(decide ((a.at i).fence = (b.at i).fence)))), (53, vB (!(decide ((a.at i).fence = (b.at i).fence)))), (52, vB (!(decide ((a.at i).fence = (b.at i).fence)))), (51, vI (b.at i).fence), (50, .v (.pointer (some ((b.ad.add (i * 4)).add 2)))), (49, .v (.pointer (some (b.ad.add (i * 4))))), (48, vI ((i : Nat) : Int)), (47, .v (.slice b.A b.n b.c)), (46, vI (a.at i).fence), (45, .v (.pointer (some ((a.ad.add (i * 4)).add 2)))), (44, .v (.pointer (some (a.ad.add (i * 4))))), (43, vI ((i : Nat) : Int)), (42, .v (.slice a.A a.n a.c)), (41, vB false), (40, vB false), (39, vB false), (38, vI (b.at i).holder), (37, .v (.pointer (some ((b.ad.add (i * 4)).add 1)))), (36, .v (.pointer (some (b.ad.add (i * 4))))), (35, vI ((i : Nat) : Int)), (34, .v (.slice b.A b.n b.c)), (33, vI (a.at i).holder), (32, .v (.pointer (some ((a.ad.add (i * 4)).add 1)))), (31, .v (.pointer (some (a.ad.add (i * 4))))), (30, vI ((i : Nat) : Int)), (29, .v (.slice a.A a.n a.c)), (28, vB false), (27, vB false), (26, vS (b.at i).name), (25, .v (.pointer (some ((b.ad.add (i * 4)).add 0)))), (24, .v (.pointer (some (b.ad.add (i * 4))))), (23, vI ((i : Nat) : Int)), (22, .v (.slice b.A b.n b.c)), (21, vS (a.at i).name), (20, .v (.pointer (some ((a.ad.add (i * 4)).add 0)))), (19, .v (.pointer (some (a.ad.add (i * 4))))), (18, vI ((i : Nat) : Int)), (17, .v (.slice a.A a.n a.c)), (14, vB true), (5, vI ((i : Nat) : Int)), (0, .v (.slice a.A a.n a.c)), (1, .v (.slice b.A b.n b.c))] [a.A = some a.ad, ((i : Nat) : Int) = ((i : Nat) : Int), i < a.n, b.A = some b.ad, ((i : Nat) : Int) = ((i : Nat) : Int), i < b.n] [((a.ad.add (i * 4)).add 2, [.int .i64 (a.at i).fence]), ((b.ad.add (i * 4)).add 2, [.int .i64 (b.at i).fence])] rfl (by kernel_rfl) (oc (Sl.ok.own (s := a) (i := i) oka (by omega)) (oc rfl (oc (by omega) (oc (Sl.ok.own (s := b) (i := i) okb (by omega)) (oc rfl (oc (by omega) on)))))) (fun w hk hr => ⟨(Sl.rd.fld (s := a) (i := i) (Sl.rd.kp ha hk) (by omega) 2 1 rfl), ⟨(Sl.rd.fld (s := b) (i := i) (Sl.rd.kp hb hk) (by omega) 2 1 rfl), trivial⟩⟩) ?_
          cases h5 : decide ((a.at i).fence = (b.at i).fence) with
          | true =>
            have h5 := of_decide_eq_true h5
            refine h_quiet [(40, .idx a.ad i), (42, .ext [.slice (a.at i).line.A (a.at i).line.n (a.at i).line.c]), (45, .idx b.ad i), (47, .ext [.slice (b.at i).line.A (b.at i).line.n (b.at i).line.c])] [(38, true), (39, true), (40, true), (41, true), (42, false), (43, true), (44, true), (45, true), (46, true), (47, false)] [(64, .v (.slice (b.at i).line.A (b.at i).line.n (b.at i).line.c)), (63, .v (.pointer (some ((b.ad.add (i * 4)).add 3)))), (62, .v (.pointer (some (b.ad.add (i * 4))))), (61, vI ((i : Nat) : Int)), (60, .v (.slice b.A b.n b.c)), (59, .v (.slice (a.at i).line.A (a.at i).line.n (a.at i).line.c)), (58, .v (.pointer (some ((a.ad.add (i * 4)).add 3)))), (57, .v (.pointer (some (a.ad.add (i * 4))))), (56, vI ((i : Nat) : Int)), (55, .v (.slice a.A a.n a.c)), (54, vB false), (53, vB false), (52, vB false), (51, vI (b.at i).fence), (50, .v (.pointer (some ((b.ad.add (i * 4)).add 2)))), (49, .v (.pointer (some (b.ad.add (i * 4))))), (48, vI ((i : Nat) : Int)), (47, .v (.slice b.A b.n b.c)), (46, vI (a.at i).fence), (45, .v (.pointer (some ((a.ad.add (i * 4)).add 2)))), (44, .v (.pointer (some (a.ad.add (i * 4))))), (43, vI ((i : Nat) : Int)), (42, .v (.slice a.A a.n a.c)), (41, vB false), (40, vB false), (39, vB false), (38, vI (b.at i).holder), (37, .v (.pointer (some ((b.ad.add (i * 4)).add 1)))), (36, .v (.pointer (some (b.ad.add (i * 4))))), (35, vI ((i : Nat) : Int)), (34, .v (.slice b.A b.n b.c)), (33, vI (a.at i).holder), (32, .v (.pointer (some ((a.ad.add (i * 4)).add 1)))), (31, .v (.pointer (some (a.ad.add (i * 4))))), (30, vI ((i : Nat) : Int)), (29, .v (.slice a.A a.n a.c)), (28, vB false), (27, vB false), (26, vS (b.at i).name), (25, .v (.pointer (some ((b.ad.add (i * 4)).add 0)))), (24, .v (.pointer (some (b.ad.add (i * 4))))), (23, vI ((i : Nat) : Int)), (22, .v (.slice b.A b.n b.c)), (21, vS (a.at i).name), (20, .v (.pointer (some ((a.ad.add (i * 4)).add 0)))), (19, .v (.pointer (some (a.ad.add (i * 4))))), (18, vI ((i : Nat) : Int)), (17, .v (.slice a.A a.n a.c)), (14, vB true), (5, vI ((i : Nat) : Int)), (0, .v (.slice a.A a.n a.c)), (1, .v (.slice b.A b.n b.c))] [a.A = some a.ad, ((i : Nat) : Int) = ((i : Nat) : Int), i < a.n, b.A = some b.ad, ((i : Nat) : Int) = ((i : Nat) : Int), i < b.n] [((a.ad.add (i * 4)).add 3, [.slice (a.at i).line.A (a.at i).line.n (a.at i).line.c]), ((b.ad.add (i * 4)).add 3, [.slice (b.at i).line.A (b.at i).line.n (b.at i).line.c])] rfl (by kernel_rfl) (oc (Sl.ok.own (s := a) (i := i) oka (by omega)) (oc rfl (oc (by omega) (oc (Sl.ok.own (s := b) (i := i) okb (by omega)) (oc rfl (oc (by omega) on)))))) (fun w hk hr => ⟨(Sl.rd.fld (s := a) (i := i) (Sl.rd.kp ha hk) (by omega) 3 1 rfl), ⟨(Sl.rd.fld (s := b) (i := i) (Sl.rd.kp hb hk) (by omega) 3 1 rfl), trivial⟩⟩) ?_
            refine h_pure 59 [] [.v (.slice (a.at i).line.A (a.at i).line.n (a.at i).line.c), .v (.slice (b.at i).line.A (b.at i).line.n (b.at i).line.c)] (.bool true) rfl Try.call59 rfl rfl rfl rfl (fun bs w hS => same_ints _ _ w (And.right (Sl.rd.sub (s := a) (i := i) (Sl.rd.kp ha hS.kp) (by omega))) (And.right (Sl.rd.sub (s := b) (i := i) (Sl.rd.kp hb hS.kp) (by omega))) q4) (fun bs0 bs w hp hl hS => hS.down hp hl rfl le_nil .slnil) ?_
            refine h_quiet [] [(49, true), (50, true)] [(67, vB false), (66, vB false), (65, vB true), (64, .v (.slice (b.at i).line.A (b.at i).line.n (b.at i).line.c)), (63, .v (.pointer (some ((b.ad.add (i * 4)).add 3)))), (62, .v (.pointer (some (b.ad.add (i * 4))))), (61, vI ((i : Nat) : Int)), (60, .v (.slice b.A b.n b.c)), (59, .v (.slice (a.at i).line.A (a.at i).line.n (a.at i).line.c)), (58, .v (.pointer (some ((a.ad.add (i * 4)).add 3)))), (57, .v (.pointer (some (a.ad.add (i * 4))))), (56, vI ((i : Nat) : Int)), (55, .v (.slice a.A a.n a.c)), (54, vB false), (53, vB false), (52, vB false), (51, vI (b.at i).fence), (50, .v (.pointer (some ((b.ad.add (i * 4)).add 2)))), (49, .v (.pointer (some (b.ad.add (i * 4))))), (48, vI ((i : Nat) : Int)), (47, .v (.slice b.A b.n b.c)), (46, vI (a.at i).fence), (45, .v (.pointer (some ((a.ad.add (i * 4)).add 2)))), (44, .v (.pointer (some (a.ad.add (i * 4))))), (43, vI ((i : Nat) : Int)), (42, .v (.slice a.A a.n a.c)), (41, vB false), (40, vB false), (39, vB false), (38, vI (b.at i).holder), (37, .v (.pointer (some ((b.ad.add (i * 4)).add 1)))), (36, .v (.pointer (some (b.ad.add (i * 4))))), (35, vI ((i : Nat) : Int)), (34, .v (.slice b.A b.n b.c)), (33, vI (a.at i).holder), (32, .v (.pointer (some ((a.ad.add (i * 4)).add 1)))), (31, .v (.pointer (some (a.ad.add (i * 4))))), (30, vI ((i : Nat) : Int)), (29, .v (.slice a.A a.n a.c)), (28, vB false), (27, vB false), (26, vS (b.at i).name), (25, .v (.pointer (some ((b.ad.add (i * 4)).add 0)))), (24, .v (.pointer (some (b.ad.add (i * 4))))), (23, vI ((i : Nat) : Int)), (22, .v (.slice b.A b.n b.c)), (21, vS (a.at i).name), (20, .v (.pointer (some ((a.ad.add (i * 4)).add 0)))), (19, .v (.pointer (some (a.ad.add (i * 4))))), (18, vI ((i : Nat) : Int)), (17, .v (.slice a.A a.n a.c)), (14, vB true), (5, vI ((i : Nat) : Int)), (0, .v (.slice a.A a.n a.c)), (1, .v (.slice b.A b.n b.c))] [] [] rfl (by kernel_rfl) on wn ?_
            refine h_nil ?_
            refine l_nil (q_then_normal ?_)
            refine c_if false rfl ?_
            refine c_skip ?_
            refine q_block_normal (q_then_normal ?_)
            refine c_region ?_
            refine JL_run 3 [] [5, 0, 1] 0 ⟨[(5, vI (((i : Nat) : Int) + 1)), (0, .v (.slice a.A a.n a.c)), (1, .v (.slice b.A b.n b.c))], []⟩ [inR (((i : Nat) : Int) + 1)] [] (by kernel_rfl) (oc (by unfold inR; omega) on) wn ?_
            refine l_nil (q_loop (x := (i : Nat)) ((i + 1) : Nat) trivial (by omega) (s_start [5, 0, 1] 0 (by kernel_rfl) rfl))
          | false =>
            have h5 := of_decide_eq_false h5
            exfalso; first | omega | exact h5 q1
        | false =>
          have h4 := of_decide_eq_false h4
          exfalso; first | omega | exact h4 q1
      | false =>
        have h3 := of_decide_eq_false h3
        exfalso; first | omega | exact h3 q1
    | false =>
      have h2 := of_decide_eq_false h2
      refine c_if false rfl ?_
      refine c_exit ?_
      refine q_then_exit (q_then_exit (q_block_hit (q_then_normal ?_)))
      refine c_seq ?_
      refine c_region ?_
      refine JL_run 1 [] [4] 0 ⟨[(4, vB true)], []⟩ [] [] (by kernel_rfl) on wn ?_
      refine l_nil (q_then_normal ?_)
      refine c_ret ?_
      refine q_ret (.inl rfl) [vB true] rfl (fun bs w hS => ?_)
      exact ⟨rfl, hS.kp⟩
  | false =>
    have h1 := of_decide_eq_false h1
    exfalso; first | omega | exact h1 q1

theorem same_sessions {B B' : Nat → Prop} (a b : Sl CSession) (w : World) (ha : a.rd B w) (hb : b.rd B' w) (he : a.xs.map CSession.abs = b.xs.map CSession.abs) : Calls Try.prog 33 #[.slice a.A a.n a.c, .slice b.A b.n b.c] w fun e w' => e = .returned (.bool true) ∧ Kp [] w w' := by
  have oka := Sl.rd.ok ha
  have okb := Sl.rd.ok hb
  have hn := map_n he
  have nca := Sl.ok.nc oka
  refine calls_J0 81 Try.func33 rfl rfl [.slice a.A a.n a.c, .slice b.A b.n b.c] rfl ?_
  refine c_seq ?_
  refine c_region ?_
  refine JL_run 1 [] [0, 1] 0 ⟨[(0, .v (.slice a.A a.n a.c)), (1, .v (.slice b.A b.n b.c))], []⟩ [] [] (by kernel_rfl) on wn ?_
  refine l_nil (q_then_normal ?_)
  refine c_seq ?_
  refine c_seq ?_
  refine c_region ?_
  refine JL_run 5 [] [13, 0, 1] 0 ⟨[(13, vB (!(decide (((a.n : Nat) : Int) = ((b.n : Nat) : Int))))), (0, .v (.slice a.A a.n a.c)), (1, .v (.slice b.A b.n b.c))], []⟩ [] [] (by kernel_rfl) on wn ?_
  refine l_nil (q_then_normal ?_)
  cases h1 : decide (((a.n : Nat) : Int) = ((b.n : Nat) : Int)) with
  | true =>
    have h1 := of_decide_eq_true h1
    refine c_if false rfl ?_
    refine c_skip ?_
    refine q_then_normal ?_
    refine c_seq ?_
    refine c_seq ?_
    refine c_region ?_
    refine JL_run 1 [] [5, 0, 1] 0 ⟨[(5, vI 0), (0, .v (.slice a.A a.n a.c)), (1, .v (.slice b.A b.n b.c))], []⟩ [] [] (by kernel_rfl) on wn ?_
    refine l_nil (q_then_normal ?_)
    refine c_block ?_
    refine c_loop (σ := Nat) (fun i => True) (fun i => a.n - i) (fun i => []) (fun i => ⟨[(5, vI ((i : Nat) : Int)), (0, .v (.slice a.A a.n a.c)), (1, .v (.slice b.A b.n b.c))], []⟩) 0 trivial (s_start [5, 0, 1] 0 (by kernel_rfl) rfl) ?_
    rintro i _
    have hat := map_at (f := CSession.abs) (g := CSession.abs) rfl he i
    have q0 : (a.at i).client = (b.at i).client := congrArg DSession.client hat
    have q1 : (a.at i).id = (b.at i).id := congrArg DSession.id hat
    have q2 : (a.at i).acked = (b.at i).acked := congrArg DSession.acked hat
    have q3 : (a.at i).last = (b.at i).last := congrArg DSession.last hat
    have q4 : (a.at i).replies.xs = (b.at i).replies.xs := congrArg DSession.replies hat
    have q5 := xs_n q4
    refine c_seq ?_
    refine c_seq ?_
    refine c_region ?_
    refine JL_run 4 [] [17, 5, 0, 1] 0 ⟨[(17, vB (decide (((i : Nat) : Int) < ((a.n : Nat) : Int)))), (5, vI ((i : Nat) : Int)), (0, .v (.slice a.A a.n a.c)), (1, .v (.slice b.A b.n b.c))], []⟩ [] [] (by kernel_rfl) on wn ?_
    refine l_nil (q_then_normal ?_)
    cases h2 : decide (((i : Nat) : Int) < ((a.n : Nat) : Int)) with
    | true =>
      have h2 := of_decide_eq_true h2
      refine c_if true rfl ?_
      refine c_skip ?_
      refine q_then_normal ?_
      refine c_seq ?_
      refine c_block ?_
      refine c_seq ?_
      refine c_region ?_
      refine JL_run 6 [(2, .idx a.ad i), (3, .ext [.int .i64 (a.at i).client, .int .i64 (a.at i).id, .int .i64 (a.at i).acked, .int .i64 (a.at i).last, .slice (a.at i).replies.A (a.at i).replies.n (a.at i).replies.c])] [6, 5, 0, 1] 1 ⟨[(6, .p 0 0), (5, vI ((i : Nat) : Int)), (0, .v (.slice a.A a.n a.c)), (1, .v (.slice b.A b.n b.c))], [⟨113, [vI (a.at i).client, vI (a.at i).id, vI (a.at i).acked, vI (a.at i).last, .v (.slice (a.at i).replies.A (a.at i).replies.n (a.at i).replies.c)]⟩]⟩ [a.A = some a.ad, ((i : Nat) : Int) = ((i : Nat) : Int), i < a.n] [(a.ad.add (i * 5), [.int .i64 (a.at i).client, .int .i64 (a.at i).id, .int .i64 (a.at i).acked, .int .i64 (a.at i).last, .slice (a.at i).replies.A (a.at i).replies.n (a.at i).replies.c])] (by kernel_rfl) (oc (Sl.ok.own (s := a) (i := i) oka (by omega)) (oc rfl (oc (by omega) on))) (fun w hk hr => ⟨(Sl.rd.all (s := a) (i := i) (Sl.rd.kp ha hk) (by omega) rfl), trivial⟩) ?_
      refine l_nil (q_then_normal ?_)
      refine c_seq ?_
      refine c_region ?_
      refine JL_run 6 [(2, .idx b.ad i), (3, .ext [.int .i64 (b.at i).client, .int .i64 (b.at i).id, .int .i64 (b.at i).acked, .int .i64 (b.at i).last, .slice (b.at i).replies.A (b.at i).replies.n (b.at i).replies.c])] [7, 6, 5, 0, 1] 2 ⟨[(7, .p 1 0), (6, .p 0 0), (5, vI ((i : Nat) : Int)), (0, .v (.slice a.A a.n a.c)), (1, .v (.slice b.A b.n b.c))], [⟨113, [vI (a.at i).client, vI (a.at i).id, vI (a.at i).acked, vI (a.at i).last, .v (.slice (a.at i).replies.A (a.at i).replies.n (a.at i).replies.c)]⟩, ⟨113, [vI (b.at i).client, vI (b.at i).id, vI (b.at i).acked, vI (b.at i).last, .v (.slice (b.at i).replies.A (b.at i).replies.n (b.at i).replies.c)]⟩]⟩ [b.A = some b.ad, ((i : Nat) : Int) = ((i : Nat) : Int), i < b.n] [(b.ad.add (i * 5), [.int .i64 (b.at i).client, .int .i64 (b.at i).id, .int .i64 (b.at i).acked, .int .i64 (b.at i).last, .slice (b.at i).replies.A (b.at i).replies.n (b.at i).replies.c])] (by kernel_rfl) (oc (Sl.ok.own (s := b) (i := i) okb (by omega)) (oc rfl (oc (by omega) on))) (fun w hk hr => ⟨(Sl.rd.all (s := b) (i := i) (Sl.rd.kp hb hk) (by omega) rfl), trivial⟩) ?_
      refine l_nil (q_then_normal ?_)
      refine c_seq ?_
      refine c_seq ?_
      refine c_region ?_
      refine JL_run 6 [] [33, 7, 6, 5, 0, 1] 2 ⟨[(33, vB (!(decide ((a.at i).client = (b.at i).client)))), (7, .p 1 0), (6, .p 0 0), (5, vI ((i : Nat) : Int)), (0, .v (.slice a.A a.n a.c)), (1, .v (.slice b.A b.n b.c))], [⟨113, [vI (a.at i).client, vI (a.at i).id, vI (a.at i).acked, vI (a.at i).last, .v (.slice (a.at i).replies.A (a.at i).replies.n (a.at i).replies.c)]⟩, ⟨113, [vI (b.at i).client, vI (b.at i).id, vI (b.at i).acked, vI (b.at i).last, .v (.slice (b.at i).replies.A (b.at i).replies.n (b.at i).replies.c)]⟩]⟩ [] [] (by kernel_rfl) on wn ?_
      cases h3 : decide ((a.at i).client = (b.at i).client) with
      | true =>
        have h3 := of_decide_eq_true h3
        refine JL_run 7 [] [40, 7, 6, 5, 0, 1] 2 ⟨[(40, vB (!(decide ((a.at i).id = (b.at i).id)))), (7, .p 1 0), (6, .p 0 0), (5, vI ((i : Nat) : Int)), (0, .v (.slice a.A a.n a.c)), (1, .v (.slice b.A b.n b.c))], [⟨113, [vI (a.at i).client, vI (a.at i).id, vI (a.at i).acked, vI (a.at i).last, .v (.slice (a.at i).replies.A (a.at i).replies.n (a.at i).replies.c)]⟩, ⟨113, [vI (b.at i).client, vI (b.at i).id, vI (b.at i).acked, vI (b.at i).last, .v (.slice (b.at i).replies.A (b.at i).replies.n (b.at i).replies.c)]⟩]⟩ [] [] (by kernel_rfl) on wn ?_
        cases h4 : decide ((a.at i).id = (b.at i).id) with
        | true =>
          have h4 := of_decide_eq_true h4
          refine JL_run 7 [] [47, 7, 6, 5, 0, 1] 2 ⟨[(47, vB (!(decide ((a.at i).acked = (b.at i).acked)))), (7, .p 1 0), (6, .p 0 0), (5, vI ((i : Nat) : Int)), (0, .v (.slice a.A a.n a.c)), (1, .v (.slice b.A b.n b.c))], [⟨113, [vI (a.at i).client, vI (a.at i).id, vI (a.at i).acked, vI (a.at i).last, .v (.slice (a.at i).replies.A (a.at i).replies.n (a.at i).replies.c)]⟩, ⟨113, [vI (b.at i).client, vI (b.at i).id, vI (b.at i).acked, vI (b.at i).last, .v (.slice (b.at i).replies.A (b.at i).replies.n (b.at i).replies.c)]⟩]⟩ [] [] (by kernel_rfl) on wn ?_
          cases h5 : decide ((a.at i).acked = (b.at i).acked) with
          | true =>
            have h5 := of_decide_eq_true h5
            refine JL_run 7 [] [54, 7, 6, 5, 0, 1] 2 ⟨[(54, vB (!(decide ((a.at i).last = (b.at i).last)))), (7, .p 1 0), (6, .p 0 0), (5, vI ((i : Nat) : Int)), (0, .v (.slice a.A a.n a.c)), (1, .v (.slice b.A b.n b.c))], [⟨113, [vI (a.at i).client, vI (a.at i).id, vI (a.at i).acked, vI (a.at i).last, .v (.slice (a.at i).replies.A (a.at i).replies.n (a.at i).replies.c)]⟩, ⟨113, [vI (b.at i).client, vI (b.at i).id, vI (b.at i).acked, vI (b.at i).last, .v (.slice (b.at i).replies.A (b.at i).replies.n (b.at i).replies.c)]⟩]⟩ [] [] (by kernel_rfl) on wn ?_
            cases h6 : decide ((a.at i).last = (b.at i).last) with
            | true =>
              have h6 := of_decide_eq_true h6
              refine JL_run 8 [] [62, 7, 6, 5, 0, 1] 2 ⟨[(62, vB (!(decide ((((a.at i).replies.n : Nat) : Int) = (((b.at i).replies.n : Nat) : Int))))), (7, .p 1 0), (6, .p 0 0), (5, vI ((i : Nat) : Int)), (0, .v (.slice a.A a.n a.c)), (1, .v (.slice b.A b.n b.c))], [⟨113, [vI (a.at i).client, vI (a.at i).id, vI (a.at i).acked, vI (a.at i).last, .v (.slice (a.at i).replies.A (a.at i).replies.n (a.at i).replies.c)]⟩, ⟨113, [vI (b.at i).client, vI (b.at i).id, vI (b.at i).acked, vI (b.at i).last, .v (.slice (b.at i).replies.A (b.at i).replies.n (b.at i).replies.c)]⟩]⟩ [] [] (by kernel_rfl) on wn ?_
              refine l_nil (q_then_normal ?_)
              cases h7 : decide ((((a.at i).replies.n : Nat) : Int) = (((b.at i).replies.n : Nat) : Int)) with
              | true =>
                have h7 := of_decide_eq_true h7
                refine c_if false rfl ?_
                refine c_skip ?_
                refine q_then_normal ?_
                refine c_seq ?_
                refine c_region ?_
                refine JL_run 1 [] [8, 7, 6, 5, 0, 1] 2 ⟨[(8, vI 0), (7, .p 1 0), (6, .p 0 0), (5, vI ((i : Nat) : Int)), (0, .v (.slice a.A a.n a.c)), (1, .v (.slice b.A b.n b.c))], [⟨113, [vI (a.at i).client, vI (a.at i).id, vI (a.at i).acked, vI (a.at i).last, .v (.slice (a.at i).replies.A (a.at i).replies.n (a.at i).replies.c)]⟩, ⟨113, [vI (b.at i).client, vI (b.at i).id, vI (b.at i).acked, vI (b.at i).last, .v (.slice (b.at i).replies.A (b.at i).replies.n (b.at i).replies.c)]⟩]⟩ [] [] (by kernel_rfl) on wn ?_
                refine l_nil (q_then_normal ?_)
                refine c_block ?_
                refine c_loop (σ := Nat) (fun j => True) (fun j => (a.at i).replies.n - j) (fun j => []) (fun j => ⟨[(8, vI ((j : Nat) : Int)), (7, .p 1 0), (6, .p 0 0), (5, vI ((i : Nat) : Int)), (0, .v (.slice a.A a.n a.c)), (1, .v (.slice b.A b.n b.c))], [⟨113, [vI (a.at i).client, vI (a.at i).id, vI (a.at i).acked, vI (a.at i).last, .v (.slice (a.at i).replies.A (a.at i).replies.n (a.at i).replies.c)]⟩, ⟨113, [vI (b.at i).client, vI (b.at i).id, vI (b.at i).acked, vI (b.at i).last, .v (.slice (b.at i).replies.A (b.at i).replies.n (b.at i).replies.c)]⟩]⟩) 0 trivial (s_start [8, 7, 6, 5, 0, 1] 2 (by kernel_rfl) rfl) ?_
                rintro j _
                have hbt := xs_at q4 j
                have ncr := Sl.ok.nc (Sl.ok.at oka (show i < a.n by omega))
                refine c_seq ?_
                refine c_seq ?_
                refine c_region ?_
                refine JL_run 5 [] [67, 8, 7, 6, 5, 0, 1] 2 ⟨[(67, vB (decide (((j : Nat) : Int) < (((a.at i).replies.n : Nat) : Int)))), (8, vI ((j : Nat) : Int)), (7, .p 1 0), (6, .p 0 0), (5, vI ((i : Nat) : Int)), (0, .v (.slice a.A a.n a.c)), (1, .v (.slice b.A b.n b.c))], [⟨113, [vI (a.at i).client, vI (a.at i).id, vI (a.at i).acked, vI (a.at i).last, .v (.slice (a.at i).replies.A (a.at i).replies.n (a.at i).replies.c)]⟩, ⟨113, [vI (b.at i).client, vI (b.at i).id, vI (b.at i).acked, vI (b.at i).last, .v (.slice (b.at i).replies.A (b.at i).replies.n (b.at i).replies.c)]⟩]⟩ [] [] (by kernel_rfl) on wn ?_
                refine l_nil (q_then_normal ?_)
                cases h8 : decide (((j : Nat) : Int) < (((a.at i).replies.n : Nat) : Int)) with
                | true =>
                  have h8 := of_decide_eq_true h8
                  refine c_if true rfl ?_
                  refine c_skip ?_
                  refine q_then_normal ?_
                  refine c_seq ?_
                  refine c_block ?_
                  refine c_seq ?_
                  refine c_draw 11 [] (.p 0 (.q 1 (.p 2 (.p 3 (.q 4 (.p 5 (.q 6 (.p 7 (.p 8 (.q 9 (.p 10 .nil))))))))))) [] [] Try_mixed (by kernel_rfl) (pq_then (pq_block (pq_then (pq_then (pq_block (pq_block (pq_then (pq_then (pq_block (pq_then pq_body)))))))))) .slnil ?_
                  refine h_quiet [(3, .idx (a.at i).replies.ad j), (4, .ext [.int .i64 ((a.at i).replies.at j).seq, .int .i64 ((a.at i).replies.at j).reply.code, .int .i64 ((a.at i).replies.at j).reply.n, .string ((a.at i).replies.at j).reply.text]), (8, .idx (b.at i).replies.ad j), (9, .ext [.int .i64 ((b.at i).replies.at j).seq, .int .i64 ((b.at i).replies.at j).reply.code, .int .i64 ((b.at i).replies.at j).reply.n, .string ((b.at i).replies.at j).reply.text]), (10, .val (.bool (!((decide (((a.at i).replies.at j).seq = ((b.at i).replies.at j).seq)) && (((decide (((a.at i).replies.at j).reply.code = ((b.at i).replies.at j).reply.code)) && ((decide (((a.at i).replies.at j).reply.n = ((b.at i).replies.at j).reply.n)) && ((decide (((a.at i).replies.at j).reply.text = ((b.at i).replies.at j).reply.text)) && true))) && true)))))] [(0, true), (1, false), (2, true), (3, true), (4, false), (5, true), (6, false), (7, true), (8, true), (9, false), (10, true)] [(80, vB (!((decide (((a.at i).replies.at j).seq = ((b.at i).replies.at j).seq)) && (((decide (((a.at i).replies.at j).reply.code = ((b.at i).replies.at j).reply.code)) && ((decide (((a.at i).replies.at j).reply.n = ((b.at i).replies.at j).reply.n)) && ((decide (((a.at i).replies.at j).reply.text = ((b.at i).replies.at j).reply.text)) && true))) && true)))), (79, .v (.agg #[.int .i64 ((b.at i).replies.at j).seq, .int .i64 ((b.at i).replies.at j).reply.code, .int .i64 ((b.at i).replies.at j).reply.n, .string ((b.at i).replies.at j).reply.text])), (78, .v (.pointer (some ((b.at i).replies.ad.add (j * 4))))), (77, vI ((j : Nat) : Int)), (76, .v (.slice (b.at i).replies.A (b.at i).replies.n (b.at i).replies.c)), (75, .p 1 4), (74, .v (.agg #[.int .i64 ((a.at i).replies.at j).seq, .int .i64 ((a.at i).replies.at j).reply.code, .int .i64 ((a.at i).replies.at j).reply.n, .string ((a.at i).replies.at j).reply.text])), (73, .v (.pointer (some ((a.at i).replies.ad.add (j * 4))))), (72, vI ((j : Nat) : Int)), (71, .v (.slice (a.at i).replies.A (a.at i).replies.n (a.at i).replies.c)), (70, .p 0 4), (67, vB true), (8, vI ((j : Nat) : Int)), (7, .p 1 0), (6, .p 0 0), (5, vI ((i : Nat) : Int)), (0, .v (.slice a.A a.n a.c)), (1, .v (.slice b.A b.n b.c))] [(a.at i).replies.A = some (a.at i).replies.ad, ((j : Nat) : Int) = ((j : Nat) : Int), j < (a.at i).replies.n, (b.at i).replies.A = some (b.at i).replies.ad, ((j : Nat) : Int) = ((j : Nat) : Int), j < (b.at i).replies.n, ∀ w, (do eqGuard .neq 115 (.tmp 74) (.tmp 79) (.agg #[.int .i64 ((a.at i).replies.at j).seq, .int .i64 ((a.at i).replies.at j).reply.code, .int .i64 ((a.at i).replies.at j).reply.n, .string ((a.at i).replies.at j).reply.text]) (.agg #[.int .i64 ((b.at i).replies.at j).seq, .int .i64 ((b.at i).replies.at j).reply.code, .int .i64 ((b.at i).replies.at j).reply.n, .string ((b.at i).replies.at j).reply.text]); binOp .neq 115 (.agg #[.int .i64 ((a.at i).replies.at j).seq, .int .i64 ((a.at i).replies.at j).reply.code, .int .i64 ((a.at i).replies.at j).reply.n, .string ((a.at i).replies.at j).reply.text]) (.agg #[.int .i64 ((b.at i).replies.at j).seq, .int .i64 ((b.at i).replies.at j).reply.code, .int .i64 ((b.at i).replies.at j).reply.n, .string ((b.at i).replies.at j).reply.text]) : Sem Value).run Try.prog w = .ok (.bool (!((decide (((a.at i).replies.at j).seq = ((b.at i).replies.at j).seq)) && (((decide (((a.at i).replies.at j).reply.code = ((b.at i).replies.at j).reply.code)) && ((decide (((a.at i).replies.at j).reply.n = ((b.at i).replies.at j).reply.n)) && ((decide (((a.at i).replies.at j).reply.text = ((b.at i).replies.at j).reply.text)) && true))) && true)))) w] [((a.at i).replies.ad.add (j * 4), [.int .i64 ((a.at i).replies.at j).seq, .int .i64 ((a.at i).replies.at j).reply.code, .int .i64 ((a.at i).replies.at j).reply.n, .string ((a.at i).replies.at j).reply.text]), ((b.at i).replies.ad.add (j * 4), [.int .i64 ((b.at i).replies.at j).seq, .int .i64 ((b.at i).replies.at j).reply.code, .int .i64 ((b.at i).replies.at j).reply.n, .string ((b.at i).replies.at j).reply.text])] rfl (by kernel_rfl) (oc (Sl.ok.own (s := (a.at i).replies) (i := j) (Sl.ok.at (s := a) (i := i) oka (by omega)) (by omega)) (oc rfl (oc (by omega) (oc (Sl.ok.own (s := (b.at i).replies) (i := j) (Sl.ok.at (s := b) (i := i) okb (by omega)) (by omega)) (oc rfl (oc (by omega) (oc (neq_agg (by kernel_rfl) (by kernel_rfl)) on))))))) (fun w hk hr => ⟨(Sl.rd.all (s := (a.at i).replies) (i := j) (Sl.rd.sub (s := a) (i := i) (Sl.rd.kp ha hk) (by omega)) (by omega) rfl), ⟨(Sl.rd.all (s := (b.at i).replies) (i := j) (Sl.rd.sub (s := b) (i := i) (Sl.rd.kp hb hk) (by omega)) (by omega) rfl), trivial⟩⟩) ?_
                  refine h_nil ?_
                  refine l_nil (q_then_normal ?_)
                  cases h9 : (decide (((a.at i).replies.at j).seq = ((b.at i).replies.at j).seq)) && (((decide (((a.at i).replies.at j).reply.code = ((b.at i).replies.at j).reply.code)) && ((decide (((a.at i).replies.at j).reply.n = ((b.at i).replies.at j).reply.n)) && ((decide (((a.at i).replies.at j).reply.text = ((b.at i).replies.at j).reply.text)) && true))) && true) with
                  | true =>
                    refine c_if false rfl ?_
                    refine c_skip ?_
                    refine q_block_normal (q_then_normal ?_)
                    refine c_region ?_
                    refine JL_run 3 [] [8, 7, 6, 5, 0, 1] 2 ⟨[(8, vI (((j : Nat) : Int) + 1)), (7, .p 1 0), (6, .p 0 0), (5, vI ((i : Nat) : Int)), (0, .v (.slice a.A a.n a.c)), (1, .v (.slice b.A b.n b.c))], [⟨113, [vI (a.at i).client, vI (a.at i).id, vI (a.at i).acked, vI (a.at i).last, .v (.slice (a.at i).replies.A (a.at i).replies.n (a.at i).replies.c)]⟩, ⟨113, [vI (b.at i).client, vI (b.at i).id, vI (b.at i).acked, vI (b.at i).last, .v (.slice (b.at i).replies.A (b.at i).replies.n (b.at i).replies.c)]⟩]⟩ [inR (((j : Nat) : Int) + 1)] [] (by kernel_rfl) (oc (by unfold inR; omega) on) wn ?_
                    refine l_nil (q_loop (x := (j : Nat)) ((j + 1) : Nat) trivial (by omega) (s_start [8, 7, 6, 5, 0, 1] 2 (by kernel_rfl) rfl))
                  | false =>
                    exfalso; first | omega | (rw [hbt] at h9; simp at h9)
                | false =>
                  have h8 := of_decide_eq_false h8
                  refine c_if false rfl ?_
                  refine c_exit ?_
                  refine q_then_exit (q_then_exit (q_block_hit (q_block_normal (q_then_normal ?_))))
                  refine c_region ?_
                  refine JL_run 3 [] [5, 0, 1] 0 ⟨[(5, vI (((i : Nat) : Int) + 1)), (0, .v (.slice a.A a.n a.c)), (1, .v (.slice b.A b.n b.c))], []⟩ [inR (((i : Nat) : Int) + 1)] [] (by kernel_rfl) (oc (by unfold inR; omega) on) wn ?_
                  refine l_nil (q_loop (x := (i : Nat)) ((i + 1) : Nat) trivial (by omega) (s_start [5, 0, 1] 0 (by kernel_rfl) rfl))
              | false =>
                have h7 := of_decide_eq_false h7
                exfalso; first | omega | (rw [hbt] at h7; simp at h7)
            | false =>
              have h6 := of_decide_eq_false h6
              exfalso; first | omega | (rw [hbt] at h6; simp at h6)
          | false =>
            have h5 := of_decide_eq_false h5
            exfalso; first | omega | (rw [hbt] at h5; simp at h5)
        | false =>
          have h4 := of_decide_eq_false h4
          exfalso; first | omega | (rw [hbt] at h4; simp at h4)
      | false =>
        have h3 := of_decide_eq_false h3
        exfalso; first | omega | (rw [hbt] at h3; simp at h3)
    | false =>
      have h2 := of_decide_eq_false h2
      refine c_if false rfl ?_
      refine c_exit ?_
      refine q_then_exit (q_then_exit (q_block_hit (q_then_normal ?_)))
      refine c_seq ?_
      refine c_region ?_
      refine JL_run 1 [] [4] 0 ⟨[(4, vB true)], []⟩ [] [] (by kernel_rfl) on wn ?_
      refine l_nil (q_then_normal ?_)
      refine c_ret ?_
      refine q_ret (.inl rfl) [vB true] rfl (fun bs w hS => ?_)
      exact ⟨rfl, hS.kp⟩
  | false =>
    have h1 := of_decide_eq_false h1
    exfalso; first | omega | (rw [hbt] at h1; simp at h1)

theorem snap_number (q : RQ) (b : Nat) (w : World) (hb : (blkR b 135 [.string q.1, .int .i64 q.2]).p w) (hz : q.1.size ≤ 9223372036854775807) : Calls Try.prog 136 #[.pointer (some (⟨b, 0, none⟩ : Addr))] w fun e w' => ∃ _ : Unit, e = .returned (.int .i64 (rNum q).1) ∧ True ∧ Kp [b] w w' ∧ (blkR b 135 [.string (rNum q).2.1, .int .i64 (rNum q).2.2]).p w' := by
  have hbm := mRead_bd q.1
  refine calls_J 29 (blkR b 135 [.string q.1, .int .i64 q.2]).fp Try.func136 rfl rfl [] [] [blkR b 135 [.string q.1, .int .i64 q.2]] [.v (.pointer (some (⟨b, 0, none⟩ : Addr)))] [.pointer (some (⟨b, 0, none⟩ : Addr))] rfl rfl (WS.start1 w _ hb (by simp [blkR]) (blkR_lt hb)) ?_
  refine c_seq ?_
  refine c_region ?_
  refine JL_run 1 [] [0] 0 ⟨[(0, .v (.pointer (some (⟨b, 0, none⟩ : Addr))))], []⟩ [] [] (by kernel_rfl) on wn ?_
  refine l_nil (q_then_normal ?_)
  refine c_seq ?_
  refine c_seq ?_
  refine c_region ?_
  refine JL_run 5 [(3, .ext [.int .i64 q.2])] [10, 0] 0 ⟨[(10, vB (!(decide (q.2 = 0)))), (0, .v (.pointer (some (⟨b, 0, none⟩ : Addr))))], []⟩ [] [((⟨b, 0, none⟩ : Addr).add 1, [.int .i64 q.2])] (by kernel_rfl) on (fun w hk hr => ⟨(blkR_fld (hr _ (.head _)) 1 1 rfl), trivial⟩) ?_
  refine l_nil (q_then_normal ?_)
  cases h1 : decide (q.2 = 0) with
  | true =>
    have h1 := of_decide_eq_true h1
    refine c_if false rfl ?_
    refine c_skip ?_
    refine q_then_normal ?_
    refine c_seq ?_
    refine c_region ?_
    refine JL_run 4 [(3, .ext [.string q.1])] [15, 0] 0 ⟨[(15, vS q.1), (0, .v (.pointer (some (⟨b, 0, none⟩ : Addr))))], []⟩ [] [((⟨b, 0, none⟩ : Addr).add 0, [.string q.1])] (by kernel_rfl) on (fun w hk hr => ⟨(blkR_fld (hr _ (.head _)) 0 1 rfl), trivial⟩) ?_
    refine l_pure 147 [] [vS q.1] (.tuple #[.int .i64 (mRead q.1).1, .string (mRead q.1).2.1, .int .i64 (mRead q.1).2.2]) Try.call147 rfl rfl rfl rfl (fun bs w hS => codec_ReadNumber _ w hz) ?_
    refine JL_run 7 [] [5, 4, 3, 0] 0 ⟨[(5, vI (mRead q.1).2.2), (4, vS (mRead q.1).2.1), (3, vI (mRead q.1).1), (0, .v (.pointer (some (⟨b, 0, none⟩ : Addr))))], []⟩ [] [] (by kernel_rfl) on wn ?_
    refine l_nil (q_then_normal ?_)
    refine c_seq ?_
    refine c_region ?_
    refine JL_run 6 [] [25, 23, 22, 21, 3] 0 ⟨[(25, .v (.pointer (some ((⟨b, 0, none⟩ : Addr).add 0)))), (23, vI (mRead q.1).2.2), (22, vS (mRead q.1).2.1), (21, .v (.pointer (some (⟨b, 0, none⟩ : Addr)))), (3, vI (mRead q.1).1)], []⟩ [] [] (by kernel_rfl) on wn ?_
    refine l_storeB b 135 [.string q.1, .int .i64 q.2] 0 ((⟨b, 0, none⟩ : Addr).add 0) (vS (mRead q.1).2.1) [vS (mRead q.1).2.1] [.string (mRead q.1).2.1] [.string (mRead q.1).2.1, .int .i64 q.2] rfl rfl rfl rfl rfl (by kernel_rfl) (by kernel_rfl) rfl (by kernel_rfl) rfl rfl rfl ?_
    refine JL_run 2 [] [27, 23, 3] 0 ⟨[(27, .v (.pointer (some ((⟨b, 0, none⟩ : Addr).add 1)))), (23, vI (mRead q.1).2.2), (3, vI (mRead q.1).1)], []⟩ [] [] (by kernel_rfl) on wn ?_
    refine l_storeB b 135 [.string (mRead q.1).2.1, .int .i64 q.2] 1 ((⟨b, 0, none⟩ : Addr).add 1) (vI (mRead q.1).2.2) [vI (mRead q.1).2.2] [.int .i64 (mRead q.1).2.2] [.string (mRead q.1).2.1, .int .i64 (mRead q.1).2.2] rfl rfl rfl rfl rfl (by kernel_rfl) (by kernel_rfl) rfl (by kernel_rfl) rfl rfl rfl ?_
    refine l_nil (q_then_normal ?_)
    refine c_seq ?_
    refine c_region ?_
    refine JL_run 2 [] [2] 0 ⟨[(2, vI (mRead q.1).1)], []⟩ [] [] (by kernel_rfl) on wn ?_
    refine l_nil (q_then_normal ?_)
    refine c_ret ?_
    refine q_ret (.inl rfl) [vI (mRead q.1).1] rfl (fun bs w hS => ?_)
    have hm : rNum q = ((mRead q.1).1, ((mRead q.1).2.1, (mRead q.1).2.2)) := by unfold rNum; rw [if_pos (by assumption)]
    rw [hm]
    exact ⟨(), rfl, trivial, hS.kp, hS.res _ (.head _)⟩
  | false =>
    have h1 := of_decide_eq_false h1
    refine c_if true rfl ?_
    refine c_seq ?_
    refine c_region ?_
    refine JL_run 1 [] [2] 0 ⟨[(2, vI 0)], []⟩ [] [] (by kernel_rfl) on wn ?_
    refine l_nil (q_then_normal ?_)
    refine c_ret ?_
    refine q_then_ret (q_ret (.inl rfl) [vI 0] rfl (fun bs w hS => ?_))
    have hm : rNum q = (0, q) := by unfold rNum; rw [if_neg (by assumption)]
    rw [hm]
    exact ⟨(), rfl, trivial, hS.kp, hS.res _ (.head _)⟩

theorem snap_text_ (q : RQ) (b : Nat) (w : World) (hb : (blkR b 135 [.string q.1, .int .i64 q.2]).p w) (hz : q.1.size ≤ 9223372036854775807) : Calls Try.prog 139 #[.pointer (some (⟨b, 0, none⟩ : Addr))] w fun e w' => ∃ _ : Unit, e = .returned (.string (rTxt q).1) ∧ True ∧ Kp [b] w w' ∧ (blkR b 135 [.string (rTxt q).2.1, .int .i64 (rTxt q).2.2]).p w' := by
  refine calls_J 29 (blkR b 135 [.string q.1, .int .i64 q.2]).fp Try.func139 rfl rfl [] [] [blkR b 135 [.string q.1, .int .i64 q.2]] [.v (.pointer (some (⟨b, 0, none⟩ : Addr)))] [.pointer (some (⟨b, 0, none⟩ : Addr))] rfl rfl (WS.start1 w _ hb (by simp [blkR]) (blkR_lt hb)) ?_
  refine c_seq ?_
  refine c_region ?_
  refine JL_run 1 [] [0] 0 ⟨[(0, .v (.pointer (some (⟨b, 0, none⟩ : Addr))))], []⟩ [] [] (by kernel_rfl) on wn ?_
  refine l_nil (q_then_normal ?_)
  refine c_seq ?_
  refine c_seq ?_
  refine c_region ?_
  refine JL_run 5 [(3, .ext [.int .i64 q.2])] [10, 0] 0 ⟨[(10, vB (!(decide (q.2 = 0)))), (0, .v (.pointer (some (⟨b, 0, none⟩ : Addr))))], []⟩ [] [((⟨b, 0, none⟩ : Addr).add 1, [.int .i64 q.2])] (by kernel_rfl) on (fun w hk hr => ⟨(blkR_fld (hr _ (.head _)) 1 1 rfl), trivial⟩) ?_
  refine l_nil (q_then_normal ?_)
  cases h1 : decide (q.2 = 0) with
  | true =>
    have h1 := of_decide_eq_true h1
    refine c_if false rfl ?_
    refine c_skip ?_
    refine q_then_normal ?_
    refine c_seq ?_
    refine c_region ?_
    refine JL_run 4 [(3, .ext [.string q.1])] [15, 0] 0 ⟨[(15, vS q.1), (0, .v (.pointer (some (⟨b, 0, none⟩ : Addr))))], []⟩ [] [((⟨b, 0, none⟩ : Addr).add 0, [.string q.1])] (by kernel_rfl) on (fun w hk hr => ⟨(blkR_fld (hr _ (.head _)) 0 1 rfl), trivial⟩) ?_
    refine l_pure 148 [] [vS q.1] (.tuple #[.string (mTell q.1).1, .string (mTell q.1).2.1, .int .i64 (mTell q.1).2.2]) Try.call148 rfl rfl rfl rfl (fun bs w hS => codec_ReadText _ w hz) ?_
    refine JL_run 7 [] [5, 4, 3, 0] 0 ⟨[(5, vI (mTell q.1).2.2), (4, vS (mTell q.1).2.1), (3, vS (mTell q.1).1), (0, .v (.pointer (some (⟨b, 0, none⟩ : Addr))))], []⟩ [] [] (by kernel_rfl) on wn ?_
    refine l_nil (q_then_normal ?_)
    refine c_seq ?_
    refine c_region ?_
    refine JL_run 6 [] [25, 23, 22, 21, 3] 0 ⟨[(25, .v (.pointer (some ((⟨b, 0, none⟩ : Addr).add 0)))), (23, vI (mTell q.1).2.2), (22, vS (mTell q.1).2.1), (21, .v (.pointer (some (⟨b, 0, none⟩ : Addr)))), (3, vS (mTell q.1).1)], []⟩ [] [] (by kernel_rfl) on wn ?_
    refine l_storeB b 135 [.string q.1, .int .i64 q.2] 0 ((⟨b, 0, none⟩ : Addr).add 0) (vS (mTell q.1).2.1) [vS (mTell q.1).2.1] [.string (mTell q.1).2.1] [.string (mTell q.1).2.1, .int .i64 q.2] rfl rfl rfl rfl rfl (by kernel_rfl) (by kernel_rfl) rfl (by kernel_rfl) rfl rfl rfl ?_
    refine JL_run 2 [] [27, 23, 3] 0 ⟨[(27, .v (.pointer (some ((⟨b, 0, none⟩ : Addr).add 1)))), (23, vI (mTell q.1).2.2), (3, vS (mTell q.1).1)], []⟩ [] [] (by kernel_rfl) on wn ?_
    refine l_storeB b 135 [.string (mTell q.1).2.1, .int .i64 q.2] 1 ((⟨b, 0, none⟩ : Addr).add 1) (vI (mTell q.1).2.2) [vI (mTell q.1).2.2] [.int .i64 (mTell q.1).2.2] [.string (mTell q.1).2.1, .int .i64 (mTell q.1).2.2] rfl rfl rfl rfl rfl (by kernel_rfl) (by kernel_rfl) rfl (by kernel_rfl) rfl rfl rfl ?_
    refine l_nil (q_then_normal ?_)
    refine c_seq ?_
    refine c_region ?_
    refine JL_run 2 [] [2] 0 ⟨[(2, vS (mTell q.1).1)], []⟩ [] [] (by kernel_rfl) on wn ?_
    refine l_nil (q_then_normal ?_)
    refine c_ret ?_
    refine q_ret (.inl rfl) [vS (mTell q.1).1] rfl (fun bs w hS => ?_)
    have hm : rTxt q = ((mTell q.1).1, ((mTell q.1).2.1, (mTell q.1).2.2)) := by unfold rTxt; rw [if_pos (by assumption)]
    rw [hm]
    exact ⟨(), rfl, trivial, hS.kp, hS.res _ (.head _)⟩
  | false =>
    have h1 := of_decide_eq_false h1
    refine c_if true rfl ?_
    refine c_seq ?_
    refine c_region ?_
    refine JL_run 1 [] [2] 0 ⟨[(2, vS emp)], []⟩ [] [] (by kernel_rfl) on wn ?_
    refine l_nil (q_then_normal ?_)
    refine c_ret ?_
    refine q_then_ret (q_ret (.inl rfl) [vS emp] rfl (fun bs w hS => ?_))
    have hm : rTxt q = (emp, q) := by unfold rTxt; rw [if_neg (by assumption)]
    rw [hm]
    exact ⟨(), rfl, trivial, hS.kp, hS.res _ (.head _)⟩

theorem snap_count (q : RQ) (m : Int) (b : Nat) (w : World) (hb : (blkR b 135 [.string q.1, .int .i64 q.2]).p w) (hz : q.1.size ≤ 9223372036854775807) : Calls Try.prog 137 #[.pointer (some (⟨b, 0, none⟩ : Addr)), .int .i64 m] w fun e w' => ∃ _ : Unit, e = .returned (.int .i64 (rMany m q).1) ∧ True ∧ Kp [b] w w' ∧ (blkR b 135 [.string (rMany m q).2.1, .int .i64 (rMany m q).2.2]).p w' := by
  refine calls_J 27 (blkR b 135 [.string q.1, .int .i64 q.2]).fp Try.func137 rfl rfl [] [] [blkR b 135 [.string q.1, .int .i64 q.2]] [.v (.pointer (some (⟨b, 0, none⟩ : Addr))), vI m] [.pointer (some (⟨b, 0, none⟩ : Addr)), .int .i64 m] rfl rfl (WS.start1 w _ hb (by simp [blkR]) (blkR_lt hb)) ?_
  refine c_seq ?_
  refine c_region ?_
  refine JL_run 1 [] [0, 1] 0 ⟨[(0, .v (.pointer (some (⟨b, 0, none⟩ : Addr)))), (1, vI m)], []⟩ [] [] (by kernel_rfl) on wn ?_
  refine l_nil (q_then_normal ?_)
  refine c_seq ?_
  refine c_region ?_
  refine JL_run 1 [] [6, 0, 1] 0 ⟨[(6, .v (.pointer (some (⟨b, 0, none⟩ : Addr)))), (0, .v (.pointer (some (⟨b, 0, none⟩ : Addr)))), (1, vI m)], []⟩ [] [] (by kernel_rfl) on wn ?_
  refine l_turn (σ := Unit) 136 [] [.v (.pointer (some (⟨b, 0, none⟩ : Addr)))] (fun _ => .int .i64 (rNum q).1) (fun _ => True) (fun _ => blkR b 135 [.string (rNum q).2.1, .int .i64 (rNum q).2.2]) Try.call136 rfl rfl rfl rfl (fun bs w hS => (snap_number q b w (hS.res _ (.head _)) hz).mono (fun e w' ⟨y, h1, h2, h3, h4⟩ => ⟨y, h1, h2, h3, h4, (by simp [blkR]), fun x hx => .inl hx⟩)) ?_
  rintro y _
  refine JL_run 1 [] [5, 0, 1] 0 ⟨[(5, vI (rNum q).1), (0, .v (.pointer (some (⟨b, 0, none⟩ : Addr)))), (1, vI m)], []⟩ [] [] (by kernel_rfl) on wn ?_
  refine l_nil (q_then_normal ?_)
  refine c_seq ?_
  refine c_seq ?_
  refine c_region ?_
  refine JL_run 6 [(3, .ext [.int .i64 (rNum q).2.2])] [13, 5, 0, 1] 0 ⟨[(13, vB (decide ((rNum q).2.2 = 0))), (5, vI (rNum q).1), (0, .v (.pointer (some (⟨b, 0, none⟩ : Addr)))), (1, vI m)], []⟩ [] [((⟨b, 0, none⟩ : Addr).add 1, [.int .i64 (rNum q).2.2])] (by kernel_rfl) on (fun w hk hr => ⟨(blkR_fld (hr _ (.head _)) 1 1 rfl), trivial⟩) ?_
  cases h1 : decide ((rNum q).2.2 = 0) with
  | true =>
    have h1 := of_decide_eq_true h1
    refine JL_run 4 [] [17, 5, 0] 0 ⟨[(17, vB (decide (m < (rNum q).1))), (5, vI (rNum q).1), (0, .v (.pointer (some (⟨b, 0, none⟩ : Addr))))], []⟩ [] [] (by kernel_rfl) on wn ?_
    refine l_nil (q_then_normal ?_)
    cases h2 : decide (m < (rNum q).1) with
    | true =>
      have h2 := of_decide_eq_true h2
      refine c_if true rfl ?_
      refine c_region ?_
      refine JL_run 3 [] [20, 5, 0] 0 ⟨[(20, .v (.pointer (some ((⟨b, 0, none⟩ : Addr).add 1)))), (5, vI (rNum q).1), (0, .v (.pointer (some (⟨b, 0, none⟩ : Addr))))], []⟩ [] [] (by kernel_rfl) on wn ?_
      refine l_storeB b 135 [.string (rNum q).2.1, .int .i64 (rNum q).2.2] 1 ((⟨b, 0, none⟩ : Addr).add 1) (vI 1) [vI 1] [.int .i64 1] [.string (rNum q).2.1, .int .i64 1] rfl rfl rfl rfl rfl (by kernel_rfl) (by kernel_rfl) rfl (by kernel_rfl) rfl rfl rfl ?_
      refine l_nil (q_then_normal ?_)
      refine c_seq ?_
      refine c_seq ?_
      refine c_region ?_
      refine JL_run 5 [(3, .ext [.int .i64 1])] [25, 5] 0 ⟨[(25, vB true), (5, vI (rNum q).1)], []⟩ [] [((⟨b, 0, none⟩ : Addr).add 1, [.int .i64 1])] (by kernel_rfl) on (fun w hk hr => ⟨(blkR_fld (hr _ (.head _)) 1 1 rfl), trivial⟩) ?_
      refine l_nil (q_then_normal ?_)
      refine c_if true rfl ?_
      refine c_seq ?_
      refine c_region ?_
      refine JL_run 1 [] [4] 0 ⟨[(4, vI 0)], []⟩ [] [] (by kernel_rfl) on wn ?_
      refine l_nil (q_then_normal ?_)
      refine c_ret ?_
      refine q_then_ret (q_ret (.inl rfl) [vI 0] rfl (fun bs w hS => ?_))
      have hm : rMany m q = (0, ((rNum q).2.1, 1)) := by unfold rMany; rw [if_pos (by assumption), if_pos (by assumption)]
      rw [hm]
      exact ⟨(), rfl, trivial, hS.kp, hS.res _ (.head _)⟩
    | false =>
      have h2 := of_decide_eq_false h2
      refine c_if false rfl ?_
      refine c_skip ?_
      refine q_then_normal ?_
      refine c_seq ?_
      refine c_seq ?_
      refine c_region ?_
      refine JL_run 5 [(3, .ext [.int .i64 (rNum q).2.2])] [25, 5] 0 ⟨[(25, vB (!(decide ((rNum q).2.2 = 0)))), (5, vI (rNum q).1)], []⟩ [] [((⟨b, 0, none⟩ : Addr).add 1, [.int .i64 (rNum q).2.2])] (by kernel_rfl) on (fun w hk hr => ⟨(blkR_fld (hr _ (.head _)) 1 1 rfl), trivial⟩) ?_
      refine l_nil (q_then_normal ?_)
      cases h3 : decide ((rNum q).2.2 = 0) with
      | true =>
        have h3 := of_decide_eq_true h3
        refine c_if false rfl ?_
        refine c_skip ?_
        refine q_then_normal ?_
        refine c_seq ?_
        refine c_region ?_
        refine JL_run 2 [] [4] 0 ⟨[(4, vI (rNum q).1)], []⟩ [] [] (by kernel_rfl) on wn ?_
        refine l_nil (q_then_normal ?_)
        refine c_ret ?_
        refine q_ret (.inl rfl) [vI (rNum q).1] rfl (fun bs w hS => ?_)
        have hm : rMany m q = rNum q := by unfold rMany; rw [if_pos (by assumption), if_neg (by assumption)]
        rw [hm]
        exact ⟨(), rfl, trivial, hS.kp, hS.res _ (.head _)⟩
      | false =>
        have h3 := of_decide_eq_false h3
        exact absurd h1 h3
  | false =>
    have h1 := of_decide_eq_false h1
    refine JL_run 4 [] [17, 5, 0] 0 ⟨[(17, vB false), (5, vI (rNum q).1), (0, .v (.pointer (some (⟨b, 0, none⟩ : Addr))))], []⟩ [] [] (by kernel_rfl) on wn ?_
    refine l_nil (q_then_normal ?_)
    refine c_if false rfl ?_
    refine c_skip ?_
    refine q_then_normal ?_
    refine c_seq ?_
    refine c_seq ?_
    refine c_region ?_
    refine JL_run 5 [(3, .ext [.int .i64 (rNum q).2.2])] [25, 5] 0 ⟨[(25, vB (!(decide ((rNum q).2.2 = 0)))), (5, vI (rNum q).1)], []⟩ [] [((⟨b, 0, none⟩ : Addr).add 1, [.int .i64 (rNum q).2.2])] (by kernel_rfl) on (fun w hk hr => ⟨(blkR_fld (hr _ (.head _)) 1 1 rfl), trivial⟩) ?_
    refine l_nil (q_then_normal ?_)
    cases h4 : decide ((rNum q).2.2 = 0) with
    | true =>
      have h4 := of_decide_eq_true h4
      exact absurd h4 h1
    | false =>
      have h4 := of_decide_eq_false h4
      refine c_if true rfl ?_
      refine c_seq ?_
      refine c_region ?_
      refine JL_run 1 [] [4] 0 ⟨[(4, vI 0)], []⟩ [] [] (by kernel_rfl) on wn ?_
      refine l_nil (q_then_normal ?_)
      refine c_ret ?_
      refine q_then_ret (q_ret (.inl rfl) [vI 0] rfl (fun bs w hS => ?_))
      have hm : rMany m q = (0, (rNum q).2) := by unfold rMany; rw [if_neg (by assumption)]
      rw [hm]
      exact ⟨(), rfl, trivial, hS.kp, hS.res _ (.head _)⟩

theorem ear_num (q : RQ) (b : Nat) (w : World) (hb : (blkR b 139 [.string q.1, .int .i64 q.2]).p w) (hz : q.1.size ≤ 9223372036854775807) : Calls Try.prog 98 #[.pointer (some (⟨b, 0, none⟩ : Addr))] w fun e w' => ∃ _ : Unit, e = .returned (.int .i64 (rNum q).1) ∧ True ∧ Kp [b] w w' ∧ (blkR b 139 [.string (rNum q).2.1, .int .i64 (rNum q).2.2]).p w' := by
  have hbm := mRead_bd q.1
  refine calls_J 29 (blkR b 139 [.string q.1, .int .i64 q.2]).fp Try.func98 rfl rfl [] [] [blkR b 139 [.string q.1, .int .i64 q.2]] [.v (.pointer (some (⟨b, 0, none⟩ : Addr)))] [.pointer (some (⟨b, 0, none⟩ : Addr))] rfl rfl (WS.start1 w _ hb (by simp [blkR]) (blkR_lt hb)) ?_
  refine c_seq ?_
  refine c_region ?_
  refine JL_run 1 [] [0] 0 ⟨[(0, .v (.pointer (some (⟨b, 0, none⟩ : Addr))))], []⟩ [] [] (by kernel_rfl) on wn ?_
  refine l_nil (q_then_normal ?_)
  refine c_seq ?_
  refine c_seq ?_
  refine c_region ?_
  refine JL_run 5 [(3, .ext [.int .i64 q.2])] [10, 0] 0 ⟨[(10, vB (!(decide (q.2 = 0)))), (0, .v (.pointer (some (⟨b, 0, none⟩ : Addr))))], []⟩ [] [((⟨b, 0, none⟩ : Addr).add 1, [.int .i64 q.2])] (by kernel_rfl) on (fun w hk hr => ⟨(blkR_fld (hr _ (.head _)) 1 1 rfl), trivial⟩) ?_
  refine l_nil (q_then_normal ?_)
  cases h1 : decide (q.2 = 0) with
  | true =>
    have h1 := of_decide_eq_true h1
    refine c_if false rfl ?_
    refine c_skip ?_
    refine q_then_normal ?_
    refine c_seq ?_
    refine c_region ?_
    refine JL_run 4 [(3, .ext [.string q.1])] [15, 0] 0 ⟨[(15, vS q.1), (0, .v (.pointer (some (⟨b, 0, none⟩ : Addr))))], []⟩ [] [((⟨b, 0, none⟩ : Addr).add 0, [.string q.1])] (by kernel_rfl) on (fun w hk hr => ⟨(blkR_fld (hr _ (.head _)) 0 1 rfl), trivial⟩) ?_
    refine l_pure 116 [] [vS q.1] (.tuple #[.int .i64 (mRead q.1).1, .string (mRead q.1).2.1, .int .i64 (mRead q.1).2.2]) Try.call116 rfl rfl rfl rfl (fun bs w hS => ref_NumberOf _ w hz) ?_
    refine JL_run 7 [] [5, 4, 3, 0] 0 ⟨[(5, vI (mRead q.1).2.2), (4, vS (mRead q.1).2.1), (3, vI (mRead q.1).1), (0, .v (.pointer (some (⟨b, 0, none⟩ : Addr))))], []⟩ [] [] (by kernel_rfl) on wn ?_
    refine l_nil (q_then_normal ?_)
    refine c_seq ?_
    refine c_region ?_
    refine JL_run 4 [] [23, 21, 5, 3, 0] 0 ⟨[(23, .v (.pointer (some ((⟨b, 0, none⟩ : Addr).add 0)))), (21, vS (mRead q.1).2.1), (5, vI (mRead q.1).2.2), (3, vI (mRead q.1).1), (0, .v (.pointer (some (⟨b, 0, none⟩ : Addr))))], []⟩ [] [] (by kernel_rfl) on wn ?_
    refine l_storeB b 139 [.string q.1, .int .i64 q.2] 0 ((⟨b, 0, none⟩ : Addr).add 0) (vS (mRead q.1).2.1) [vS (mRead q.1).2.1] [.string (mRead q.1).2.1] [.string (mRead q.1).2.1, .int .i64 q.2] rfl rfl rfl rfl rfl (by kernel_rfl) (by kernel_rfl) rfl (by kernel_rfl) rfl rfl rfl ?_
    refine l_nil (q_then_normal ?_)
    refine c_seq ?_
    refine c_region ?_
    refine JL_run 4 [] [27, 25, 3] 0 ⟨[(27, .v (.pointer (some ((⟨b, 0, none⟩ : Addr).add 1)))), (25, vI (mRead q.1).2.2), (3, vI (mRead q.1).1)], []⟩ [] [] (by kernel_rfl) on wn ?_
    refine l_storeB b 139 [.string (mRead q.1).2.1, .int .i64 q.2] 1 ((⟨b, 0, none⟩ : Addr).add 1) (vI (mRead q.1).2.2) [vI (mRead q.1).2.2] [.int .i64 (mRead q.1).2.2] [.string (mRead q.1).2.1, .int .i64 (mRead q.1).2.2] rfl rfl rfl rfl rfl (by kernel_rfl) (by kernel_rfl) rfl (by kernel_rfl) rfl rfl rfl ?_
    refine l_nil (q_then_normal ?_)
    refine c_seq ?_
    refine c_region ?_
    refine JL_run 2 [] [2] 0 ⟨[(2, vI (mRead q.1).1)], []⟩ [] [] (by kernel_rfl) on wn ?_
    refine l_nil (q_then_normal ?_)
    refine c_ret ?_
    refine q_ret (.inl rfl) [vI (mRead q.1).1] rfl (fun bs w hS => ?_)
    have hm : rNum q = ((mRead q.1).1, ((mRead q.1).2.1, (mRead q.1).2.2)) := by unfold rNum; rw [if_pos (by assumption)]
    rw [hm]
    exact ⟨(), rfl, trivial, hS.kp, hS.res _ (.head _)⟩
  | false =>
    have h1 := of_decide_eq_false h1
    refine c_if true rfl ?_
    refine c_seq ?_
    refine c_region ?_
    refine JL_run 1 [] [2] 0 ⟨[(2, vI 0)], []⟩ [] [] (by kernel_rfl) on wn ?_
    refine l_nil (q_then_normal ?_)
    refine c_ret ?_
    refine q_then_ret (q_ret (.inl rfl) [vI 0] rfl (fun bs w hS => ?_))
    have hm : rNum q = (0, q) := by unfold rNum; rw [if_neg (by assumption)]
    rw [hm]
    exact ⟨(), rfl, trivial, hS.kp, hS.res _ (.head _)⟩

theorem ear_str (q : RQ) (b : Nat) (w : World) (hb : (blkR b 139 [.string q.1, .int .i64 q.2]).p w) (hz : q.1.size ≤ 9223372036854775807) : Calls Try.prog 100 #[.pointer (some (⟨b, 0, none⟩ : Addr))] w fun e w' => ∃ _ : Unit, e = .returned (.string (rTxt q).1) ∧ True ∧ Kp [b] w w' ∧ (blkR b 139 [.string (rTxt q).2.1, .int .i64 (rTxt q).2.2]).p w' := by
  refine calls_J 29 (blkR b 139 [.string q.1, .int .i64 q.2]).fp Try.func100 rfl rfl [] [] [blkR b 139 [.string q.1, .int .i64 q.2]] [.v (.pointer (some (⟨b, 0, none⟩ : Addr)))] [.pointer (some (⟨b, 0, none⟩ : Addr))] rfl rfl (WS.start1 w _ hb (by simp [blkR]) (blkR_lt hb)) ?_
  refine c_seq ?_
  refine c_region ?_
  refine JL_run 1 [] [0] 0 ⟨[(0, .v (.pointer (some (⟨b, 0, none⟩ : Addr))))], []⟩ [] [] (by kernel_rfl) on wn ?_
  refine l_nil (q_then_normal ?_)
  refine c_seq ?_
  refine c_seq ?_
  refine c_region ?_
  refine JL_run 5 [(3, .ext [.int .i64 q.2])] [10, 0] 0 ⟨[(10, vB (!(decide (q.2 = 0)))), (0, .v (.pointer (some (⟨b, 0, none⟩ : Addr))))], []⟩ [] [((⟨b, 0, none⟩ : Addr).add 1, [.int .i64 q.2])] (by kernel_rfl) on (fun w hk hr => ⟨(blkR_fld (hr _ (.head _)) 1 1 rfl), trivial⟩) ?_
  refine l_nil (q_then_normal ?_)
  cases h1 : decide (q.2 = 0) with
  | true =>
    have h1 := of_decide_eq_true h1
    refine c_if false rfl ?_
    refine c_skip ?_
    refine q_then_normal ?_
    refine c_seq ?_
    refine c_region ?_
    refine JL_run 4 [(3, .ext [.string q.1])] [15, 0] 0 ⟨[(15, vS q.1), (0, .v (.pointer (some (⟨b, 0, none⟩ : Addr))))], []⟩ [] [((⟨b, 0, none⟩ : Addr).add 0, [.string q.1])] (by kernel_rfl) on (fun w hk hr => ⟨(blkR_fld (hr _ (.head _)) 0 1 rfl), trivial⟩) ?_
    refine l_pure 117 [] [vS q.1] (.tuple #[.string (mTell q.1).1, .string (mTell q.1).2.1, .int .i64 (mTell q.1).2.2]) Try.call117 rfl rfl rfl rfl (fun bs w hS => ref_TextOf _ w hz) ?_
    refine JL_run 7 [] [5, 4, 3, 0] 0 ⟨[(5, vI (mTell q.1).2.2), (4, vS (mTell q.1).2.1), (3, vS (mTell q.1).1), (0, .v (.pointer (some (⟨b, 0, none⟩ : Addr))))], []⟩ [] [] (by kernel_rfl) on wn ?_
    refine l_nil (q_then_normal ?_)
    refine c_seq ?_
    refine c_region ?_
    refine JL_run 4 [] [23, 21, 5, 3, 0] 0 ⟨[(23, .v (.pointer (some ((⟨b, 0, none⟩ : Addr).add 0)))), (21, vS (mTell q.1).2.1), (5, vI (mTell q.1).2.2), (3, vS (mTell q.1).1), (0, .v (.pointer (some (⟨b, 0, none⟩ : Addr))))], []⟩ [] [] (by kernel_rfl) on wn ?_
    refine l_storeB b 139 [.string q.1, .int .i64 q.2] 0 ((⟨b, 0, none⟩ : Addr).add 0) (vS (mTell q.1).2.1) [vS (mTell q.1).2.1] [.string (mTell q.1).2.1] [.string (mTell q.1).2.1, .int .i64 q.2] rfl rfl rfl rfl rfl (by kernel_rfl) (by kernel_rfl) rfl (by kernel_rfl) rfl rfl rfl ?_
    refine l_nil (q_then_normal ?_)
    refine c_seq ?_
    refine c_region ?_
    refine JL_run 4 [] [27, 25, 3] 0 ⟨[(27, .v (.pointer (some ((⟨b, 0, none⟩ : Addr).add 1)))), (25, vI (mTell q.1).2.2), (3, vS (mTell q.1).1)], []⟩ [] [] (by kernel_rfl) on wn ?_
    refine l_storeB b 139 [.string (mTell q.1).2.1, .int .i64 q.2] 1 ((⟨b, 0, none⟩ : Addr).add 1) (vI (mTell q.1).2.2) [vI (mTell q.1).2.2] [.int .i64 (mTell q.1).2.2] [.string (mTell q.1).2.1, .int .i64 (mTell q.1).2.2] rfl rfl rfl rfl rfl (by kernel_rfl) (by kernel_rfl) rfl (by kernel_rfl) rfl rfl rfl ?_
    refine l_nil (q_then_normal ?_)
    refine c_seq ?_
    refine c_region ?_
    refine JL_run 2 [] [2] 0 ⟨[(2, vS (mTell q.1).1)], []⟩ [] [] (by kernel_rfl) on wn ?_
    refine l_nil (q_then_normal ?_)
    refine c_ret ?_
    refine q_ret (.inl rfl) [vS (mTell q.1).1] rfl (fun bs w hS => ?_)
    have hm : rTxt q = ((mTell q.1).1, ((mTell q.1).2.1, (mTell q.1).2.2)) := by unfold rTxt; rw [if_pos (by assumption)]
    rw [hm]
    exact ⟨(), rfl, trivial, hS.kp, hS.res _ (.head _)⟩
  | false =>
    have h1 := of_decide_eq_false h1
    refine c_if true rfl ?_
    refine c_seq ?_
    refine c_region ?_
    refine JL_run 1 [] [2] 0 ⟨[(2, vS emp)], []⟩ [] [] (by kernel_rfl) on wn ?_
    refine l_nil (q_then_normal ?_)
    refine c_ret ?_
    refine q_then_ret (q_ret (.inl rfl) [vS emp] rfl (fun bs w hS => ?_))
    have hm : rTxt q = (emp, q) := by unfold rTxt; rw [if_neg (by assumption)]
    rw [hm]
    exact ⟨(), rfl, trivial, hS.kp, hS.res _ (.head _)⟩

theorem ear_many (q : RQ) (m : Int) (b : Nat) (w : World) (hb : (blkR b 139 [.string q.1, .int .i64 q.2]).p w) (hz : q.1.size ≤ 9223372036854775807) : Calls Try.prog 99 #[.pointer (some (⟨b, 0, none⟩ : Addr)), .int .i64 m] w fun e w' => ∃ _ : Unit, e = .returned (.int .i64 (rMany m q).1) ∧ True ∧ Kp [b] w w' ∧ (blkR b 139 [.string (rMany m q).2.1, .int .i64 (rMany m q).2.2]).p w' := by
  refine calls_J 27 (blkR b 139 [.string q.1, .int .i64 q.2]).fp Try.func99 rfl rfl [] [] [blkR b 139 [.string q.1, .int .i64 q.2]] [.v (.pointer (some (⟨b, 0, none⟩ : Addr))), vI m] [.pointer (some (⟨b, 0, none⟩ : Addr)), .int .i64 m] rfl rfl (WS.start1 w _ hb (by simp [blkR]) (blkR_lt hb)) ?_
  refine c_seq ?_
  refine c_region ?_
  refine JL_run 1 [] [0, 1] 0 ⟨[(0, .v (.pointer (some (⟨b, 0, none⟩ : Addr)))), (1, vI m)], []⟩ [] [] (by kernel_rfl) on wn ?_
  refine l_nil (q_then_normal ?_)
  refine c_seq ?_
  refine c_region ?_
  refine JL_run 1 [] [6, 0, 1] 0 ⟨[(6, .v (.pointer (some (⟨b, 0, none⟩ : Addr)))), (0, .v (.pointer (some (⟨b, 0, none⟩ : Addr)))), (1, vI m)], []⟩ [] [] (by kernel_rfl) on wn ?_
  refine l_turn (σ := Unit) 98 [] [.v (.pointer (some (⟨b, 0, none⟩ : Addr)))] (fun _ => .int .i64 (rNum q).1) (fun _ => True) (fun _ => blkR b 139 [.string (rNum q).2.1, .int .i64 (rNum q).2.2]) Try.call98 rfl rfl rfl rfl (fun bs w hS => (ear_num q b w (hS.res _ (.head _)) hz).mono (fun e w' ⟨y, h1, h2, h3, h4⟩ => ⟨y, h1, h2, h3, h4, (by simp [blkR]), fun x hx => .inl hx⟩)) ?_
  rintro y _
  refine JL_run 1 [] [5, 0, 1] 0 ⟨[(5, vI (rNum q).1), (0, .v (.pointer (some (⟨b, 0, none⟩ : Addr)))), (1, vI m)], []⟩ [] [] (by kernel_rfl) on wn ?_
  refine l_nil (q_then_normal ?_)
  refine c_seq ?_
  refine c_seq ?_
  refine c_region ?_
  refine JL_run 6 [(3, .ext [.int .i64 (rNum q).2.2])] [13, 5, 0, 1] 0 ⟨[(13, vB (decide ((rNum q).2.2 = 0))), (5, vI (rNum q).1), (0, .v (.pointer (some (⟨b, 0, none⟩ : Addr)))), (1, vI m)], []⟩ [] [((⟨b, 0, none⟩ : Addr).add 1, [.int .i64 (rNum q).2.2])] (by kernel_rfl) on (fun w hk hr => ⟨(blkR_fld (hr _ (.head _)) 1 1 rfl), trivial⟩) ?_
  cases h1 : decide ((rNum q).2.2 = 0) with
  | true =>
    have h1 := of_decide_eq_true h1
    refine JL_run 4 [] [17, 5, 0] 0 ⟨[(17, vB (decide (m < (rNum q).1))), (5, vI (rNum q).1), (0, .v (.pointer (some (⟨b, 0, none⟩ : Addr))))], []⟩ [] [] (by kernel_rfl) on wn ?_
    refine l_nil (q_then_normal ?_)
    cases h2 : decide (m < (rNum q).1) with
    | true =>
      have h2 := of_decide_eq_true h2
      refine c_if true rfl ?_
      refine c_region ?_
      refine JL_run 3 [] [20, 5, 0] 0 ⟨[(20, .v (.pointer (some ((⟨b, 0, none⟩ : Addr).add 1)))), (5, vI (rNum q).1), (0, .v (.pointer (some (⟨b, 0, none⟩ : Addr))))], []⟩ [] [] (by kernel_rfl) on wn ?_
      refine l_storeB b 139 [.string (rNum q).2.1, .int .i64 (rNum q).2.2] 1 ((⟨b, 0, none⟩ : Addr).add 1) (vI 1) [vI 1] [.int .i64 1] [.string (rNum q).2.1, .int .i64 1] rfl rfl rfl rfl rfl (by kernel_rfl) (by kernel_rfl) rfl (by kernel_rfl) rfl rfl rfl ?_
      refine l_nil (q_then_normal ?_)
      refine c_seq ?_
      refine c_seq ?_
      refine c_region ?_
      refine JL_run 5 [(3, .ext [.int .i64 1])] [25, 5] 0 ⟨[(25, vB true), (5, vI (rNum q).1)], []⟩ [] [((⟨b, 0, none⟩ : Addr).add 1, [.int .i64 1])] (by kernel_rfl) on (fun w hk hr => ⟨(blkR_fld (hr _ (.head _)) 1 1 rfl), trivial⟩) ?_
      refine l_nil (q_then_normal ?_)
      refine c_if true rfl ?_
      refine c_seq ?_
      refine c_region ?_
      refine JL_run 1 [] [4] 0 ⟨[(4, vI 0)], []⟩ [] [] (by kernel_rfl) on wn ?_
      refine l_nil (q_then_normal ?_)
      refine c_ret ?_
      refine q_then_ret (q_ret (.inl rfl) [vI 0] rfl (fun bs w hS => ?_))
      have hm : rMany m q = (0, ((rNum q).2.1, 1)) := by unfold rMany; rw [if_pos (by assumption), if_pos (by assumption)]
      rw [hm]
      exact ⟨(), rfl, trivial, hS.kp, hS.res _ (.head _)⟩
    | false =>
      have h2 := of_decide_eq_false h2
      refine c_if false rfl ?_
      refine c_skip ?_
      refine q_then_normal ?_
      refine c_seq ?_
      refine c_seq ?_
      refine c_region ?_
      refine JL_run 5 [(3, .ext [.int .i64 (rNum q).2.2])] [25, 5] 0 ⟨[(25, vB (!(decide ((rNum q).2.2 = 0)))), (5, vI (rNum q).1)], []⟩ [] [((⟨b, 0, none⟩ : Addr).add 1, [.int .i64 (rNum q).2.2])] (by kernel_rfl) on (fun w hk hr => ⟨(blkR_fld (hr _ (.head _)) 1 1 rfl), trivial⟩) ?_
      refine l_nil (q_then_normal ?_)
      cases h3 : decide ((rNum q).2.2 = 0) with
      | true =>
        have h3 := of_decide_eq_true h3
        refine c_if false rfl ?_
        refine c_skip ?_
        refine q_then_normal ?_
        refine c_seq ?_
        refine c_region ?_
        refine JL_run 2 [] [4] 0 ⟨[(4, vI (rNum q).1)], []⟩ [] [] (by kernel_rfl) on wn ?_
        refine l_nil (q_then_normal ?_)
        refine c_ret ?_
        refine q_ret (.inl rfl) [vI (rNum q).1] rfl (fun bs w hS => ?_)
        have hm : rMany m q = rNum q := by unfold rMany; rw [if_pos (by assumption), if_neg (by assumption)]
        rw [hm]
        exact ⟨(), rfl, trivial, hS.kp, hS.res _ (.head _)⟩
      | false =>
        have h3 := of_decide_eq_false h3
        exact absurd h1 h3
  | false =>
    have h1 := of_decide_eq_false h1
    refine JL_run 4 [] [17, 5, 0] 0 ⟨[(17, vB false), (5, vI (rNum q).1), (0, .v (.pointer (some (⟨b, 0, none⟩ : Addr))))], []⟩ [] [] (by kernel_rfl) on wn ?_
    refine l_nil (q_then_normal ?_)
    refine c_if false rfl ?_
    refine c_skip ?_
    refine q_then_normal ?_
    refine c_seq ?_
    refine c_seq ?_
    refine c_region ?_
    refine JL_run 5 [(3, .ext [.int .i64 (rNum q).2.2])] [25, 5] 0 ⟨[(25, vB (!(decide ((rNum q).2.2 = 0)))), (5, vI (rNum q).1)], []⟩ [] [((⟨b, 0, none⟩ : Addr).add 1, [.int .i64 (rNum q).2.2])] (by kernel_rfl) on (fun w hk hr => ⟨(blkR_fld (hr _ (.head _)) 1 1 rfl), trivial⟩) ?_
    refine l_nil (q_then_normal ?_)
    cases h4 : decide ((rNum q).2.2 = 0) with
    | true =>
      have h4 := of_decide_eq_true h4
      exact absurd h4 h1
    | false =>
      have h4 := of_decide_eq_false h4
      refine c_if true rfl ?_
      refine c_seq ?_
      refine c_region ?_
      refine JL_run 1 [] [4] 0 ⟨[(4, vI 0)], []⟩ [] [] (by kernel_rfl) on wn ?_
      refine l_nil (q_then_normal ?_)
      refine c_ret ?_
      refine q_then_ret (q_ret (.inl rfl) [vI 0] rfl (fun bs w hS => ?_))
      have hm : rMany m q = (0, (rNum q).2) := by unfold rMany; rw [if_neg (by assumption)]
      rw [hm]
      exact ⟨(), rfl, trivial, hS.kp, hS.res _ (.head _)⟩

end Go.Proofs.Ytececkgjacccmad.W
