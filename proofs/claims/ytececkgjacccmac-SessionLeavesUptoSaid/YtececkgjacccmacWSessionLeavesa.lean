/-
  The functions that the law SessionLeaves reaches, walked: each returns what its model says.
  Conditions: those that each theorem states.
-/
import Derived.Test.YtececkgjacccmacMc
import Derived.Test.YtececkgjacccmacChecked
set_option linter.unusedVariables false
set_option linter.unusedSimpArgs false
set_option maxRecDepth 100000
namespace Go.Proofs.Ytececkgjacccmac.W
open Go.Proofs.Ytececkgjacccmac.Fw Go.RowKit

theorem Try_mixed : Try.prog.follows .mixedOrders = true := by kernel_rfl
theorem laid : laidOutB Try.prog = true := by kernel_rfl

theorem ref_In (n lo hi : Int) (w : World) : Calls Try.prog 68 #[.int .i64 n, .int .i64 lo, .int .i64 hi] w fun e w' => e = .returned (.bool (inB n lo hi)) ∧ Kp [] w w' := by
  refine calls_J0 15 Try.func68 rfl rfl [.int .i64 n, .int .i64 lo, .int .i64 hi] rfl ?_
  refine c_seq ?_
  refine c_region ?_
  refine JL_run 1 [] [0, 1, 2] 0 ⟨[(0, vI n), (1, vI lo), (2, vI hi)], []⟩ [] [] (by kernel_rfl) on wn ?_
  refine l_nil (q_then_normal ?_)
  refine c_seq ?_
  refine c_region ?_
  refine JL_run 4 [] [10, 0, 2] 0 ⟨[(10, vB (decide (lo ≤ n))), (0, vI n), (2, vI hi)], []⟩ [] [] (by kernel_rfl) on wn ?_
  cases h1 : decide (lo ≤ n) with
  | true =>
    have h1 := of_decide_eq_true h1
    refine JL_run 5 [] [6] 0 ⟨[(6, vB (decide (n ≤ hi)))], []⟩ [] [] (by kernel_rfl) on wn ?_
    refine l_nil (q_then_normal ?_)
    refine c_ret ?_
    refine q_ret (.inl rfl) [vB (decide (n ≤ hi))] rfl (fun bs w hS => ?_)
    exact ⟨by simp [retOf, den, inB, h1], hS.kp⟩
  | false =>
    have h1 := of_decide_eq_false h1
    refine JL_run 5 [] [6] 0 ⟨[(6, vB false)], []⟩ [] [] (by kernel_rfl) on wn ?_
    refine l_nil (q_then_normal ?_)
    refine c_ret ?_
    refine q_ret (.inl rfl) [vB false] rfl (fun bs w hS => ?_)
    exact ⟨by simp [retOf, den, inB, h1], hS.kp⟩

theorem session_replies {B : Nat → Prop} (x : CSession) (w : World) (hx : Rds.sub B w x) (hb : 0 ≤ x.acked ∧ x.acked ≤ 1048576) : Calls Try.prog 98 #[.agg #[.int .i64 x.client, .int .i64 x.id, .int .i64 x.acked, .int .i64 x.last, .slice x.replies.A x.replies.n x.replies.c]] w fun e w' => e = .returned (.bool (mReplies x.abs)) ∧ Kp [] w w' := by
  have okx := Rds.okof hx
  have ncx := Sl.ok.nc okx
  have hns : x.replies.n = x.replies.xs.length := rfl
  have hat : ∀ q, x.abs.replies.getD q default = x.replies.at q := fun _ => rfl
  have hac : x.abs.acked = x.acked := rfl
  have hln : x.abs.replies.length = x.replies.n := rfl
  refine calls_J0 70 Try.func98 rfl rfl [.agg #[.int .i64 x.client, .int .i64 x.id, .int .i64 x.acked, .int .i64 x.last, .slice x.replies.A x.replies.n x.replies.c]] rfl ?_
  refine c_seq ?_
  refine c_region ?_
  refine JL_run 2 [] [1] 1 ⟨[(1, .p 0 0)], [⟨98, [vI x.client, vI x.id, vI x.acked, vI x.last, .v (.slice x.replies.A x.replies.n x.replies.c)]⟩]⟩ [] [] (by kernel_rfl) on wn ?_
  refine l_nil (q_then_normal ?_)
  refine c_seq ?_
  refine c_seq ?_
  refine c_region ?_
  refine JL_run 4 [] [9, 8, 7, 1] 1 ⟨[(9, vI 0), (8, vI ((x.replies.n : Nat) : Int)), (7, .v (.slice x.replies.A x.replies.n x.replies.c)), (1, .p 0 0)], [⟨98, [vI x.client, vI x.id, vI x.acked, vI x.last, .v (.slice x.replies.A x.replies.n x.replies.c)]⟩]⟩ [] [] (by kernel_rfl) on wn ?_
  refine l_nil (q_then_normal ?_)
  refine c_block ?_
  refine c_loop (σ := Nat) (fun i => i ≤ x.replies.n ∧ allTo (keptOk x.abs) i = true) (fun i => x.replies.n - i) (fun i => []) (fun i => ⟨[(9, vI ((i : Nat) : Int)), (8, vI ((x.replies.n : Nat) : Int)), (7, .v (.slice x.replies.A x.replies.n x.replies.c)), (1, .p 0 0)], [⟨98, [vI x.client, vI x.id, vI x.acked, vI x.last, .v (.slice x.replies.A x.replies.n x.replies.c)]⟩]⟩) 0 ⟨Nat.zero_le _, rfl⟩ (s_start [9, 8, 7, 1] 1 (by kernel_rfl) rfl) ?_
  rintro i ⟨hi, hI⟩
  refine c_seq ?_
  refine c_region ?_
  refine JL_run 1 [] [10, 9, 8, 7, 1] 1 ⟨[(10, vB (decide (((i : Nat) : Int) < ((x.replies.n : Nat) : Int)))), (9, vI ((i : Nat) : Int)), (8, vI ((x.replies.n : Nat) : Int)), (7, .v (.slice x.replies.A x.replies.n x.replies.c)), (1, .p 0 0)], [⟨98, [vI x.client, vI x.id, vI x.acked, vI x.last, .v (.slice x.replies.A x.replies.n x.replies.c)]⟩]⟩ [] [] (by kernel_rfl) on wn ?_
  refine l_nil (q_then_normal ?_)
  refine c_seq ?_
  cases h1 : decide (((i : Nat) : Int) < ((x.replies.n : Nat) : Int)) with
  | true =>
    have h1 := of_decide_eq_true h1
    refine c_if true rfl ?_
    refine c_skip ?_
    refine q_then_normal ?_
    refine c_seq ?_
    refine c_block ?_
    refine c_seq ?_
    refine c_region ?_
    refine JL_run 6 [(1, .idx x.replies.ad i), (2, .ext [.int .i64 (x.replies.at i).seq, .int .i64 (x.replies.at i).reply.code, .int .i64 (x.replies.at i).reply.n, .string (x.replies.at i).reply.text])] [3, 4, 9, 8, 7, 1] 2 ⟨[(3, vI ((i : Nat) : Int)), (4, .p 1 0), (9, vI ((i : Nat) : Int)), (8, vI ((x.replies.n : Nat) : Int)), (7, .v (.slice x.replies.A x.replies.n x.replies.c)), (1, .p 0 0)], [⟨98, [vI x.client, vI x.id, vI x.acked, vI x.last, .v (.slice x.replies.A x.replies.n x.replies.c)]⟩, ⟨101, [vI (x.replies.at i).seq, vI (x.replies.at i).reply.code, vI (x.replies.at i).reply.n, vS (x.replies.at i).reply.text]⟩]⟩ [x.replies.A = some x.replies.ad, ((i : Nat) : Int) = ((i : Nat) : Int), i < x.replies.n] [(x.replies.ad.add (i * 4), [.int .i64 (x.replies.at i).seq, .int .i64 (x.replies.at i).reply.code, .int .i64 (x.replies.at i).reply.n, .string (x.replies.at i).reply.text])] (by kernel_rfl) (oc (Sl.ok.own (s := x.replies) (i := i) okx (by omega)) (oc rfl (oc (by omega) on))) (fun w hk hr => ⟨(Sl.rd.all (s := x.replies) (i := i) (Rds.kp hx hk) (by omega) rfl), trivial⟩) ?_
    refine l_nil (q_then_normal ?_)
    refine c_seq ?_
    refine c_seq ?_
    refine c_draw 29 [(0, false), (1, false), (2, false), (3, false), (4, false), (5, false), (6, false), (7, false), (8, false), (9, false), (10, false), (11, false), (12, false), (13, false), (14, false), (15, false), (16, false), (17, false), (18, false), (19, false), (20, false), (21, false), (22, false), (23, false), (24, false), (25, false), (26, false), (27, false), (28, false)] [] [] Try_mixed (by kernel_rfl) (pq_then (pq_then (pq_block (pq_then (pq_then (pq_block (pq_then pq_body))))))) (List.Sublist.refl _) ?_
    refine h_quiet [] 6 [(19, vB (decide ((x.replies.at i).seq ≤ x.acked))), (18, vB (decide ((x.replies.at i).seq ≤ x.acked))), (17, vI x.acked), (16, .p 0 2), (15, vI (x.replies.at i).seq), (14, .p 1 0), (3, vI ((i : Nat) : Int)), (4, .p 1 0), (9, vI ((i : Nat) : Int)), (8, vI ((x.replies.n : Nat) : Int)), (7, .v (.slice x.replies.A x.replies.n x.replies.c)), (1, .p 0 0)] [] [] rfl rfl (by kernel_rfl) on wn ?_
    cases h2 : decide ((x.replies.at i).seq ≤ x.acked) with
    | true =>
      have h2 := of_decide_eq_true h2
      refine h_quiet [] 23 [(42, vB true), (41, .v (undef)), (40, .v (undef)), (39, .v (undef)), (38, .v (undef)), (37, .v (undef)), (36, .v (undef)), (35, .v (undef)), (34, .v (undef)), (33, .v (undef)), (32, .v (undef)), (31, .v (undef)), (30, .v (undef)), (29, .v (undef)), (28, .v (undef)), (27, vB true), (26, vB true), (25, .v (undef)), (24, .v (undef)), (23, .v (undef)), (22, .v (undef)), (21, .v (undef)), (20, .v (undef)), (19, vB true), (18, vB true), (17, vI x.acked), (16, .p 0 2), (15, vI (x.replies.at i).seq), (14, .p 1 0), (3, vI ((i : Nat) : Int)), (4, .p 1 0), (9, vI ((i : Nat) : Int)), (8, vI ((x.replies.n : Nat) : Int)), (7, .v (.slice x.replies.A x.replies.n x.replies.c)), (1, .p 0 0)] [] [] rfl rfl (by kernel_rfl) on wn ?_
      refine h_nil ?_
      refine l_nil (q_then_normal ?_)
      refine c_if true rfl ?_
      refine c_seq ?_
      refine c_region ?_
      refine JL_run 1 [] [2] 0 ⟨[(2, vB false)], []⟩ [] [] (by kernel_rfl) on wn ?_
      refine l_nil (q_then_normal ?_)
      refine c_ret ?_
      refine q_then_ret (q_block_ret (q_then_ret (q_then_ret (q_block_ret (q_then_ret (q_ret (.inl rfl) [vB false] rfl (fun bs w hS => ?_)))))))
      refine ⟨?_, hS.kp⟩
      have hm : mReplies x.abs = false := allTo_bad (j := i) (decide_eq_false (fun hk => by simp only [hat, hac] at hk; omega)) (show i < x.abs.replies.length by rw [hln]; omega)
      rw [hm]
      rfl
    | false =>
      have h2 := of_decide_eq_false h2
      refine h_quiet [] 8 [(27, vB (decide (x.acked + 4 < (x.replies.at i).seq))), (26, vB (decide (x.acked + 4 < (x.replies.at i).seq))), (25, vB (decide (x.acked + 4 < (x.replies.at i).seq))), (24, vI (x.acked + 4)), (23, vI x.acked), (22, .p 0 2), (21, vI (x.replies.at i).seq), (20, .p 1 0), (19, vB false), (18, vB false), (17, vI x.acked), (16, .p 0 2), (15, vI (x.replies.at i).seq), (14, .p 1 0), (3, vI ((i : Nat) : Int)), (4, .p 1 0), (9, vI ((i : Nat) : Int)), (8, vI ((x.replies.n : Nat) : Int)), (7, .v (.slice x.replies.A x.replies.n x.replies.c)), (1, .p 0 0)] [inR (x.acked + 4)] [] rfl rfl (by kernel_rfl) (oc (by unfold inR; omega) on) wn ?_
      cases h3 : decide (x.acked + 4 < (x.replies.at i).seq) with
      | true =>
        have h3 := of_decide_eq_true h3
        refine h_quiet [] 15 [(42, vB true), (41, .v (undef)), (40, .v (undef)), (39, .v (undef)), (38, .v (undef)), (37, .v (undef)), (36, .v (undef)), (35, .v (undef)), (34, .v (undef)), (33, .v (undef)), (32, .v (undef)), (31, .v (undef)), (30, .v (undef)), (29, .v (undef)), (28, .v (undef)), (27, vB true), (26, vB true), (25, vB true), (24, vI (x.acked + 4)), (23, vI x.acked), (22, .p 0 2), (21, vI (x.replies.at i).seq), (20, .p 1 0), (19, vB false), (18, vB false), (17, vI x.acked), (16, .p 0 2), (15, vI (x.replies.at i).seq), (14, .p 1 0), (3, vI ((i : Nat) : Int)), (4, .p 1 0), (9, vI ((i : Nat) : Int)), (8, vI ((x.replies.n : Nat) : Int)), (7, .v (.slice x.replies.A x.replies.n x.replies.c)), (1, .p 0 0)] [] [] rfl rfl (by kernel_rfl) on wn ?_
        refine h_nil ?_
        refine l_nil (q_then_normal ?_)
        refine c_if true rfl ?_
        refine c_seq ?_
        refine c_region ?_
        refine JL_run 1 [] [2] 0 ⟨[(2, vB false)], []⟩ [] [] (by kernel_rfl) on wn ?_
        refine l_nil (q_then_normal ?_)
        refine c_ret ?_
        refine q_then_ret (q_block_ret (q_then_ret (q_then_ret (q_block_ret (q_then_ret (q_ret (.inl rfl) [vB false] rfl (fun bs w hS => ?_)))))))
        refine ⟨?_, hS.kp⟩
        have hm : mReplies x.abs = false := allTo_bad (j := i) (decide_eq_false (fun hk => by simp only [hat, hac] at hk; omega)) (show i < x.abs.replies.length by rw [hln]; omega)
        rw [hm]
        rfl
      | false =>
        have h3 := of_decide_eq_false h3
        refine h_quiet [] 3 [(30, vB (decide ((0 : Int) < ((i : Nat) : Int)))), (29, vB (decide ((0 : Int) < ((i : Nat) : Int)))), (28, vI ((i : Nat) : Int)), (27, vB false), (26, vB false), (25, vB false), (24, vI (x.acked + 4)), (23, vI x.acked), (22, .p 0 2), (21, vI (x.replies.at i).seq), (20, .p 1 0), (19, vB false), (18, vB false), (17, vI x.acked), (16, .p 0 2), (15, vI (x.replies.at i).seq), (14, .p 1 0), (3, vI ((i : Nat) : Int)), (4, .p 1 0), (9, vI ((i : Nat) : Int)), (8, vI ((x.replies.n : Nat) : Int)), (7, .v (.slice x.replies.A x.replies.n x.replies.c)), (1, .p 0 0)] [] [] rfl rfl (by kernel_rfl) on wn ?_
        cases h4 : decide ((0 : Int) < ((i : Nat) : Int)) with
        | true =>
          have h4 := of_decide_eq_true h4
          refine h_quiet [(21, .idx x.replies.ad (i - 1)), (23, .ext [.int .i64 (x.replies.at (i - 1)).seq])] 12 [(42, vB (decide ((x.replies.at i).seq ≤ (x.replies.at (i - 1)).seq))), (41, vB (decide ((x.replies.at i).seq ≤ (x.replies.at (i - 1)).seq))), (40, vB (decide ((x.replies.at i).seq ≤ (x.replies.at (i - 1)).seq))), (39, vI (x.replies.at i).seq), (38, .p 1 0), (37, vI (x.replies.at (i - 1)).seq), (36, .v (.pointer (some ((x.replies.ad.add ((i - 1) * 4)).add 0)))), (35, .v (.pointer (some (x.replies.ad.add ((i - 1) * 4))))), (34, vI (((i : Nat) : Int) - 1)), (33, vI ((i : Nat) : Int)), (32, .v (.slice x.replies.A x.replies.n x.replies.c)), (31, .p 0 4), (30, vB true), (29, vB true), (28, vI ((i : Nat) : Int)), (27, vB false), (26, vB false), (25, vB false), (24, vI (x.acked + 4)), (23, vI x.acked), (22, .p 0 2), (21, vI (x.replies.at i).seq), (20, .p 1 0), (19, vB false), (18, vB false), (17, vI x.acked), (16, .p 0 2), (15, vI (x.replies.at i).seq), (14, .p 1 0), (3, vI ((i : Nat) : Int)), (4, .p 1 0), (9, vI ((i : Nat) : Int)), (8, vI ((x.replies.n : Nat) : Int)), (7, .v (.slice x.replies.A x.replies.n x.replies.c)), (1, .p 0 0)] [inR (((i : Nat) : Int) - 1), x.replies.A = some x.replies.ad, ((i : Nat) : Int) - 1 = (((i - 1) : Nat) : Int), (i - 1) < x.replies.n] [((x.replies.ad.add ((i - 1) * 4)).add 0, [.int .i64 (x.replies.at (i - 1)).seq])] rfl rfl (by kernel_rfl) (oc (by unfold inR; omega) (oc (Sl.ok.own (s := x.replies) (i := (i - 1)) okx (by omega)) (oc (by omega) (oc (by omega) on)))) (fun w hk hr => ⟨(Sl.rd.fld (s := x.replies) (i := (i - 1)) (Rds.kp hx hk) (by omega) 0 1 rfl), trivial⟩) ?_
          refine h_nil ?_
          refine l_nil (q_then_normal ?_)
          cases h5 : decide ((x.replies.at i).seq ≤ (x.replies.at (i - 1)).seq) with
          | true =>
            have h5 := of_decide_eq_true h5
            refine c_if true rfl ?_
            refine c_seq ?_
            refine c_region ?_
            refine JL_run 1 [] [2] 0 ⟨[(2, vB false)], []⟩ [] [] (by kernel_rfl) on wn ?_
            refine l_nil (q_then_normal ?_)
            refine c_ret ?_
            refine q_then_ret (q_block_ret (q_then_ret (q_then_ret (q_block_ret (q_then_ret (q_ret (.inl rfl) [vB false] rfl (fun bs w hS => ?_)))))))
            refine ⟨?_, hS.kp⟩
            have hm : mReplies x.abs = false := allTo_bad (j := i) (decide_eq_false (fun hk => by simp only [hat, hac] at hk; omega)) (show i < x.abs.replies.length by rw [hln]; omega)
            rw [hm]
            rfl
          | false =>
            have h5 := of_decide_eq_false h5
            refine c_if false rfl ?_
            refine c_skip ?_
            refine q_then_normal ?_
            refine c_seq ?_
            refine c_region ?_
            refine JL_run 4 [] [5, 9, 8, 7, 1] 3 ⟨[(5, .p 2 0), (9, vI ((i : Nat) : Int)), (8, vI ((x.replies.n : Nat) : Int)), (7, .v (.slice x.replies.A x.replies.n x.replies.c)), (1, .p 0 0)], [⟨98, [vI x.client, vI x.id, vI x.acked, vI x.last, .v (.slice x.replies.A x.replies.n x.replies.c)]⟩, ⟨101, [vI (x.replies.at i).seq, vI (x.replies.at i).reply.code, vI (x.replies.at i).reply.n, vS (x.replies.at i).reply.text]⟩, ⟨40, [vI (x.replies.at i).reply.code, vI (x.replies.at i).reply.n, vS (x.replies.at i).reply.text]⟩]⟩ [] [] (by kernel_rfl) on wn ?_
            refine l_nil (q_then_normal ?_)
            refine c_seq ?_
            refine c_region ?_
            refine JL_run 4 [] [48, 5, 9, 8, 7, 1] 3 ⟨[(48, vB (decide ((x.replies.at i).reply.code < 0))), (5, .p 2 0), (9, vI ((i : Nat) : Int)), (8, vI ((x.replies.n : Nat) : Int)), (7, .v (.slice x.replies.A x.replies.n x.replies.c)), (1, .p 0 0)], [⟨98, [vI x.client, vI x.id, vI x.acked, vI x.last, .v (.slice x.replies.A x.replies.n x.replies.c)]⟩, ⟨101, [vI (x.replies.at i).seq, vI (x.replies.at i).reply.code, vI (x.replies.at i).reply.n, vS (x.replies.at i).reply.text]⟩, ⟨40, [vI (x.replies.at i).reply.code, vI (x.replies.at i).reply.n, vS (x.replies.at i).reply.text]⟩]⟩ [] [] (by kernel_rfl) on wn ?_
            cases h6 : decide ((x.replies.at i).reply.code < 0) with
            | true =>
              have h6 := of_decide_eq_true h6
              refine JL_run 20 [] [68, 9, 8, 7, 1] 1 ⟨[(68, vB true), (9, vI ((i : Nat) : Int)), (8, vI ((x.replies.n : Nat) : Int)), (7, .v (.slice x.replies.A x.replies.n x.replies.c)), (1, .p 0 0)], [⟨98, [vI x.client, vI x.id, vI x.acked, vI x.last, .v (.slice x.replies.A x.replies.n x.replies.c)]⟩]⟩ [] [] (by kernel_rfl) on wn ?_
              refine l_nil (q_then_normal ?_)
              refine c_if true rfl ?_
              refine c_seq ?_
              refine c_region ?_
              refine JL_run 1 [] [2] 0 ⟨[(2, vB false)], []⟩ [] [] (by kernel_rfl) on wn ?_
              refine l_nil (q_then_normal ?_)
              refine c_ret ?_
              refine q_block_ret (q_then_ret (q_then_ret (q_block_ret (q_then_ret (q_ret (.inl rfl) [vB false] rfl (fun bs w hS => ?_))))))
              refine ⟨?_, hS.kp⟩
              have hm : mReplies x.abs = false := allTo_bad (j := i) (decide_eq_false (fun hk => by simp only [hat, hac] at hk; omega)) (show i < x.abs.replies.length by rw [hln]; omega)
              rw [hm]
              rfl
            | false =>
              have h6 := of_decide_eq_false h6
              refine JL_run 5 [] [53, 5, 9, 8, 7, 1] 3 ⟨[(53, vB (decide ((15 : Int) < (x.replies.at i).reply.code))), (5, .p 2 0), (9, vI ((i : Nat) : Int)), (8, vI ((x.replies.n : Nat) : Int)), (7, .v (.slice x.replies.A x.replies.n x.replies.c)), (1, .p 0 0)], [⟨98, [vI x.client, vI x.id, vI x.acked, vI x.last, .v (.slice x.replies.A x.replies.n x.replies.c)]⟩, ⟨101, [vI (x.replies.at i).seq, vI (x.replies.at i).reply.code, vI (x.replies.at i).reply.n, vS (x.replies.at i).reply.text]⟩, ⟨40, [vI (x.replies.at i).reply.code, vI (x.replies.at i).reply.n, vS (x.replies.at i).reply.text]⟩]⟩ [] [] (by kernel_rfl) on wn ?_
              cases h7 : decide ((15 : Int) < (x.replies.at i).reply.code) with
              | true =>
                have h7 := of_decide_eq_true h7
                refine JL_run 15 [] [68, 9, 8, 7, 1] 1 ⟨[(68, vB true), (9, vI ((i : Nat) : Int)), (8, vI ((x.replies.n : Nat) : Int)), (7, .v (.slice x.replies.A x.replies.n x.replies.c)), (1, .p 0 0)], [⟨98, [vI x.client, vI x.id, vI x.acked, vI x.last, .v (.slice x.replies.A x.replies.n x.replies.c)]⟩]⟩ [] [] (by kernel_rfl) on wn ?_
                refine l_nil (q_then_normal ?_)
                refine c_if true rfl ?_
                refine c_seq ?_
                refine c_region ?_
                refine JL_run 1 [] [2] 0 ⟨[(2, vB false)], []⟩ [] [] (by kernel_rfl) on wn ?_
                refine l_nil (q_then_normal ?_)
                refine c_ret ?_
                refine q_block_ret (q_then_ret (q_then_ret (q_block_ret (q_then_ret (q_ret (.inl rfl) [vB false] rfl (fun bs w hS => ?_))))))
                refine ⟨?_, hS.kp⟩
                have hm : mReplies x.abs = false := allTo_bad (j := i) (decide_eq_false (fun hk => by simp only [hat, hac] at hk; omega)) (show i < x.abs.replies.length by rw [hln]; omega)
                rw [hm]
                rfl
              | false =>
                have h7 := of_decide_eq_false h7
                refine JL_run 5 [] [58, 5, 9, 8, 7, 1] 3 ⟨[(58, vB (decide ((x.replies.at i).reply.n < 0))), (5, .p 2 0), (9, vI ((i : Nat) : Int)), (8, vI ((x.replies.n : Nat) : Int)), (7, .v (.slice x.replies.A x.replies.n x.replies.c)), (1, .p 0 0)], [⟨98, [vI x.client, vI x.id, vI x.acked, vI x.last, .v (.slice x.replies.A x.replies.n x.replies.c)]⟩, ⟨101, [vI (x.replies.at i).seq, vI (x.replies.at i).reply.code, vI (x.replies.at i).reply.n, vS (x.replies.at i).reply.text]⟩, ⟨40, [vI (x.replies.at i).reply.code, vI (x.replies.at i).reply.n, vS (x.replies.at i).reply.text]⟩]⟩ [] [] (by kernel_rfl) on wn ?_
                cases h8 : decide ((x.replies.at i).reply.n < 0) with
                | true =>
                  have h8 := of_decide_eq_true h8
                  refine JL_run 10 [] [68, 9, 8, 7, 1] 1 ⟨[(68, vB true), (9, vI ((i : Nat) : Int)), (8, vI ((x.replies.n : Nat) : Int)), (7, .v (.slice x.replies.A x.replies.n x.replies.c)), (1, .p 0 0)], [⟨98, [vI x.client, vI x.id, vI x.acked, vI x.last, .v (.slice x.replies.A x.replies.n x.replies.c)]⟩]⟩ [] [] (by kernel_rfl) on wn ?_
                  refine l_nil (q_then_normal ?_)
                  refine c_if true rfl ?_
                  refine c_seq ?_
                  refine c_region ?_
                  refine JL_run 1 [] [2] 0 ⟨[(2, vB false)], []⟩ [] [] (by kernel_rfl) on wn ?_
                  refine l_nil (q_then_normal ?_)
                  refine c_ret ?_
                  refine q_block_ret (q_then_ret (q_then_ret (q_block_ret (q_then_ret (q_ret (.inl rfl) [vB false] rfl (fun bs w hS => ?_))))))
                  refine ⟨?_, hS.kp⟩
                  have hm : mReplies x.abs = false := allTo_bad (j := i) (decide_eq_false (fun hk => by simp only [hat, hac] at hk; omega)) (show i < x.abs.replies.length by rw [hln]; omega)
                  rw [hm]
                  rfl
                | false =>
                  have h8 := of_decide_eq_false h8
                  refine JL_run 5 [] [63, 5, 9, 8, 7, 1] 3 ⟨[(63, vB (decide ((1073741824 : Int) < (x.replies.at i).reply.n))), (5, .p 2 0), (9, vI ((i : Nat) : Int)), (8, vI ((x.replies.n : Nat) : Int)), (7, .v (.slice x.replies.A x.replies.n x.replies.c)), (1, .p 0 0)], [⟨98, [vI x.client, vI x.id, vI x.acked, vI x.last, .v (.slice x.replies.A x.replies.n x.replies.c)]⟩, ⟨101, [vI (x.replies.at i).seq, vI (x.replies.at i).reply.code, vI (x.replies.at i).reply.n, vS (x.replies.at i).reply.text]⟩, ⟨40, [vI (x.replies.at i).reply.code, vI (x.replies.at i).reply.n, vS (x.replies.at i).reply.text]⟩]⟩ [] [] (by kernel_rfl) on wn ?_
                  cases h9 : decide ((1073741824 : Int) < (x.replies.at i).reply.n) with
                  | true =>
                    have h9 := of_decide_eq_true h9
                    refine JL_run 5 [] [68, 9, 8, 7, 1] 1 ⟨[(68, vB true), (9, vI ((i : Nat) : Int)), (8, vI ((x.replies.n : Nat) : Int)), (7, .v (.slice x.replies.A x.replies.n x.replies.c)), (1, .p 0 0)], [⟨98, [vI x.client, vI x.id, vI x.acked, vI x.last, .v (.slice x.replies.A x.replies.n x.replies.c)]⟩]⟩ [] [] (by kernel_rfl) on wn ?_
                    refine l_nil (q_then_normal ?_)
                    refine c_if true rfl ?_
                    refine c_seq ?_
                    refine c_region ?_
                    refine JL_run 1 [] [2] 0 ⟨[(2, vB false)], []⟩ [] [] (by kernel_rfl) on wn ?_
                    refine l_nil (q_then_normal ?_)
                    refine c_ret ?_
                    refine q_block_ret (q_then_ret (q_then_ret (q_block_ret (q_then_ret (q_ret (.inl rfl) [vB false] rfl (fun bs w hS => ?_))))))
                    refine ⟨?_, hS.kp⟩
                    have hm : mReplies x.abs = false := allTo_bad (j := i) (decide_eq_false (fun hk => by simp only [hat, hac] at hk; omega)) (show i < x.abs.replies.length by rw [hln]; omega)
                    rw [hm]
                    rfl
                  | false =>
                    have h9 := of_decide_eq_false h9
                    refine JL_run 5 [] [68, 9, 8, 7, 1] 1 ⟨[(68, vB (decide ((12 : Int) < ((x.replies.at i).reply.text.size : Int)))), (9, vI ((i : Nat) : Int)), (8, vI ((x.replies.n : Nat) : Int)), (7, .v (.slice x.replies.A x.replies.n x.replies.c)), (1, .p 0 0)], [⟨98, [vI x.client, vI x.id, vI x.acked, vI x.last, .v (.slice x.replies.A x.replies.n x.replies.c)]⟩]⟩ [] [] (by kernel_rfl) on wn ?_
                    refine l_nil (q_then_normal ?_)
                    cases h10 : decide ((12 : Int) < ((x.replies.at i).reply.text.size : Int)) with
                    | true =>
                      have h10 := of_decide_eq_true h10
                      refine c_if true rfl ?_
                      refine c_seq ?_
                      refine c_region ?_
                      refine JL_run 1 [] [2] 0 ⟨[(2, vB false)], []⟩ [] [] (by kernel_rfl) on wn ?_
                      refine l_nil (q_then_normal ?_)
                      refine c_ret ?_
                      refine q_block_ret (q_then_ret (q_then_ret (q_block_ret (q_then_ret (q_ret (.inl rfl) [vB false] rfl (fun bs w hS => ?_))))))
                      refine ⟨?_, hS.kp⟩
                      have hm : mReplies x.abs = false := allTo_bad (j := i) (decide_eq_false (fun hk => by simp only [hat, hac] at hk; omega)) (show i < x.abs.replies.length by rw [hln]; omega)
                      rw [hm]
                      rfl
                    | false =>
                      have h10 := of_decide_eq_false h10
                      refine c_if false rfl ?_
                      refine c_skip ?_
                      refine q_block_normal (q_then_normal ?_)
                      refine c_region ?_
                      refine JL_run 2 [] [9, 8, 7, 1] 1 ⟨[(9, vI (((i : Nat) : Int) + 1)), (8, vI ((x.replies.n : Nat) : Int)), (7, .v (.slice x.replies.A x.replies.n x.replies.c)), (1, .p 0 0)], [⟨98, [vI x.client, vI x.id, vI x.acked, vI x.last, .v (.slice x.replies.A x.replies.n x.replies.c)]⟩]⟩ [inR (((i : Nat) : Int) + 1)] [] (by kernel_rfl) (oc (by unfold inR; omega) on) wn ?_
                      refine l_nil (q_loop (x := (i : Nat)) ((i + 1) : Nat) ⟨by omega, allTo_step hI (decide_eq_true (by simp only [hat, hac]; exact ⟨by omega, by omega, by omega, by omega, by omega, by omega, by omega, by omega⟩))⟩ (by omega) (s_start [9, 8, 7, 1] 1 (by kernel_rfl) rfl))
        | false =>
          have h4 := of_decide_eq_false h4
          refine h_quiet [] 12 [(42, vB false), (41, vB false), (40, .v (undef)), (39, .v (undef)), (38, .v (undef)), (37, .v (undef)), (36, .v (undef)), (35, .v (undef)), (34, .v (undef)), (33, .v (undef)), (32, .v (undef)), (31, .v (undef)), (30, vB false), (29, vB false), (28, vI ((i : Nat) : Int)), (27, vB false), (26, vB false), (25, vB false), (24, vI (x.acked + 4)), (23, vI x.acked), (22, .p 0 2), (21, vI (x.replies.at i).seq), (20, .p 1 0), (19, vB false), (18, vB false), (17, vI x.acked), (16, .p 0 2), (15, vI (x.replies.at i).seq), (14, .p 1 0), (3, vI ((i : Nat) : Int)), (4, .p 1 0), (9, vI ((i : Nat) : Int)), (8, vI ((x.replies.n : Nat) : Int)), (7, .v (.slice x.replies.A x.replies.n x.replies.c)), (1, .p 0 0)] [] [] rfl rfl (by kernel_rfl) on wn ?_
          refine h_nil ?_
          refine l_nil (q_then_normal ?_)
          refine c_if false rfl ?_
          refine c_skip ?_
          refine q_then_normal ?_
          refine c_seq ?_
          refine c_region ?_
          refine JL_run 4 [] [5, 9, 8, 7, 1] 3 ⟨[(5, .p 2 0), (9, vI ((i : Nat) : Int)), (8, vI ((x.replies.n : Nat) : Int)), (7, .v (.slice x.replies.A x.replies.n x.replies.c)), (1, .p 0 0)], [⟨98, [vI x.client, vI x.id, vI x.acked, vI x.last, .v (.slice x.replies.A x.replies.n x.replies.c)]⟩, ⟨101, [vI (x.replies.at i).seq, vI (x.replies.at i).reply.code, vI (x.replies.at i).reply.n, vS (x.replies.at i).reply.text]⟩, ⟨40, [vI (x.replies.at i).reply.code, vI (x.replies.at i).reply.n, vS (x.replies.at i).reply.text]⟩]⟩ [] [] (by kernel_rfl) on wn ?_
          refine l_nil (q_then_normal ?_)
          refine c_seq ?_
          refine c_region ?_
          refine JL_run 4 [] [48, 5, 9, 8, 7, 1] 3 ⟨[(48, vB (decide ((x.replies.at i).reply.code < 0))), (5, .p 2 0), (9, vI ((i : Nat) : Int)), (8, vI ((x.replies.n : Nat) : Int)), (7, .v (.slice x.replies.A x.replies.n x.replies.c)), (1, .p 0 0)], [⟨98, [vI x.client, vI x.id, vI x.acked, vI x.last, .v (.slice x.replies.A x.replies.n x.replies.c)]⟩, ⟨101, [vI (x.replies.at i).seq, vI (x.replies.at i).reply.code, vI (x.replies.at i).reply.n, vS (x.replies.at i).reply.text]⟩, ⟨40, [vI (x.replies.at i).reply.code, vI (x.replies.at i).reply.n, vS (x.replies.at i).reply.text]⟩]⟩ [] [] (by kernel_rfl) on wn ?_
          cases h11 : decide ((x.replies.at i).reply.code < 0) with
          | true =>
            have h11 := of_decide_eq_true h11
            refine JL_run 20 [] [68, 9, 8, 7, 1] 1 ⟨[(68, vB true), (9, vI ((i : Nat) : Int)), (8, vI ((x.replies.n : Nat) : Int)), (7, .v (.slice x.replies.A x.replies.n x.replies.c)), (1, .p 0 0)], [⟨98, [vI x.client, vI x.id, vI x.acked, vI x.last, .v (.slice x.replies.A x.replies.n x.replies.c)]⟩]⟩ [] [] (by kernel_rfl) on wn ?_
            refine l_nil (q_then_normal ?_)
            refine c_if true rfl ?_
            refine c_seq ?_
            refine c_region ?_
            refine JL_run 1 [] [2] 0 ⟨[(2, vB false)], []⟩ [] [] (by kernel_rfl) on wn ?_
            refine l_nil (q_then_normal ?_)
            refine c_ret ?_
            refine q_block_ret (q_then_ret (q_then_ret (q_block_ret (q_then_ret (q_ret (.inl rfl) [vB false] rfl (fun bs w hS => ?_))))))
            refine ⟨?_, hS.kp⟩
            have hm : mReplies x.abs = false := allTo_bad (j := i) (decide_eq_false (fun hk => by simp only [hat, hac] at hk; omega)) (show i < x.abs.replies.length by rw [hln]; omega)
            rw [hm]
            rfl
          | false =>
            have h11 := of_decide_eq_false h11
            refine JL_run 5 [] [53, 5, 9, 8, 7, 1] 3 ⟨[(53, vB (decide ((15 : Int) < (x.replies.at i).reply.code))), (5, .p 2 0), (9, vI ((i : Nat) : Int)), (8, vI ((x.replies.n : Nat) : Int)), (7, .v (.slice x.replies.A x.replies.n x.replies.c)), (1, .p 0 0)], [⟨98, [vI x.client, vI x.id, vI x.acked, vI x.last, .v (.slice x.replies.A x.replies.n x.replies.c)]⟩, ⟨101, [vI (x.replies.at i).seq, vI (x.replies.at i).reply.code, vI (x.replies.at i).reply.n, vS (x.replies.at i).reply.text]⟩, ⟨40, [vI (x.replies.at i).reply.code, vI (x.replies.at i).reply.n, vS (x.replies.at i).reply.text]⟩]⟩ [] [] (by kernel_rfl) on wn ?_
            cases h12 : decide ((15 : Int) < (x.replies.at i).reply.code) with
            | true =>
              have h12 := of_decide_eq_true h12
              refine JL_run 15 [] [68, 9, 8, 7, 1] 1 ⟨[(68, vB true), (9, vI ((i : Nat) : Int)), (8, vI ((x.replies.n : Nat) : Int)), (7, .v (.slice x.replies.A x.replies.n x.replies.c)), (1, .p 0 0)], [⟨98, [vI x.client, vI x.id, vI x.acked, vI x.last, .v (.slice x.replies.A x.replies.n x.replies.c)]⟩]⟩ [] [] (by kernel_rfl) on wn ?_
              refine l_nil (q_then_normal ?_)
              refine c_if true rfl ?_
              refine c_seq ?_
              refine c_region ?_
              refine JL_run 1 [] [2] 0 ⟨[(2, vB false)], []⟩ [] [] (by kernel_rfl) on wn ?_
              refine l_nil (q_then_normal ?_)
              refine c_ret ?_
              refine q_block_ret (q_then_ret (q_then_ret (q_block_ret (q_then_ret (q_ret (.inl rfl) [vB false] rfl (fun bs w hS => ?_))))))
              refine ⟨?_, hS.kp⟩
              have hm : mReplies x.abs = false := allTo_bad (j := i) (decide_eq_false (fun hk => by simp only [hat, hac] at hk; omega)) (show i < x.abs.replies.length by rw [hln]; omega)
              rw [hm]
              rfl
            | false =>
              have h12 := of_decide_eq_false h12
              refine JL_run 5 [] [58, 5, 9, 8, 7, 1] 3 ⟨[(58, vB (decide ((x.replies.at i).reply.n < 0))), (5, .p 2 0), (9, vI ((i : Nat) : Int)), (8, vI ((x.replies.n : Nat) : Int)), (7, .v (.slice x.replies.A x.replies.n x.replies.c)), (1, .p 0 0)], [⟨98, [vI x.client, vI x.id, vI x.acked, vI x.last, .v (.slice x.replies.A x.replies.n x.replies.c)]⟩, ⟨101, [vI (x.replies.at i).seq, vI (x.replies.at i).reply.code, vI (x.replies.at i).reply.n, vS (x.replies.at i).reply.text]⟩, ⟨40, [vI (x.replies.at i).reply.code, vI (x.replies.at i).reply.n, vS (x.replies.at i).reply.text]⟩]⟩ [] [] (by kernel_rfl) on wn ?_
              cases h13 : decide ((x.replies.at i).reply.n < 0) with
              | true =>
                have h13 := of_decide_eq_true h13
                refine JL_run 10 [] [68, 9, 8, 7, 1] 1 ⟨[(68, vB true), (9, vI ((i : Nat) : Int)), (8, vI ((x.replies.n : Nat) : Int)), (7, .v (.slice x.replies.A x.replies.n x.replies.c)), (1, .p 0 0)], [⟨98, [vI x.client, vI x.id, vI x.acked, vI x.last, .v (.slice x.replies.A x.replies.n x.replies.c)]⟩]⟩ [] [] (by kernel_rfl) on wn ?_
                refine l_nil (q_then_normal ?_)
                refine c_if true rfl ?_
                refine c_seq ?_
                refine c_region ?_
                refine JL_run 1 [] [2] 0 ⟨[(2, vB false)], []⟩ [] [] (by kernel_rfl) on wn ?_
                refine l_nil (q_then_normal ?_)
                refine c_ret ?_
                refine q_block_ret (q_then_ret (q_then_ret (q_block_ret (q_then_ret (q_ret (.inl rfl) [vB false] rfl (fun bs w hS => ?_))))))
                refine ⟨?_, hS.kp⟩
                have hm : mReplies x.abs = false := allTo_bad (j := i) (decide_eq_false (fun hk => by simp only [hat, hac] at hk; omega)) (show i < x.abs.replies.length by rw [hln]; omega)
                rw [hm]
                rfl
              | false =>
                have h13 := of_decide_eq_false h13
                refine JL_run 5 [] [63, 5, 9, 8, 7, 1] 3 ⟨[(63, vB (decide ((1073741824 : Int) < (x.replies.at i).reply.n))), (5, .p 2 0), (9, vI ((i : Nat) : Int)), (8, vI ((x.replies.n : Nat) : Int)), (7, .v (.slice x.replies.A x.replies.n x.replies.c)), (1, .p 0 0)], [⟨98, [vI x.client, vI x.id, vI x.acked, vI x.last, .v (.slice x.replies.A x.replies.n x.replies.c)]⟩, ⟨101, [vI (x.replies.at i).seq, vI (x.replies.at i).reply.code, vI (x.replies.at i).reply.n, vS (x.replies.at i).reply.text]⟩, ⟨40, [vI (x.replies.at i).reply.code, vI (x.replies.at i).reply.n, vS (x.replies.at i).reply.text]⟩]⟩ [] [] (by kernel_rfl) on wn ?_
                cases h14 : decide ((1073741824 : Int) < (x.replies.at i).reply.n) with
                | true =>
                  have h14 := of_decide_eq_true h14
                  refine JL_run 5 [] [68, 9, 8, 7, 1] 1 ⟨[(68, vB true), (9, vI ((i : Nat) : Int)), (8, vI ((x.replies.n : Nat) : Int)), (7, .v (.slice x.replies.A x.replies.n x.replies.c)), (1, .p 0 0)], [⟨98, [vI x.client, vI x.id, vI x.acked, vI x.last, .v (.slice x.replies.A x.replies.n x.replies.c)]⟩]⟩ [] [] (by kernel_rfl) on wn ?_
                  refine l_nil (q_then_normal ?_)
                  refine c_if true rfl ?_
                  refine c_seq ?_
                  refine c_region ?_
                  refine JL_run 1 [] [2] 0 ⟨[(2, vB false)], []⟩ [] [] (by kernel_rfl) on wn ?_
                  refine l_nil (q_then_normal ?_)
                  refine c_ret ?_
                  refine q_block_ret (q_then_ret (q_then_ret (q_block_ret (q_then_ret (q_ret (.inl rfl) [vB false] rfl (fun bs w hS => ?_))))))
                  refine ⟨?_, hS.kp⟩
                  have hm : mReplies x.abs = false := allTo_bad (j := i) (decide_eq_false (fun hk => by simp only [hat, hac] at hk; omega)) (show i < x.abs.replies.length by rw [hln]; omega)
                  rw [hm]
                  rfl
                | false =>
                  have h14 := of_decide_eq_false h14
                  refine JL_run 5 [] [68, 9, 8, 7, 1] 1 ⟨[(68, vB (decide ((12 : Int) < ((x.replies.at i).reply.text.size : Int)))), (9, vI ((i : Nat) : Int)), (8, vI ((x.replies.n : Nat) : Int)), (7, .v (.slice x.replies.A x.replies.n x.replies.c)), (1, .p 0 0)], [⟨98, [vI x.client, vI x.id, vI x.acked, vI x.last, .v (.slice x.replies.A x.replies.n x.replies.c)]⟩]⟩ [] [] (by kernel_rfl) on wn ?_
                  refine l_nil (q_then_normal ?_)
                  cases h15 : decide ((12 : Int) < ((x.replies.at i).reply.text.size : Int)) with
                  | true =>
                    have h15 := of_decide_eq_true h15
                    refine c_if true rfl ?_
                    refine c_seq ?_
                    refine c_region ?_
                    refine JL_run 1 [] [2] 0 ⟨[(2, vB false)], []⟩ [] [] (by kernel_rfl) on wn ?_
                    refine l_nil (q_then_normal ?_)
                    refine c_ret ?_
                    refine q_block_ret (q_then_ret (q_then_ret (q_block_ret (q_then_ret (q_ret (.inl rfl) [vB false] rfl (fun bs w hS => ?_))))))
                    refine ⟨?_, hS.kp⟩
                    have hm : mReplies x.abs = false := allTo_bad (j := i) (decide_eq_false (fun hk => by simp only [hat, hac] at hk; omega)) (show i < x.abs.replies.length by rw [hln]; omega)
                    rw [hm]
                    rfl
                  | false =>
                    have h15 := of_decide_eq_false h15
                    refine c_if false rfl ?_
                    refine c_skip ?_
                    refine q_block_normal (q_then_normal ?_)
                    refine c_region ?_
                    refine JL_run 2 [] [9, 8, 7, 1] 1 ⟨[(9, vI (((i : Nat) : Int) + 1)), (8, vI ((x.replies.n : Nat) : Int)), (7, .v (.slice x.replies.A x.replies.n x.replies.c)), (1, .p 0 0)], [⟨98, [vI x.client, vI x.id, vI x.acked, vI x.last, .v (.slice x.replies.A x.replies.n x.replies.c)]⟩]⟩ [inR (((i : Nat) : Int) + 1)] [] (by kernel_rfl) (oc (by unfold inR; omega) on) wn ?_
                    refine l_nil (q_loop (x := (i : Nat)) ((i + 1) : Nat) ⟨by omega, allTo_step hI (decide_eq_true (by simp only [hat, hac]; exact ⟨by omega, by omega, by omega, by omega, by omega, by omega, by omega, by omega⟩))⟩ (by omega) (s_start [9, 8, 7, 1] 1 (by kernel_rfl) rfl))
  | false =>
    have h1 := of_decide_eq_false h1
    refine c_if false rfl ?_
    refine c_exit ?_
    refine q_then_exit (q_then_exit (q_block_hit (q_then_normal ?_)))
    refine c_seq ?_
    refine c_region ?_
    refine JL_run 1 [] [2] 0 ⟨[(2, vB true)], []⟩ [] [] (by kernel_rfl) on wn ?_
    refine l_nil (q_then_normal ?_)
    refine c_ret ?_
    refine q_ret (.inl rfl) [vB true] rfl (fun bs w hS => ?_)
    refine ⟨?_, hS.kp⟩
    have hm : mReplies x.abs = true := by show allTo _ x.abs.replies.length = true; rw [hln, show x.replies.n = i by omega]; exact hI
    rw [hm]
    rfl

theorem ref_repliesMay {B : Nat → Prop} (x : CSession) (w : World) (hx : Rds.sub B w x) (hb : 0 ≤ x.acked ∧ x.acked ≤ 1048576) : Calls Try.prog 102 #[.agg #[.int .i64 x.client, .int .i64 x.id, .int .i64 x.acked, .int .i64 x.last, .slice x.replies.A x.replies.n x.replies.c]] w fun e w' => e = .returned (.bool (mReplies x.abs)) ∧ Kp [] w w' := by
  have okx := Rds.okof hx
  have ncx := Sl.ok.nc okx
  have hns : x.replies.n = x.replies.xs.length := rfl
  have hat : ∀ q, x.abs.replies.getD q default = x.replies.at q := fun _ => rfl
  have hac : x.abs.acked = x.acked := rfl
  have hln : x.abs.replies.length = x.replies.n := rfl
  refine calls_J0 52 Try.func102 rfl rfl [.agg #[.int .i64 x.client, .int .i64 x.id, .int .i64 x.acked, .int .i64 x.last, .slice x.replies.A x.replies.n x.replies.c]] rfl ?_
  refine c_seq ?_
  refine c_region ?_
  refine JL_run 2 [] [1] 1 ⟨[(1, .p 0 0)], [⟨98, [vI x.client, vI x.id, vI x.acked, vI x.last, .v (.slice x.replies.A x.replies.n x.replies.c)]⟩]⟩ [] [] (by kernel_rfl) on wn ?_
  refine l_nil (q_then_normal ?_)
  refine c_seq ?_
  refine c_region ?_
  refine JL_run 3 [] [3, 1] 1 ⟨[(3, vI x.acked), (1, .p 0 0)], [⟨98, [vI x.client, vI x.id, vI x.acked, vI x.last, .v (.slice x.replies.A x.replies.n x.replies.c)]⟩]⟩ [] [] (by kernel_rfl) on wn ?_
  refine l_nil (q_then_normal ?_)
  refine c_seq ?_
  refine c_seq ?_
  refine c_region ?_
  refine JL_run 1 [] [4, 3, 1] 1 ⟨[(4, vI 0), (3, vI x.acked), (1, .p 0 0)], [⟨98, [vI x.client, vI x.id, vI x.acked, vI x.last, .v (.slice x.replies.A x.replies.n x.replies.c)]⟩]⟩ [] [] (by kernel_rfl) on wn ?_
  refine l_nil (q_then_normal ?_)
  refine c_block ?_
  refine c_loop (σ := Nat × Int) (fun ⟨i, la⟩ => i ≤ x.replies.n ∧ allTo (keptOk x.abs) i = true ∧ x.acked ≤ la ∧ la ≤ x.acked + 4 ∧ (i = 0 → la = x.acked) ∧ (0 < i → la = (x.replies.at (i - 1)).seq)) (fun ⟨i, la⟩ => x.replies.n - i) (fun ⟨i, la⟩ => []) (fun ⟨i, la⟩ => ⟨[(4, vI ((i : Nat) : Int)), (3, vI la), (1, .p 0 0)], [⟨98, [vI x.client, vI x.id, vI x.acked, vI x.last, .v (.slice x.replies.A x.replies.n x.replies.c)]⟩]⟩) ⟨0, x.acked⟩ ⟨Nat.zero_le _, rfl, by omega, by omega, fun _ => rfl, fun h => absurd h (by omega)⟩ (s_start [4, 3, 1] 1 (by kernel_rfl) rfl) ?_
  rintro ⟨i, la⟩ ⟨hi, hI, hl1, hl2, hl3, hl4⟩
  have hz : i = 0 ∧ la = x.acked ∨ 0 < i ∧ la = (x.replies.at (i - 1)).seq := by rcases Nat.eq_zero_or_pos i with h | h; exact .inl ⟨h, hl3 h⟩; exact .inr ⟨h, hl4 h⟩
  refine c_seq ?_
  refine c_seq ?_
  refine c_region ?_
  refine JL_run 5 [] [12, 4, 3, 1] 1 ⟨[(12, vB (decide (((i : Nat) : Int) < ((x.replies.n : Nat) : Int)))), (4, vI ((i : Nat) : Int)), (3, vI la), (1, .p 0 0)], [⟨98, [vI x.client, vI x.id, vI x.acked, vI x.last, .v (.slice x.replies.A x.replies.n x.replies.c)]⟩]⟩ [] [] (by kernel_rfl) on wn ?_
  refine l_nil (q_then_normal ?_)
  cases h1 : decide (((i : Nat) : Int) < ((x.replies.n : Nat) : Int)) with
  | true =>
    have h1 := of_decide_eq_true h1
    refine c_if true rfl ?_
    refine c_skip ?_
    refine q_then_normal ?_
    refine c_seq ?_
    refine c_block ?_
    refine c_seq ?_
    refine c_region ?_
    refine JL_run 7 [(3, .idx x.replies.ad i), (4, .ext [.int .i64 (x.replies.at i).seq, .int .i64 (x.replies.at i).reply.code, .int .i64 (x.replies.at i).reply.n, .string (x.replies.at i).reply.text])] [5, 4, 3, 1] 2 ⟨[(5, .p 1 0), (4, vI ((i : Nat) : Int)), (3, vI la), (1, .p 0 0)], [⟨98, [vI x.client, vI x.id, vI x.acked, vI x.last, .v (.slice x.replies.A x.replies.n x.replies.c)]⟩, ⟨101, [vI (x.replies.at i).seq, vI (x.replies.at i).reply.code, vI (x.replies.at i).reply.n, vS (x.replies.at i).reply.text]⟩]⟩ [x.replies.A = some x.replies.ad, ((i : Nat) : Int) = ((i : Nat) : Int), i < x.replies.n] [(x.replies.ad.add (i * 4), [.int .i64 (x.replies.at i).seq, .int .i64 (x.replies.at i).reply.code, .int .i64 (x.replies.at i).reply.n, .string (x.replies.at i).reply.text])] (by kernel_rfl) (oc (Sl.ok.own (s := x.replies) (i := i) okx (by omega)) (oc rfl (oc (by omega) on))) (fun w hk hr => ⟨(Sl.rd.all (s := x.replies) (i := i) (Rds.kp hx hk) (by omega) rfl), trivial⟩) ?_
    refine l_nil (q_then_normal ?_)
    refine c_seq ?_
    refine c_seq ?_
    refine c_region ?_
    refine JL_run 7 [] [26, 23, 21, 5, 4, 1] 2 ⟨[(26, vI (x.acked + 4)), (23, vI (la + 1)), (21, vI (x.replies.at i).seq), (5, .p 1 0), (4, vI ((i : Nat) : Int)), (1, .p 0 0)], [⟨98, [vI x.client, vI x.id, vI x.acked, vI x.last, .v (.slice x.replies.A x.replies.n x.replies.c)]⟩, ⟨101, [vI (x.replies.at i).seq, vI (x.replies.at i).reply.code, vI (x.replies.at i).reply.n, vS (x.replies.at i).reply.text]⟩]⟩ [inR (la + 1), inR (x.acked + 4)] [] (by kernel_rfl) (oc (by unfold inR; omega) (oc (by unfold inR; omega) on)) wn ?_
    refine l_pure 68 [] [vI (x.replies.at i).seq, vI (la + 1), vI (x.acked + 4)] (.bool (inB (x.replies.at i).seq (la + 1) (x.acked + 4))) Try.call68 rfl rfl rfl rfl (fun bs w hS => ref_In _ _ _ w) ?_
    refine JL_run 2 [] [29, 5, 4, 1] 2 ⟨[(29, vB (!(inB (x.replies.at i).seq (la + 1) (x.acked + 4)))), (5, .p 1 0), (4, vI ((i : Nat) : Int)), (1, .p 0 0)], [⟨98, [vI x.client, vI x.id, vI x.acked, vI x.last, .v (.slice x.replies.A x.replies.n x.replies.c)]⟩, ⟨101, [vI (x.replies.at i).seq, vI (x.replies.at i).reply.code, vI (x.replies.at i).reply.n, vS (x.replies.at i).reply.text]⟩]⟩ [] [] (by kernel_rfl) on wn ?_
    cases h2 : inB (x.replies.at i).seq (la + 1) (x.acked + 4) with
    | true =>
      simp only [inB, Bool.and_eq_true, Bool.and_eq_false_iff, decide_eq_true_eq, decide_eq_false_iff_not] at h2
      refine JL_run 3 [] [32, 29, 5, 4, 1] 2 ⟨[(32, vI (x.replies.at i).reply.code), (29, vB false), (5, .p 1 0), (4, vI ((i : Nat) : Int)), (1, .p 0 0)], [⟨98, [vI x.client, vI x.id, vI x.acked, vI x.last, .v (.slice x.replies.A x.replies.n x.replies.c)]⟩, ⟨101, [vI (x.replies.at i).seq, vI (x.replies.at i).reply.code, vI (x.replies.at i).reply.n, vS (x.replies.at i).reply.text]⟩]⟩ [] [] (by kernel_rfl) on wn ?_
      refine l_pure 68 [] [vI (x.replies.at i).reply.code, vI 0, vI 15] (.bool (inB (x.replies.at i).reply.code 0 15)) Try.call68 rfl rfl rfl rfl (fun bs w hS => ref_In _ _ _ w) ?_
      refine JL_run 3 [] [36, 5, 4, 1] 2 ⟨[(36, vB (!(inB (x.replies.at i).reply.code 0 15))), (5, .p 1 0), (4, vI ((i : Nat) : Int)), (1, .p 0 0)], [⟨98, [vI x.client, vI x.id, vI x.acked, vI x.last, .v (.slice x.replies.A x.replies.n x.replies.c)]⟩, ⟨101, [vI (x.replies.at i).seq, vI (x.replies.at i).reply.code, vI (x.replies.at i).reply.n, vS (x.replies.at i).reply.text]⟩]⟩ [] [] (by kernel_rfl) on wn ?_
      cases h3 : inB (x.replies.at i).reply.code 0 15 with
      | true =>
        simp only [inB, Bool.and_eq_true, Bool.and_eq_false_iff, decide_eq_true_eq, decide_eq_false_iff_not] at h3
        refine JL_run 3 [] [39, 36, 5, 4, 1] 2 ⟨[(39, vI (x.replies.at i).reply.n), (36, vB false), (5, .p 1 0), (4, vI ((i : Nat) : Int)), (1, .p 0 0)], [⟨98, [vI x.client, vI x.id, vI x.acked, vI x.last, .v (.slice x.replies.A x.replies.n x.replies.c)]⟩, ⟨101, [vI (x.replies.at i).seq, vI (x.replies.at i).reply.code, vI (x.replies.at i).reply.n, vS (x.replies.at i).reply.text]⟩]⟩ [] [] (by kernel_rfl) on wn ?_
        refine l_pure 68 [] [vI (x.replies.at i).reply.n, vI 0, vI 1073741824] (.bool (inB (x.replies.at i).reply.n 0 1073741824)) Try.call68 rfl rfl rfl rfl (fun bs w hS => ref_In _ _ _ w) ?_
        refine JL_run 3 [] [43, 5, 4, 1] 2 ⟨[(43, vB (!(inB (x.replies.at i).reply.n 0 1073741824))), (5, .p 1 0), (4, vI ((i : Nat) : Int)), (1, .p 0 0)], [⟨98, [vI x.client, vI x.id, vI x.acked, vI x.last, .v (.slice x.replies.A x.replies.n x.replies.c)]⟩, ⟨101, [vI (x.replies.at i).seq, vI (x.replies.at i).reply.code, vI (x.replies.at i).reply.n, vS (x.replies.at i).reply.text]⟩]⟩ [] [] (by kernel_rfl) on wn ?_
        cases h4 : inB (x.replies.at i).reply.n 0 1073741824 with
        | true =>
          simp only [inB, Bool.and_eq_true, Bool.and_eq_false_iff, decide_eq_true_eq, decide_eq_false_iff_not] at h4
          refine JL_run 6 [] [49, 5, 4, 1] 2 ⟨[(49, vB (decide ((12 : Int) < ((x.replies.at i).reply.text.size : Int)))), (5, .p 1 0), (4, vI ((i : Nat) : Int)), (1, .p 0 0)], [⟨98, [vI x.client, vI x.id, vI x.acked, vI x.last, .v (.slice x.replies.A x.replies.n x.replies.c)]⟩, ⟨101, [vI (x.replies.at i).seq, vI (x.replies.at i).reply.code, vI (x.replies.at i).reply.n, vS (x.replies.at i).reply.text]⟩]⟩ [] [] (by kernel_rfl) on wn ?_
          refine l_nil (q_then_normal ?_)
          cases h5 : decide ((12 : Int) < ((x.replies.at i).reply.text.size : Int)) with
          | true =>
            have h5 := of_decide_eq_true h5
            refine c_if true rfl ?_
            refine c_seq ?_
            refine c_region ?_
            refine JL_run 1 [] [2] 0 ⟨[(2, vB false)], []⟩ [] [] (by kernel_rfl) on wn ?_
            refine l_nil (q_then_normal ?_)
            refine c_ret ?_
            refine q_then_ret (q_block_ret (q_then_ret (q_then_ret (q_block_ret (q_then_ret (q_ret (.inl rfl) [vB false] rfl (fun bs w hS => ?_)))))))
            refine ⟨?_, hS.kp⟩
            have hm : mReplies x.abs = false := allTo_bad (j := i) (decide_eq_false (fun hk => by simp only [hat, hac] at hk; omega)) (show i < x.abs.replies.length by rw [hln]; omega)
            rw [hm]
            rfl
          | false =>
            have h5 := of_decide_eq_false h5
            refine c_if false rfl ?_
            refine c_skip ?_
            refine q_then_normal ?_
            refine c_region ?_
            refine JL_run 3 [] [3, 4, 1] 1 ⟨[(3, vI (x.replies.at i).seq), (4, vI ((i : Nat) : Int)), (1, .p 0 0)], [⟨98, [vI x.client, vI x.id, vI x.acked, vI x.last, .v (.slice x.replies.A x.replies.n x.replies.c)]⟩]⟩ [] [] (by kernel_rfl) on wn ?_
            refine l_nil (q_block_normal (q_then_normal ?_))
            refine c_region ?_
            refine JL_run 3 [] [4, 3, 1] 1 ⟨[(4, vI (((i : Nat) : Int) + 1)), (3, vI (x.replies.at i).seq), (1, .p 0 0)], [⟨98, [vI x.client, vI x.id, vI x.acked, vI x.last, .v (.slice x.replies.A x.replies.n x.replies.c)]⟩]⟩ [inR (((i : Nat) : Int) + 1)] [] (by kernel_rfl) (oc (by unfold inR; omega) on) wn ?_
            refine l_nil (q_loop (x := (⟨i, la⟩ : Nat × Int)) (⟨i + 1, (x.replies.at i).seq⟩ : Nat × Int) ⟨by omega, allTo_step hI (decide_eq_true (by simp only [hat, hac]; exact ⟨by omega, by omega, by omega, by omega, by omega, by omega, by omega, by omega⟩)), by omega, by omega, fun h => absurd h (by omega), fun _ => rfl⟩ (by show x.replies.n - (i + 1) < x.replies.n - i; omega) (s_start [4, 3, 1] 1 (by kernel_rfl) rfl))
        | false =>
          simp only [inB, Bool.and_eq_true, Bool.and_eq_false_iff, decide_eq_true_eq, decide_eq_false_iff_not] at h4
          refine JL_run 6 [] [49, 5, 4, 1] 2 ⟨[(49, vB true), (5, .p 1 0), (4, vI ((i : Nat) : Int)), (1, .p 0 0)], [⟨98, [vI x.client, vI x.id, vI x.acked, vI x.last, .v (.slice x.replies.A x.replies.n x.replies.c)]⟩, ⟨101, [vI (x.replies.at i).seq, vI (x.replies.at i).reply.code, vI (x.replies.at i).reply.n, vS (x.replies.at i).reply.text]⟩]⟩ [] [] (by kernel_rfl) on wn ?_
          refine l_nil (q_then_normal ?_)
          refine c_if true rfl ?_
          refine c_seq ?_
          refine c_region ?_
          refine JL_run 1 [] [2] 0 ⟨[(2, vB false)], []⟩ [] [] (by kernel_rfl) on wn ?_
          refine l_nil (q_then_normal ?_)
          refine c_ret ?_
          refine q_then_ret (q_block_ret (q_then_ret (q_then_ret (q_block_ret (q_then_ret (q_ret (.inl rfl) [vB false] rfl (fun bs w hS => ?_)))))))
          refine ⟨?_, hS.kp⟩
          have hm : mReplies x.abs = false := allTo_bad (j := i) (decide_eq_false (fun hk => by simp only [hat, hac] at hk; omega)) (show i < x.abs.replies.length by rw [hln]; omega)
          rw [hm]
          rfl
      | false =>
        simp only [inB, Bool.and_eq_true, Bool.and_eq_false_iff, decide_eq_true_eq, decide_eq_false_iff_not] at h3
        refine JL_run 13 [] [49, 5, 4, 1] 2 ⟨[(49, vB true), (5, .p 1 0), (4, vI ((i : Nat) : Int)), (1, .p 0 0)], [⟨98, [vI x.client, vI x.id, vI x.acked, vI x.last, .v (.slice x.replies.A x.replies.n x.replies.c)]⟩, ⟨101, [vI (x.replies.at i).seq, vI (x.replies.at i).reply.code, vI (x.replies.at i).reply.n, vS (x.replies.at i).reply.text]⟩]⟩ [] [] (by kernel_rfl) on wn ?_
        refine l_nil (q_then_normal ?_)
        refine c_if true rfl ?_
        refine c_seq ?_
        refine c_region ?_
        refine JL_run 1 [] [2] 0 ⟨[(2, vB false)], []⟩ [] [] (by kernel_rfl) on wn ?_
        refine l_nil (q_then_normal ?_)
        refine c_ret ?_
        refine q_then_ret (q_block_ret (q_then_ret (q_then_ret (q_block_ret (q_then_ret (q_ret (.inl rfl) [vB false] rfl (fun bs w hS => ?_)))))))
        refine ⟨?_, hS.kp⟩
        have hm : mReplies x.abs = false := allTo_bad (j := i) (decide_eq_false (fun hk => by simp only [hat, hac] at hk; omega)) (show i < x.abs.replies.length by rw [hln]; omega)
        rw [hm]
        rfl
    | false =>
      simp only [inB, Bool.and_eq_true, Bool.and_eq_false_iff, decide_eq_true_eq, decide_eq_false_iff_not] at h2
      refine JL_run 20 [] [49, 5, 4, 1] 2 ⟨[(49, vB true), (5, .p 1 0), (4, vI ((i : Nat) : Int)), (1, .p 0 0)], [⟨98, [vI x.client, vI x.id, vI x.acked, vI x.last, .v (.slice x.replies.A x.replies.n x.replies.c)]⟩, ⟨101, [vI (x.replies.at i).seq, vI (x.replies.at i).reply.code, vI (x.replies.at i).reply.n, vS (x.replies.at i).reply.text]⟩]⟩ [] [] (by kernel_rfl) on wn ?_
      refine l_nil (q_then_normal ?_)
      refine c_if true rfl ?_
      refine c_seq ?_
      refine c_region ?_
      refine JL_run 1 [] [2] 0 ⟨[(2, vB false)], []⟩ [] [] (by kernel_rfl) on wn ?_
      refine l_nil (q_then_normal ?_)
      refine c_ret ?_
      refine q_then_ret (q_block_ret (q_then_ret (q_then_ret (q_block_ret (q_then_ret (q_ret (.inl rfl) [vB false] rfl (fun bs w hS => ?_)))))))
      refine ⟨?_, hS.kp⟩
      have hm : mReplies x.abs = false := allTo_bad (j := i) (decide_eq_false (fun hk => by simp only [hat, hac] at hk; omega)) (show i < x.abs.replies.length by rw [hln]; omega)
      rw [hm]
      rfl
  | false =>
    have h1 := of_decide_eq_false h1
    refine c_if false rfl ?_
    refine c_exit ?_
    refine q_then_exit (q_then_exit (q_block_hit (q_then_normal ?_)))
    refine c_seq ?_
    refine c_region ?_
    refine JL_run 1 [] [2] 0 ⟨[(2, vB true)], []⟩ [] [] (by kernel_rfl) on wn ?_
    refine l_nil (q_then_normal ?_)
    refine c_ret ?_
    refine q_ret (.inl rfl) [vB true] rfl (fun bs w hS => ?_)
    refine ⟨?_, hS.kp⟩
    have hm : mReplies x.abs = true := by show allTo _ x.abs.replies.length = true; rw [hln, show x.replies.n = i by omega]; exact hI
    rw [hm]
    rfl

theorem session_Check {B : Nat → Prop} (s : Sl CSession) (n : Int) (w : World) (hs : s.rd B w) : Calls Try.prog 59 #[.slice s.A s.n s.c, .int .i64 n] w fun e w' => e = .returned (.int .i64 (mSess (s.xs.map CSession.abs) n)) ∧ Kp [] w w' := by
  have oks := Sl.rd.ok hs
  have ncs := Sl.ok.nc oks
  have hns : s.n = s.xs.length := rfl
  have hat : ∀ q, (s.xs.map CSession.abs).getD q default = (s.at q).abs := fun q => sabs_at q
  have hq0 : ∀ q, (s.at q).abs.client = (s.at q).client := fun _ => rfl
  have hq1 : ∀ q, (s.at q).abs.id = (s.at q).id := fun _ => rfl
  have hq2 : ∀ q, (s.at q).abs.acked = (s.at q).acked := fun _ => rfl
  have hq3 : ∀ q, (s.at q).abs.last = (s.at q).last := fun _ => rfl
  have hml : (s.xs.map CSession.abs).length = s.n := by simp
  refine calls_J0 76 Try.func59 rfl rfl [.slice s.A s.n s.c, .int .i64 n] rfl ?_
  refine c_seq ?_
  refine c_region ?_
  refine JL_run 1 [] [0, 1] 0 ⟨[(0, .v (.slice s.A s.n s.c)), (1, vI n)], []⟩ [] [] (by kernel_rfl) on wn ?_
  refine l_nil (q_then_normal ?_)
  refine c_seq ?_
  refine c_seq ?_
  refine c_region ?_
  refine JL_run 3 [] [9, 0, 1] 0 ⟨[(9, vB (decide (n < 0))), (0, .v (.slice s.A s.n s.c)), (1, vI n)], []⟩ [] [] (by kernel_rfl) on wn ?_
  cases h1 : decide (n < 0) with
  | true =>
    have h1 := of_decide_eq_true h1
    refine JL_run 3 [] [12, 0, 1] 0 ⟨[(12, vB true), (0, .v (.slice s.A s.n s.c)), (1, vI n)], []⟩ [] [] (by kernel_rfl) on wn ?_
    refine l_nil (q_then_normal ?_)
    refine c_if true rfl ?_
    refine c_seq ?_
    refine c_region ?_
    refine JL_run 1 [] [4] 0 ⟨[(4, vI 2)], []⟩ [] [] (by kernel_rfl) on wn ?_
    refine l_nil (q_then_normal ?_)
    refine c_ret ?_
    refine q_then_ret (q_ret (.inl rfl) [vI 2] rfl (fun bs w hS => ?_))
    refine ⟨?_, hS.kp⟩
    simp only [retOf, den, List.map_cons, List.map_nil]
    have hm : mSess (s.xs.map CSession.abs) n = 2 := by
      unfold mSess; rw [hml]
      first | rw [if_pos (by omega)] | rw [if_neg (by omega), if_pos (by omega)]
    rw [hm]
  | false =>
    have h1 := of_decide_eq_false h1
    refine JL_run 3 [] [12, 0, 1] 0 ⟨[(12, vB (decide ((1073741824 : Int) < n))), (0, .v (.slice s.A s.n s.c)), (1, vI n)], []⟩ [] [] (by kernel_rfl) on wn ?_
    refine l_nil (q_then_normal ?_)
    cases h2 : decide ((1073741824 : Int) < n) with
    | true =>
      have h2 := of_decide_eq_true h2
      refine c_if true rfl ?_
      refine c_seq ?_
      refine c_region ?_
      refine JL_run 1 [] [4] 0 ⟨[(4, vI 2)], []⟩ [] [] (by kernel_rfl) on wn ?_
      refine l_nil (q_then_normal ?_)
      refine c_ret ?_
      refine q_then_ret (q_ret (.inl rfl) [vI 2] rfl (fun bs w hS => ?_))
      refine ⟨?_, hS.kp⟩
      simp only [retOf, den, List.map_cons, List.map_nil]
      have hm : mSess (s.xs.map CSession.abs) n = 2 := by
        unfold mSess; rw [hml]
        first | rw [if_pos (by omega)] | rw [if_neg (by omega), if_pos (by omega)]
      rw [hm]
    | false =>
      have h2 := of_decide_eq_false h2
      refine c_if false rfl ?_
      refine c_skip ?_
      refine q_then_normal ?_
      refine c_seq ?_
      refine c_seq ?_
      refine c_region ?_
      refine JL_run 3 [] [15, 0, 1] 0 ⟨[(15, vB (decide ((4 : Int) < ((s.n : Nat) : Int)))), (0, .v (.slice s.A s.n s.c)), (1, vI n)], []⟩ [] [] (by kernel_rfl) on wn ?_
      refine l_nil (q_then_normal ?_)
      cases h3 : decide ((4 : Int) < ((s.n : Nat) : Int)) with
      | true =>
        have h3 := of_decide_eq_true h3
        refine c_if true rfl ?_
        refine c_seq ?_
        refine c_region ?_
        refine JL_run 1 [] [4] 0 ⟨[(4, vI 1)], []⟩ [] [] (by kernel_rfl) on wn ?_
        refine l_nil (q_then_normal ?_)
        refine c_ret ?_
        refine q_then_ret (q_ret (.inl rfl) [vI 1] rfl (fun bs w hS => ?_))
        refine ⟨?_, hS.kp⟩
        simp only [retOf, den, List.map_cons, List.map_nil]
        have hm : mSess (s.xs.map CSession.abs) n = 1 := by
          unfold mSess; rw [hml]
          first | rw [if_pos (by omega)] | rw [if_neg (by omega), if_pos (by omega)]
        rw [hm]
      | false =>
        have h3 := of_decide_eq_false h3
        refine c_if false rfl ?_
        refine c_skip ?_
        refine q_then_normal ?_
        refine c_seq ?_
        refine c_seq ?_
        refine c_region ?_
        refine JL_run 3 [] [18, 17, 16, 0, 1] 0 ⟨[(18, vI 0), (17, vI ((s.n : Nat) : Int)), (16, .v (.slice s.A s.n s.c)), (0, .v (.slice s.A s.n s.c)), (1, vI n)], []⟩ [] [] (by kernel_rfl) on wn ?_
        refine l_nil (q_then_normal ?_)
        refine c_block ?_
        refine c_loop (σ := Nat) (fun i => i ≤ s.n ∧ mSess (s.xs.map CSession.abs) n = firstF (sessF (s.xs.map CSession.abs) n) (s.n - i) i) (fun i => s.n - i) (fun i => []) (fun i => ⟨[(18, vI ((i : Nat) : Int)), (17, vI ((s.n : Nat) : Int)), (16, .v (.slice s.A s.n s.c)), (0, .v (.slice s.A s.n s.c)), (1, vI n)], []⟩) 0 ⟨Nat.zero_le _, by unfold mSess; rw [hml, if_neg (by omega), if_neg (by omega)]⟩ (s_start [18, 17, 16, 0, 1] 0 (by kernel_rfl) rfl) ?_
        rintro i ⟨hi, hI⟩
        refine c_seq ?_
        refine c_region ?_
        refine JL_run 1 [] [19, 18, 17, 16, 0, 1] 0 ⟨[(19, vB (decide (((i : Nat) : Int) < ((s.n : Nat) : Int)))), (18, vI ((i : Nat) : Int)), (17, vI ((s.n : Nat) : Int)), (16, .v (.slice s.A s.n s.c)), (0, .v (.slice s.A s.n s.c)), (1, vI n)], []⟩ [] [] (by kernel_rfl) on wn ?_
        refine l_nil (q_then_normal ?_)
        refine c_seq ?_
        cases h4 : decide (((i : Nat) : Int) < ((s.n : Nat) : Int)) with
        | true =>
          have h4 := of_decide_eq_true h4
          refine c_if true rfl ?_
          refine c_skip ?_
          refine q_then_normal ?_
          refine c_seq ?_
          refine c_block ?_
          refine c_seq ?_
          refine c_region ?_
          refine JL_run 6 [(1, .idx s.ad i), (2, .ext [.int .i64 (s.at i).client, .int .i64 (s.at i).id, .int .i64 (s.at i).acked, .int .i64 (s.at i).last, .slice (s.at i).replies.A (s.at i).replies.n (s.at i).replies.c])] [5, 6, 18, 17, 16, 0, 1] 1 ⟨[(5, vI ((i : Nat) : Int)), (6, .p 0 0), (18, vI ((i : Nat) : Int)), (17, vI ((s.n : Nat) : Int)), (16, .v (.slice s.A s.n s.c)), (0, .v (.slice s.A s.n s.c)), (1, vI n)], [⟨98, [vI (s.at i).client, vI (s.at i).id, vI (s.at i).acked, vI (s.at i).last, .v (.slice (s.at i).replies.A (s.at i).replies.n (s.at i).replies.c)]⟩]⟩ [s.A = some s.ad, ((i : Nat) : Int) = ((i : Nat) : Int), i < s.n] [(s.ad.add (i * 5), [.int .i64 (s.at i).client, .int .i64 (s.at i).id, .int .i64 (s.at i).acked, .int .i64 (s.at i).last, .slice (s.at i).replies.A (s.at i).replies.n (s.at i).replies.c])] (by kernel_rfl) (oc (Sl.ok.own (s := s) (i := i) oks (by omega)) (oc rfl (oc (by omega) on))) (fun w hk hr => ⟨(Sl.rd.all (s := s) (i := i) (Sl.rd.kp hs hk) (by omega) rfl), trivial⟩) ?_
          refine l_nil (q_then_normal ?_)
          refine c_seq ?_
          refine c_seq ?_
          refine c_region ?_
          refine JL_run 4 [] [26, 5, 6, 18, 17, 16, 0, 1] 1 ⟨[(26, vB (decide ((s.at i).client < 1))), (5, vI ((i : Nat) : Int)), (6, .p 0 0), (18, vI ((i : Nat) : Int)), (17, vI ((s.n : Nat) : Int)), (16, .v (.slice s.A s.n s.c)), (0, .v (.slice s.A s.n s.c)), (1, vI n)], [⟨98, [vI (s.at i).client, vI (s.at i).id, vI (s.at i).acked, vI (s.at i).last, .v (.slice (s.at i).replies.A (s.at i).replies.n (s.at i).replies.c)]⟩]⟩ [] [] (by kernel_rfl) on wn ?_
          cases h5 : decide ((s.at i).client < 1) with
          | true =>
            have h5 := of_decide_eq_true h5
            refine JL_run 32 [] [58, 5, 6, 18, 17, 16, 0, 1] 1 ⟨[(58, vB true), (5, vI ((i : Nat) : Int)), (6, .p 0 0), (18, vI ((i : Nat) : Int)), (17, vI ((s.n : Nat) : Int)), (16, .v (.slice s.A s.n s.c)), (0, .v (.slice s.A s.n s.c)), (1, vI n)], [⟨98, [vI (s.at i).client, vI (s.at i).id, vI (s.at i).acked, vI (s.at i).last, .v (.slice (s.at i).replies.A (s.at i).replies.n (s.at i).replies.c)]⟩]⟩ [] [] (by kernel_rfl) on wn ?_
            refine l_nil (q_then_normal ?_)
            refine c_if true rfl ?_
            refine c_seq ?_
            refine c_region ?_
            refine JL_run 1 [] [4] 0 ⟨[(4, vI 2)], []⟩ [] [] (by kernel_rfl) on wn ?_
            refine l_nil (q_then_normal ?_)
            refine c_ret ?_
            refine q_then_ret (q_block_ret (q_then_ret (q_then_ret (q_block_ret (q_then_ret (q_ret (.inl rfl) [vI 2] rfl (fun bs w hS => ?_)))))))
            refine ⟨?_, hS.kp⟩
            simp only [retOf, den, List.map_cons, List.map_nil]
            have hf : sessF (s.xs.map CSession.abs) n i = 2 := by
              unfold sessF
              simp only [hat, hq0, hq1, hq2, hq3]
              try simp only [h1, h2, h3, h4, h5, emp_size, ne_eq, not_true_eq_false, not_false_eq_true, true_or, or_true, false_or, or_false, and_true, true_and, and_false, false_and, and_self, or_self, if_true, if_false, Bool.true_eq_false, Bool.false_eq_true, reduceIte, Classical.not_not, Bool.and_eq_true, decide_eq_true_eq]
              repeat (first | rw [if_pos (by omega)] | rw [if_neg (by omega)])
              all_goals first | rfl | (exfalso; omega)
            rw [hI, firstF_here (by omega) hf (by omega)]
          | false =>
            have h5 := of_decide_eq_false h5
            refine JL_run 5 [] [31, 5, 6, 18, 17, 16, 0, 1] 1 ⟨[(31, vB (decide ((9 : Int) < (s.at i).client))), (5, vI ((i : Nat) : Int)), (6, .p 0 0), (18, vI ((i : Nat) : Int)), (17, vI ((s.n : Nat) : Int)), (16, .v (.slice s.A s.n s.c)), (0, .v (.slice s.A s.n s.c)), (1, vI n)], [⟨98, [vI (s.at i).client, vI (s.at i).id, vI (s.at i).acked, vI (s.at i).last, .v (.slice (s.at i).replies.A (s.at i).replies.n (s.at i).replies.c)]⟩]⟩ [] [] (by kernel_rfl) on wn ?_
            cases h6 : decide ((9 : Int) < (s.at i).client) with
            | true =>
              have h6 := of_decide_eq_true h6
              refine JL_run 27 [] [58, 5, 6, 18, 17, 16, 0, 1] 1 ⟨[(58, vB true), (5, vI ((i : Nat) : Int)), (6, .p 0 0), (18, vI ((i : Nat) : Int)), (17, vI ((s.n : Nat) : Int)), (16, .v (.slice s.A s.n s.c)), (0, .v (.slice s.A s.n s.c)), (1, vI n)], [⟨98, [vI (s.at i).client, vI (s.at i).id, vI (s.at i).acked, vI (s.at i).last, .v (.slice (s.at i).replies.A (s.at i).replies.n (s.at i).replies.c)]⟩]⟩ [] [] (by kernel_rfl) on wn ?_
              refine l_nil (q_then_normal ?_)
              refine c_if true rfl ?_
              refine c_seq ?_
              refine c_region ?_
              refine JL_run 1 [] [4] 0 ⟨[(4, vI 2)], []⟩ [] [] (by kernel_rfl) on wn ?_
              refine l_nil (q_then_normal ?_)
              refine c_ret ?_
              refine q_then_ret (q_block_ret (q_then_ret (q_then_ret (q_block_ret (q_then_ret (q_ret (.inl rfl) [vI 2] rfl (fun bs w hS => ?_)))))))
              refine ⟨?_, hS.kp⟩
              simp only [retOf, den, List.map_cons, List.map_nil]
              have hf : sessF (s.xs.map CSession.abs) n i = 2 := by
                unfold sessF
                simp only [hat, hq0, hq1, hq2, hq3]
                try simp only [h1, h2, h3, h4, h5, h6, emp_size, ne_eq, not_true_eq_false, not_false_eq_true, true_or, or_true, false_or, or_false, and_true, true_and, and_false, false_and, and_self, or_self, if_true, if_false, Bool.true_eq_false, Bool.false_eq_true, reduceIte, Classical.not_not, Bool.and_eq_true, decide_eq_true_eq]
                repeat (first | rw [if_pos (by omega)] | rw [if_neg (by omega)])
                all_goals first | rfl | (exfalso; omega)
              rw [hI, firstF_here (by omega) hf (by omega)]
            | false =>
              have h6 := of_decide_eq_false h6
              refine JL_run 5 [] [36, 5, 6, 18, 17, 16, 0, 1] 1 ⟨[(36, vB (decide ((s.at i).acked < 0))), (5, vI ((i : Nat) : Int)), (6, .p 0 0), (18, vI ((i : Nat) : Int)), (17, vI ((s.n : Nat) : Int)), (16, .v (.slice s.A s.n s.c)), (0, .v (.slice s.A s.n s.c)), (1, vI n)], [⟨98, [vI (s.at i).client, vI (s.at i).id, vI (s.at i).acked, vI (s.at i).last, .v (.slice (s.at i).replies.A (s.at i).replies.n (s.at i).replies.c)]⟩]⟩ [] [] (by kernel_rfl) on wn ?_
              cases h7 : decide ((s.at i).acked < 0) with
              | true =>
                have h7 := of_decide_eq_true h7
                refine JL_run 22 [] [58, 5, 6, 18, 17, 16, 0, 1] 1 ⟨[(58, vB true), (5, vI ((i : Nat) : Int)), (6, .p 0 0), (18, vI ((i : Nat) : Int)), (17, vI ((s.n : Nat) : Int)), (16, .v (.slice s.A s.n s.c)), (0, .v (.slice s.A s.n s.c)), (1, vI n)], [⟨98, [vI (s.at i).client, vI (s.at i).id, vI (s.at i).acked, vI (s.at i).last, .v (.slice (s.at i).replies.A (s.at i).replies.n (s.at i).replies.c)]⟩]⟩ [] [] (by kernel_rfl) on wn ?_
                refine l_nil (q_then_normal ?_)
                refine c_if true rfl ?_
                refine c_seq ?_
                refine c_region ?_
                refine JL_run 1 [] [4] 0 ⟨[(4, vI 2)], []⟩ [] [] (by kernel_rfl) on wn ?_
                refine l_nil (q_then_normal ?_)
                refine c_ret ?_
                refine q_then_ret (q_block_ret (q_then_ret (q_then_ret (q_block_ret (q_then_ret (q_ret (.inl rfl) [vI 2] rfl (fun bs w hS => ?_)))))))
                refine ⟨?_, hS.kp⟩
                simp only [retOf, den, List.map_cons, List.map_nil]
                have hf : sessF (s.xs.map CSession.abs) n i = 2 := by
                  unfold sessF
                  simp only [hat, hq0, hq1, hq2, hq3]
                  try simp only [h1, h2, h3, h4, h5, h6, h7, emp_size, ne_eq, not_true_eq_false, not_false_eq_true, true_or, or_true, false_or, or_false, and_true, true_and, and_false, false_and, and_self, or_self, if_true, if_false, Bool.true_eq_false, Bool.false_eq_true, reduceIte, Classical.not_not, Bool.and_eq_true, decide_eq_true_eq]
                  repeat (first | rw [if_pos (by omega)] | rw [if_neg (by omega)])
                  all_goals first | rfl | (exfalso; omega)
                rw [hI, firstF_here (by omega) hf (by omega)]
              | false =>
                have h7 := of_decide_eq_false h7
                refine JL_run 5 [] [41, 5, 6, 18, 17, 16, 0, 1] 1 ⟨[(41, vB (decide ((1048576 : Int) < (s.at i).acked))), (5, vI ((i : Nat) : Int)), (6, .p 0 0), (18, vI ((i : Nat) : Int)), (17, vI ((s.n : Nat) : Int)), (16, .v (.slice s.A s.n s.c)), (0, .v (.slice s.A s.n s.c)), (1, vI n)], [⟨98, [vI (s.at i).client, vI (s.at i).id, vI (s.at i).acked, vI (s.at i).last, .v (.slice (s.at i).replies.A (s.at i).replies.n (s.at i).replies.c)]⟩]⟩ [] [] (by kernel_rfl) on wn ?_
                cases h8 : decide ((1048576 : Int) < (s.at i).acked) with
                | true =>
                  have h8 := of_decide_eq_true h8
                  refine JL_run 17 [] [58, 5, 6, 18, 17, 16, 0, 1] 1 ⟨[(58, vB true), (5, vI ((i : Nat) : Int)), (6, .p 0 0), (18, vI ((i : Nat) : Int)), (17, vI ((s.n : Nat) : Int)), (16, .v (.slice s.A s.n s.c)), (0, .v (.slice s.A s.n s.c)), (1, vI n)], [⟨98, [vI (s.at i).client, vI (s.at i).id, vI (s.at i).acked, vI (s.at i).last, .v (.slice (s.at i).replies.A (s.at i).replies.n (s.at i).replies.c)]⟩]⟩ [] [] (by kernel_rfl) on wn ?_
                  refine l_nil (q_then_normal ?_)
                  refine c_if true rfl ?_
                  refine c_seq ?_
                  refine c_region ?_
                  refine JL_run 1 [] [4] 0 ⟨[(4, vI 2)], []⟩ [] [] (by kernel_rfl) on wn ?_
                  refine l_nil (q_then_normal ?_)
                  refine c_ret ?_
                  refine q_then_ret (q_block_ret (q_then_ret (q_then_ret (q_block_ret (q_then_ret (q_ret (.inl rfl) [vI 2] rfl (fun bs w hS => ?_)))))))
                  refine ⟨?_, hS.kp⟩
                  simp only [retOf, den, List.map_cons, List.map_nil]
                  have hf : sessF (s.xs.map CSession.abs) n i = 2 := by
                    unfold sessF
                    simp only [hat, hq0, hq1, hq2, hq3]
                    try simp only [h1, h2, h3, h4, h5, h6, h7, h8, emp_size, ne_eq, not_true_eq_false, not_false_eq_true, true_or, or_true, false_or, or_false, and_true, true_and, and_false, false_and, and_self, or_self, if_true, if_false, Bool.true_eq_false, Bool.false_eq_true, reduceIte, Classical.not_not, Bool.and_eq_true, decide_eq_true_eq]
                    repeat (first | rw [if_pos (by omega)] | rw [if_neg (by omega)])
                    all_goals first | rfl | (exfalso; omega)
                  rw [hI, firstF_here (by omega) hf (by omega)]
                | false =>
                  have h8 := of_decide_eq_false h8
                  refine JL_run 5 [] [46, 5, 6, 18, 17, 16, 0, 1] 1 ⟨[(46, vB (decide ((s.at i).id < 1))), (5, vI ((i : Nat) : Int)), (6, .p 0 0), (18, vI ((i : Nat) : Int)), (17, vI ((s.n : Nat) : Int)), (16, .v (.slice s.A s.n s.c)), (0, .v (.slice s.A s.n s.c)), (1, vI n)], [⟨98, [vI (s.at i).client, vI (s.at i).id, vI (s.at i).acked, vI (s.at i).last, .v (.slice (s.at i).replies.A (s.at i).replies.n (s.at i).replies.c)]⟩]⟩ [] [] (by kernel_rfl) on wn ?_
                  cases h9 : decide ((s.at i).id < 1) with
                  | true =>
                    have h9 := of_decide_eq_true h9
                    refine JL_run 12 [] [58, 5, 6, 18, 17, 16, 0, 1] 1 ⟨[(58, vB true), (5, vI ((i : Nat) : Int)), (6, .p 0 0), (18, vI ((i : Nat) : Int)), (17, vI ((s.n : Nat) : Int)), (16, .v (.slice s.A s.n s.c)), (0, .v (.slice s.A s.n s.c)), (1, vI n)], [⟨98, [vI (s.at i).client, vI (s.at i).id, vI (s.at i).acked, vI (s.at i).last, .v (.slice (s.at i).replies.A (s.at i).replies.n (s.at i).replies.c)]⟩]⟩ [] [] (by kernel_rfl) on wn ?_
                    refine l_nil (q_then_normal ?_)
                    refine c_if true rfl ?_
                    refine c_seq ?_
                    refine c_region ?_
                    refine JL_run 1 [] [4] 0 ⟨[(4, vI 2)], []⟩ [] [] (by kernel_rfl) on wn ?_
                    refine l_nil (q_then_normal ?_)
                    refine c_ret ?_
                    refine q_then_ret (q_block_ret (q_then_ret (q_then_ret (q_block_ret (q_then_ret (q_ret (.inl rfl) [vI 2] rfl (fun bs w hS => ?_)))))))
                    refine ⟨?_, hS.kp⟩
                    simp only [retOf, den, List.map_cons, List.map_nil]
                    have hf : sessF (s.xs.map CSession.abs) n i = 2 := by
                      unfold sessF
                      simp only [hat, hq0, hq1, hq2, hq3]
                      try simp only [h1, h2, h3, h4, h5, h6, h7, h8, h9, emp_size, ne_eq, not_true_eq_false, not_false_eq_true, true_or, or_true, false_or, or_false, and_true, true_and, and_false, false_and, and_self, or_self, if_true, if_false, Bool.true_eq_false, Bool.false_eq_true, reduceIte, Classical.not_not, Bool.and_eq_true, decide_eq_true_eq]
                      repeat (first | rw [if_pos (by omega)] | rw [if_neg (by omega)])
                      all_goals first | rfl | (exfalso; omega)
                    rw [hI, firstF_here (by omega) hf (by omega)]
                  | false =>
                    have h9 := of_decide_eq_false h9
                    refine JL_run 7 [] [53, 5, 6, 18, 17, 16, 0, 1] 1 ⟨[(53, vB (decide ((s.at i).last < (s.at i).id))), (5, vI ((i : Nat) : Int)), (6, .p 0 0), (18, vI ((i : Nat) : Int)), (17, vI ((s.n : Nat) : Int)), (16, .v (.slice s.A s.n s.c)), (0, .v (.slice s.A s.n s.c)), (1, vI n)], [⟨98, [vI (s.at i).client, vI (s.at i).id, vI (s.at i).acked, vI (s.at i).last, .v (.slice (s.at i).replies.A (s.at i).replies.n (s.at i).replies.c)]⟩]⟩ [] [] (by kernel_rfl) on wn ?_
                    cases h10 : decide ((s.at i).last < (s.at i).id) with
                    | true =>
                      have h10 := of_decide_eq_true h10
                      refine JL_run 5 [] [58, 5, 6, 18, 17, 16, 0, 1] 1 ⟨[(58, vB true), (5, vI ((i : Nat) : Int)), (6, .p 0 0), (18, vI ((i : Nat) : Int)), (17, vI ((s.n : Nat) : Int)), (16, .v (.slice s.A s.n s.c)), (0, .v (.slice s.A s.n s.c)), (1, vI n)], [⟨98, [vI (s.at i).client, vI (s.at i).id, vI (s.at i).acked, vI (s.at i).last, .v (.slice (s.at i).replies.A (s.at i).replies.n (s.at i).replies.c)]⟩]⟩ [] [] (by kernel_rfl) on wn ?_
                      refine l_nil (q_then_normal ?_)
                      refine c_if true rfl ?_
                      refine c_seq ?_
                      refine c_region ?_
                      refine JL_run 1 [] [4] 0 ⟨[(4, vI 2)], []⟩ [] [] (by kernel_rfl) on wn ?_
                      refine l_nil (q_then_normal ?_)
                      refine c_ret ?_
                      refine q_then_ret (q_block_ret (q_then_ret (q_then_ret (q_block_ret (q_then_ret (q_ret (.inl rfl) [vI 2] rfl (fun bs w hS => ?_)))))))
                      refine ⟨?_, hS.kp⟩
                      simp only [retOf, den, List.map_cons, List.map_nil]
                      have hf : sessF (s.xs.map CSession.abs) n i = 2 := by
                        unfold sessF
                        simp only [hat, hq0, hq1, hq2, hq3]
                        try simp only [h1, h2, h3, h4, h5, h6, h7, h8, h9, h10, emp_size, ne_eq, not_true_eq_false, not_false_eq_true, true_or, or_true, false_or, or_false, and_true, true_and, and_false, false_and, and_self, or_self, if_true, if_false, Bool.true_eq_false, Bool.false_eq_true, reduceIte, Classical.not_not, Bool.and_eq_true, decide_eq_true_eq]
                        repeat (first | rw [if_pos (by omega)] | rw [if_neg (by omega)])
                        all_goals first | rfl | (exfalso; omega)
                      rw [hI, firstF_here (by omega) hf (by omega)]
                    | false =>
                      have h10 := of_decide_eq_false h10
                      refine JL_run 5 [] [58, 5, 6, 18, 17, 16, 0, 1] 1 ⟨[(58, vB (decide (n < (s.at i).last))), (5, vI ((i : Nat) : Int)), (6, .p 0 0), (18, vI ((i : Nat) : Int)), (17, vI ((s.n : Nat) : Int)), (16, .v (.slice s.A s.n s.c)), (0, .v (.slice s.A s.n s.c)), (1, vI n)], [⟨98, [vI (s.at i).client, vI (s.at i).id, vI (s.at i).acked, vI (s.at i).last, .v (.slice (s.at i).replies.A (s.at i).replies.n (s.at i).replies.c)]⟩]⟩ [] [] (by kernel_rfl) on wn ?_
                      refine l_nil (q_then_normal ?_)
                      cases h11 : decide (n < (s.at i).last) with
                      | true =>
                        have h11 := of_decide_eq_true h11
                        refine c_if true rfl ?_
                        refine c_seq ?_
                        refine c_region ?_
                        refine JL_run 1 [] [4] 0 ⟨[(4, vI 2)], []⟩ [] [] (by kernel_rfl) on wn ?_
                        refine l_nil (q_then_normal ?_)
                        refine c_ret ?_
                        refine q_then_ret (q_block_ret (q_then_ret (q_then_ret (q_block_ret (q_then_ret (q_ret (.inl rfl) [vI 2] rfl (fun bs w hS => ?_)))))))
                        refine ⟨?_, hS.kp⟩
                        simp only [retOf, den, List.map_cons, List.map_nil]
                        have hf : sessF (s.xs.map CSession.abs) n i = 2 := by
                          unfold sessF
                          simp only [hat, hq0, hq1, hq2, hq3]
                          try simp only [h1, h2, h3, h4, h5, h6, h7, h8, h9, h10, h11, emp_size, ne_eq, not_true_eq_false, not_false_eq_true, true_or, or_true, false_or, or_false, and_true, true_and, and_false, false_and, and_self, or_self, if_true, if_false, Bool.true_eq_false, Bool.false_eq_true, reduceIte, Classical.not_not, Bool.and_eq_true, decide_eq_true_eq]
                          repeat (first | rw [if_pos (by omega)] | rw [if_neg (by omega)])
                          all_goals first | rfl | (exfalso; omega)
                        rw [hI, firstF_here (by omega) hf (by omega)]
                      | false =>
                        have h11 := of_decide_eq_false h11
                        refine c_if false rfl ?_
                        refine c_skip ?_
                        refine q_then_normal ?_
                        refine c_seq ?_
                        refine c_seq ?_
                        refine c_region ?_
                        refine JL_run 1 [] [59, 5, 6, 18, 17, 16, 0, 1] 1 ⟨[(59, .v (.agg #[.int .i64 (s.at i).client, .int .i64 (s.at i).id, .int .i64 (s.at i).acked, .int .i64 (s.at i).last, .slice (s.at i).replies.A (s.at i).replies.n (s.at i).replies.c])), (5, vI ((i : Nat) : Int)), (6, .p 0 0), (18, vI ((i : Nat) : Int)), (17, vI ((s.n : Nat) : Int)), (16, .v (.slice s.A s.n s.c)), (0, .v (.slice s.A s.n s.c)), (1, vI n)], [⟨98, [vI (s.at i).client, vI (s.at i).id, vI (s.at i).acked, vI (s.at i).last, .v (.slice (s.at i).replies.A (s.at i).replies.n (s.at i).replies.c)]⟩]⟩ [] [] (by kernel_rfl) on wn ?_
                        refine l_pure 98 [] [.v (.agg #[.int .i64 (s.at i).client, .int .i64 (s.at i).id, .int .i64 (s.at i).acked, .int .i64 (s.at i).last, .slice (s.at i).replies.A (s.at i).replies.n (s.at i).replies.c])] (.bool (mReplies (s.at i).abs)) Try.call98 rfl rfl rfl rfl (fun bs w hS => session_replies (s.at i) w (Sl.rd.sub (s := s) (i := i) (Sl.rd.kp hs hS.kp) (by omega)) (by first | exact ⟨by omega, by omega⟩ | (simp only [] at *; exact ⟨by omega, by omega⟩))) ?_
                        refine JL_run 1 [] [61, 5, 6, 18, 17, 16, 0, 1] 1 ⟨[(61, vB (!(mReplies (s.at i).abs))), (5, vI ((i : Nat) : Int)), (6, .p 0 0), (18, vI ((i : Nat) : Int)), (17, vI ((s.n : Nat) : Int)), (16, .v (.slice s.A s.n s.c)), (0, .v (.slice s.A s.n s.c)), (1, vI n)], [⟨98, [vI (s.at i).client, vI (s.at i).id, vI (s.at i).acked, vI (s.at i).last, .v (.slice (s.at i).replies.A (s.at i).replies.n (s.at i).replies.c)]⟩]⟩ [] [] (by kernel_rfl) on wn ?_
                        refine l_nil (q_then_normal ?_)
                        cases h12 : mReplies (s.at i).abs with
                        | true =>
                          refine c_if false rfl ?_
                          refine c_skip ?_
                          refine q_then_normal ?_
                          refine c_seq ?_
                          refine c_draw 13 [(0, false), (1, false), (2, false), (3, false), (4, false), (5, false), (6, false), (7, false), (8, false), (9, false), (10, false), (11, false), (12, false)] [] [] Try_mixed (by kernel_rfl) (pq_then (pq_block (pq_then (pq_then (pq_block (pq_then pq_body)))))) (List.Sublist.refl _) ?_
                          refine h_quiet [] 3 [(64, vB (decide ((0 : Int) < ((i : Nat) : Int)))), (63, vB (decide ((0 : Int) < ((i : Nat) : Int)))), (62, vI ((i : Nat) : Int)), (61, vB false), (5, vI ((i : Nat) : Int)), (6, .p 0 0), (18, vI ((i : Nat) : Int)), (17, vI ((s.n : Nat) : Int)), (16, .v (.slice s.A s.n s.c)), (0, .v (.slice s.A s.n s.c)), (1, vI n)] [] [] rfl rfl (by kernel_rfl) on wn ?_
                          cases h13 : decide ((0 : Int) < ((i : Nat) : Int)) with
                          | true =>
                            have h13 := of_decide_eq_true h13
                            refine h_quiet [(6, .idx s.ad (i - 1)), (8, .ext [.int .i64 (s.at (i - 1)).client])] 10 [(74, vB (decide ((s.at i).client ≤ (s.at (i - 1)).client))), (73, vB (decide ((s.at i).client ≤ (s.at (i - 1)).client))), (72, vI (s.at i).client), (71, .p 0 0), (70, vI (s.at (i - 1)).client), (69, .v (.pointer (some ((s.ad.add ((i - 1) * 5)).add 0)))), (68, .v (.pointer (some (s.ad.add ((i - 1) * 5))))), (67, vI (((i : Nat) : Int) - 1)), (66, vI ((i : Nat) : Int)), (65, .v (.slice s.A s.n s.c)), (64, vB true), (63, vB true), (62, vI ((i : Nat) : Int)), (61, vB false), (5, vI ((i : Nat) : Int)), (6, .p 0 0), (18, vI ((i : Nat) : Int)), (17, vI ((s.n : Nat) : Int)), (16, .v (.slice s.A s.n s.c)), (0, .v (.slice s.A s.n s.c)), (1, vI n)] [inR (((i : Nat) : Int) - 1), s.A = some s.ad, ((i : Nat) : Int) - 1 = (((i - 1) : Nat) : Int), (i - 1) < s.n] [((s.ad.add ((i - 1) * 5)).add 0, [.int .i64 (s.at (i - 1)).client])] rfl rfl (by kernel_rfl) (oc (by unfold inR; omega) (oc (Sl.ok.own (s := s) (i := (i - 1)) oks (by omega)) (oc (by omega) (oc (by omega) on)))) (fun w hk hr => ⟨(Sl.rd.fld (s := s) (i := (i - 1)) (Sl.rd.kp hs hk) (by omega) 0 1 rfl), trivial⟩) ?_
                            refine h_nil ?_
                            refine l_nil (q_then_normal ?_)
                            cases h14 : decide ((s.at i).client ≤ (s.at (i - 1)).client) with
                            | true =>
                              have h14 := of_decide_eq_true h14
                              refine c_if true rfl ?_
                              refine c_seq ?_
                              refine c_region ?_
                              refine JL_run 1 [] [4] 0 ⟨[(4, vI 14)], []⟩ [] [] (by kernel_rfl) on wn ?_
                              refine l_nil (q_then_normal ?_)
                              refine c_ret ?_
                              refine q_block_ret (q_then_ret (q_then_ret (q_block_ret (q_then_ret (q_ret (.inl rfl) [vI 14] rfl (fun bs w hS => ?_))))))
                              refine ⟨?_, hS.kp⟩
                              simp only [retOf, den, List.map_cons, List.map_nil]
                              have hf : sessF (s.xs.map CSession.abs) n i = 14 := by
                                unfold sessF
                                simp only [hat, hq0, hq1, hq2, hq3]
                                try simp only [h1, h2, h3, h4, h5, h6, h7, h8, h9, h10, h11, h12, h13, h14, emp_size, ne_eq, not_true_eq_false, not_false_eq_true, true_or, or_true, false_or, or_false, and_true, true_and, and_false, false_and, and_self, or_self, if_true, if_false, Bool.true_eq_false, Bool.false_eq_true, reduceIte, Classical.not_not, Bool.and_eq_true, decide_eq_true_eq]
                                repeat (first | rw [if_pos (by omega)] | rw [if_neg (by omega)])
                                all_goals first | rfl | (exfalso; omega)
                              rw [hI, firstF_here (by omega) hf (by omega)]
                            | false =>
                              have h14 := of_decide_eq_false h14
                              refine c_if false rfl ?_
                              refine c_skip ?_
                              refine q_block_normal (q_then_normal ?_)
                              refine c_region ?_
                              refine JL_run 2 [] [18, 17, 16, 0, 1] 0 ⟨[(18, vI (((i : Nat) : Int) + 1)), (17, vI ((s.n : Nat) : Int)), (16, .v (.slice s.A s.n s.c)), (0, .v (.slice s.A s.n s.c)), (1, vI n)], []⟩ [inR (((i : Nat) : Int) + 1)] [] (by kernel_rfl) (oc (by unfold inR; omega) on) wn ?_
                              have hf0 : sessF (s.xs.map CSession.abs) n i = 0 := by
                                unfold sessF
                                simp only [hat, hq0, hq1, hq2, hq3]
                                try simp only [h1, h2, h3, h4, h5, h6, h7, h8, h9, h10, h11, h12, h13, h14, emp_size, ne_eq, not_true_eq_false, not_false_eq_true, true_or, or_true, false_or, or_false, and_true, true_and, and_false, false_and, and_self, or_self, if_true, if_false, Bool.true_eq_false, Bool.false_eq_true, reduceIte, Classical.not_not, Bool.and_eq_true, decide_eq_true_eq]
                                repeat (first | rw [if_pos (by omega)] | rw [if_neg (by omega)])
                                all_goals first | rfl | (exfalso; omega)
                              refine l_nil (q_loop (x := (i : Nat)) ((i + 1) : Nat) ⟨by omega, by rw [hI]; exact firstF_step (by omega) hf0⟩ (by omega) (s_start [18, 17, 16, 0, 1] 0 (by kernel_rfl) rfl))
                          | false =>
                            have h13 := of_decide_eq_false h13
                            refine h_quiet [] 10 [(74, vB false), (73, .v (undef)), (72, .v (undef)), (71, .v (undef)), (70, .v (undef)), (69, .v (undef)), (68, .v (undef)), (67, .v (undef)), (66, .v (undef)), (65, .v (undef)), (64, vB false), (63, vB false), (62, vI ((i : Nat) : Int)), (61, vB false), (5, vI ((i : Nat) : Int)), (6, .p 0 0), (18, vI ((i : Nat) : Int)), (17, vI ((s.n : Nat) : Int)), (16, .v (.slice s.A s.n s.c)), (0, .v (.slice s.A s.n s.c)), (1, vI n)] [] [] rfl rfl (by kernel_rfl) on wn ?_
                            refine h_nil ?_
                            refine l_nil (q_then_normal ?_)
                            refine c_if false rfl ?_
                            refine c_skip ?_
                            refine q_block_normal (q_then_normal ?_)
                            refine c_region ?_
                            refine JL_run 2 [] [18, 17, 16, 0, 1] 0 ⟨[(18, vI (((i : Nat) : Int) + 1)), (17, vI ((s.n : Nat) : Int)), (16, .v (.slice s.A s.n s.c)), (0, .v (.slice s.A s.n s.c)), (1, vI n)], []⟩ [inR (((i : Nat) : Int) + 1)] [] (by kernel_rfl) (oc (by unfold inR; omega) on) wn ?_
                            have hf0 : sessF (s.xs.map CSession.abs) n i = 0 := by
                              unfold sessF
                              simp only [hat, hq0, hq1, hq2, hq3]
                              try simp only [h1, h2, h3, h4, h5, h6, h7, h8, h9, h10, h11, h12, h13, emp_size, ne_eq, not_true_eq_false, not_false_eq_true, true_or, or_true, false_or, or_false, and_true, true_and, and_false, false_and, and_self, or_self, if_true, if_false, Bool.true_eq_false, Bool.false_eq_true, reduceIte, Classical.not_not, Bool.and_eq_true, decide_eq_true_eq]
                              repeat (first | rw [if_pos (by omega)] | rw [if_neg (by omega)])
                              all_goals first | rfl | (exfalso; omega)
                            refine l_nil (q_loop (x := (i : Nat)) ((i + 1) : Nat) ⟨by omega, by rw [hI]; exact firstF_step (by omega) hf0⟩ (by omega) (s_start [18, 17, 16, 0, 1] 0 (by kernel_rfl) rfl))
                        | false =>
                          refine c_if true rfl ?_
                          refine c_seq ?_
                          refine c_region ?_
                          refine JL_run 1 [] [4] 0 ⟨[(4, vI 4)], []⟩ [] [] (by kernel_rfl) on wn ?_
                          refine l_nil (q_then_normal ?_)
                          refine c_ret ?_
                          refine q_then_ret (q_block_ret (q_then_ret (q_then_ret (q_block_ret (q_then_ret (q_ret (.inl rfl) [vI 4] rfl (fun bs w hS => ?_)))))))
                          refine ⟨?_, hS.kp⟩
                          simp only [retOf, den, List.map_cons, List.map_nil]
                          have hf : sessF (s.xs.map CSession.abs) n i = 4 := by
                            unfold sessF
                            simp only [hat, hq0, hq1, hq2, hq3]
                            try simp only [h1, h2, h3, h4, h5, h6, h7, h8, h9, h10, h11, h12, emp_size, ne_eq, not_true_eq_false, not_false_eq_true, true_or, or_true, false_or, or_false, and_true, true_and, and_false, false_and, and_self, or_self, if_true, if_false, Bool.true_eq_false, Bool.false_eq_true, reduceIte, Classical.not_not, Bool.and_eq_true, decide_eq_true_eq]
                            repeat (first | rw [if_pos (by omega)] | rw [if_neg (by omega)])
                            all_goals first | rfl | (exfalso; omega)
                          rw [hI, firstF_here (by omega) hf (by omega)]
        | false =>
          have h4 := of_decide_eq_false h4
          refine c_if false rfl ?_
          refine c_exit ?_
          refine q_then_exit (q_then_exit (q_block_hit (q_then_normal ?_)))
          refine c_seq ?_
          refine c_region ?_
          refine JL_run 1 [] [4] 0 ⟨[(4, vI 0)], []⟩ [] [] (by kernel_rfl) on wn ?_
          refine l_nil (q_then_normal ?_)
          refine c_ret ?_
          refine q_ret (.inl rfl) [vI 0] rfl (fun bs w hS => ?_)
          refine ⟨?_, hS.kp⟩
          simp only [retOf, den, List.map_cons, List.map_nil]
          rw [hI, firstF_end (by omega)]

theorem ref_SessionsFault {B : Nat → Prop} (s : Sl CSession) (n : Int) (w : World) (hs : s.rd B w) : Calls Try.prog 63 #[.slice s.A s.n s.c, .int .i64 n] w fun e w' => e = .returned (.int .i64 (mSess (s.xs.map CSession.abs) n)) ∧ Kp [] w w' := by
  have oks := Sl.rd.ok hs
  have ncs := Sl.ok.nc oks
  have hns : s.n = s.xs.length := rfl
  have hat : ∀ q, (s.xs.map CSession.abs).getD q default = (s.at q).abs := fun q => sabs_at q
  have hq0 : ∀ q, (s.at q).abs.client = (s.at q).client := fun _ => rfl
  have hq1 : ∀ q, (s.at q).abs.id = (s.at q).id := fun _ => rfl
  have hq2 : ∀ q, (s.at q).abs.acked = (s.at q).acked := fun _ => rfl
  have hq3 : ∀ q, (s.at q).abs.last = (s.at q).last := fun _ => rfl
  have hml : (s.xs.map CSession.abs).length = s.n := by simp
  refine calls_J0 65 Try.func63 rfl rfl [.slice s.A s.n s.c, .int .i64 n] rfl ?_
  refine c_seq ?_
  refine c_region ?_
  refine JL_run 1 [] [0, 1] 0 ⟨[(0, .v (.slice s.A s.n s.c)), (1, vI n)], []⟩ [] [] (by kernel_rfl) on wn ?_
  refine l_nil (q_then_normal ?_)
  refine c_seq ?_
  refine c_seq ?_
  refine c_region ?_
  refine JL_run 1 [] [7, 0, 1] 0 ⟨[(7, vI n), (0, .v (.slice s.A s.n s.c)), (1, vI n)], []⟩ [] [] (by kernel_rfl) on wn ?_
  refine l_pure 68 [] [vI n, vI 0, vI 1073741824] (.bool (inB n 0 1073741824)) Try.call68 rfl rfl rfl rfl (fun bs w hS => ref_In _ _ _ w) ?_
  refine JL_run 1 [] [9, 0, 1] 0 ⟨[(9, vB (!(inB n 0 1073741824))), (0, .v (.slice s.A s.n s.c)), (1, vI n)], []⟩ [] [] (by kernel_rfl) on wn ?_
  refine l_nil (q_then_normal ?_)
  cases h1 : inB n 0 1073741824 with
  | true =>
    simp only [inB, Bool.and_eq_true, Bool.and_eq_false_iff, decide_eq_true_eq, decide_eq_false_iff_not] at h1
    refine c_if false rfl ?_
    refine c_skip ?_
    refine q_then_normal ?_
    refine c_seq ?_
    refine c_seq ?_
    refine c_region ?_
    refine JL_run 3 [] [12, 0, 1] 0 ⟨[(12, vB (decide ((4 : Int) < ((s.n : Nat) : Int)))), (0, .v (.slice s.A s.n s.c)), (1, vI n)], []⟩ [] [] (by kernel_rfl) on wn ?_
    refine l_nil (q_then_normal ?_)
    cases h2 : decide ((4 : Int) < ((s.n : Nat) : Int)) with
    | true =>
      have h2 := of_decide_eq_true h2
      refine c_if true rfl ?_
      refine c_seq ?_
      refine c_region ?_
      refine JL_run 1 [] [4] 0 ⟨[(4, vI 1)], []⟩ [] [] (by kernel_rfl) on wn ?_
      refine l_nil (q_then_normal ?_)
      refine c_ret ?_
      refine q_then_ret (q_ret (.inl rfl) [vI 1] rfl (fun bs w hS => ?_))
      refine ⟨?_, hS.kp⟩
      simp only [retOf, den, List.map_cons, List.map_nil]
      have hm : mSess (s.xs.map CSession.abs) n = 1 := by
        unfold mSess; rw [hml]
        first | rw [if_pos (by omega)] | rw [if_neg (by omega), if_pos (by omega)]
      rw [hm]
    | false =>
      have h2 := of_decide_eq_false h2
      refine c_if false rfl ?_
      refine c_skip ?_
      refine q_then_normal ?_
      refine c_seq ?_
      refine c_seq ?_
      refine c_region ?_
      refine JL_run 1 [] [5, 0, 1] 0 ⟨[(5, vI 0), (0, .v (.slice s.A s.n s.c)), (1, vI n)], []⟩ [] [] (by kernel_rfl) on wn ?_
      refine l_nil (q_then_normal ?_)
      refine c_block ?_
      refine c_loop (σ := Nat) (fun i => i ≤ s.n ∧ mSess (s.xs.map CSession.abs) n = firstF (sessF (s.xs.map CSession.abs) n) (s.n - i) i) (fun i => s.n - i) (fun i => []) (fun i => ⟨[(5, vI ((i : Nat) : Int)), (0, .v (.slice s.A s.n s.c)), (1, vI n)], []⟩) 0 ⟨Nat.zero_le _, by unfold mSess; rw [hml, if_neg (by omega), if_neg (by omega)]⟩ (s_start [5, 0, 1] 0 (by kernel_rfl) rfl) ?_
      rintro i ⟨hi, hI⟩
      refine c_seq ?_
      refine c_seq ?_
      refine c_region ?_
      refine JL_run 4 [] [16, 5, 0, 1] 0 ⟨[(16, vB (decide (((i : Nat) : Int) < ((s.n : Nat) : Int)))), (5, vI ((i : Nat) : Int)), (0, .v (.slice s.A s.n s.c)), (1, vI n)], []⟩ [] [] (by kernel_rfl) on wn ?_
      refine l_nil (q_then_normal ?_)
      cases h3 : decide (((i : Nat) : Int) < ((s.n : Nat) : Int)) with
      | true =>
        have h3 := of_decide_eq_true h3
        refine c_if true rfl ?_
        refine c_skip ?_
        refine q_then_normal ?_
        refine c_seq ?_
        refine c_block ?_
        refine c_seq ?_
        refine c_region ?_
        refine JL_run 6 [(2, .idx s.ad i), (3, .ext [.int .i64 (s.at i).client, .int .i64 (s.at i).id, .int .i64 (s.at i).acked, .int .i64 (s.at i).last, .slice (s.at i).replies.A (s.at i).replies.n (s.at i).replies.c])] [6, 5, 0, 1] 1 ⟨[(6, .p 0 0), (5, vI ((i : Nat) : Int)), (0, .v (.slice s.A s.n s.c)), (1, vI n)], [⟨98, [vI (s.at i).client, vI (s.at i).id, vI (s.at i).acked, vI (s.at i).last, .v (.slice (s.at i).replies.A (s.at i).replies.n (s.at i).replies.c)]⟩]⟩ [s.A = some s.ad, ((i : Nat) : Int) = ((i : Nat) : Int), i < s.n] [(s.ad.add (i * 5), [.int .i64 (s.at i).client, .int .i64 (s.at i).id, .int .i64 (s.at i).acked, .int .i64 (s.at i).last, .slice (s.at i).replies.A (s.at i).replies.n (s.at i).replies.c])] (by kernel_rfl) (oc (Sl.ok.own (s := s) (i := i) oks (by omega)) (oc rfl (oc (by omega) on))) (fun w hk hr => ⟨(Sl.rd.all (s := s) (i := i) (Sl.rd.kp hs hk) (by omega) rfl), trivial⟩) ?_
        refine l_nil (q_then_normal ?_)
        refine c_seq ?_
        refine c_seq ?_
        refine c_region ?_
        refine JL_run 2 [] [24, 6, 5, 0, 1] 1 ⟨[(24, vI (s.at i).client), (6, .p 0 0), (5, vI ((i : Nat) : Int)), (0, .v (.slice s.A s.n s.c)), (1, vI n)], [⟨98, [vI (s.at i).client, vI (s.at i).id, vI (s.at i).acked, vI (s.at i).last, .v (.slice (s.at i).replies.A (s.at i).replies.n (s.at i).replies.c)]⟩]⟩ [] [] (by kernel_rfl) on wn ?_
        refine l_pure 68 [] [vI (s.at i).client, vI 1, vI 9] (.bool (inB (s.at i).client 1 9)) Try.call68 rfl rfl rfl rfl (fun bs w hS => ref_In _ _ _ w) ?_
        refine JL_run 2 [] [27, 6, 5, 0, 1] 1 ⟨[(27, vB (!(inB (s.at i).client 1 9))), (6, .p 0 0), (5, vI ((i : Nat) : Int)), (0, .v (.slice s.A s.n s.c)), (1, vI n)], [⟨98, [vI (s.at i).client, vI (s.at i).id, vI (s.at i).acked, vI (s.at i).last, .v (.slice (s.at i).replies.A (s.at i).replies.n (s.at i).replies.c)]⟩]⟩ [] [] (by kernel_rfl) on wn ?_
        cases h4 : inB (s.at i).client 1 9 with
        | true =>
          simp only [inB, Bool.and_eq_true, Bool.and_eq_false_iff, decide_eq_true_eq, decide_eq_false_iff_not] at h4
          refine JL_run 2 [] [29, 27, 6, 5, 0, 1] 1 ⟨[(29, vI (s.at i).acked), (27, vB false), (6, .p 0 0), (5, vI ((i : Nat) : Int)), (0, .v (.slice s.A s.n s.c)), (1, vI n)], [⟨98, [vI (s.at i).client, vI (s.at i).id, vI (s.at i).acked, vI (s.at i).last, .v (.slice (s.at i).replies.A (s.at i).replies.n (s.at i).replies.c)]⟩]⟩ [] [] (by kernel_rfl) on wn ?_
          refine l_pure 68 [] [vI (s.at i).acked, vI 0, vI 1048576] (.bool (inB (s.at i).acked 0 1048576)) Try.call68 rfl rfl rfl rfl (fun bs w hS => ref_In _ _ _ w) ?_
          refine JL_run 3 [] [33, 6, 5, 0, 1] 1 ⟨[(33, vB (!(inB (s.at i).acked 0 1048576))), (6, .p 0 0), (5, vI ((i : Nat) : Int)), (0, .v (.slice s.A s.n s.c)), (1, vI n)], [⟨98, [vI (s.at i).client, vI (s.at i).id, vI (s.at i).acked, vI (s.at i).last, .v (.slice (s.at i).replies.A (s.at i).replies.n (s.at i).replies.c)]⟩]⟩ [] [] (by kernel_rfl) on wn ?_
          cases h5 : inB (s.at i).acked 0 1048576 with
          | true =>
            simp only [inB, Bool.and_eq_true, Bool.and_eq_false_iff, decide_eq_true_eq, decide_eq_false_iff_not] at h5
            refine JL_run 3 [] [36, 35, 33, 6, 5, 0, 1] 1 ⟨[(36, vI n), (35, vI (s.at i).id), (33, vB false), (6, .p 0 0), (5, vI ((i : Nat) : Int)), (0, .v (.slice s.A s.n s.c)), (1, vI n)], [⟨98, [vI (s.at i).client, vI (s.at i).id, vI (s.at i).acked, vI (s.at i).last, .v (.slice (s.at i).replies.A (s.at i).replies.n (s.at i).replies.c)]⟩]⟩ [] [] (by kernel_rfl) on wn ?_
            refine l_pure 68 [] [vI (s.at i).id, vI 1, vI n] (.bool (inB (s.at i).id 1 n)) Try.call68 rfl rfl rfl rfl (fun bs w hS => ref_In _ _ _ w) ?_
            refine JL_run 3 [] [40, 6, 5, 0, 1] 1 ⟨[(40, vB (!(inB (s.at i).id 1 n))), (6, .p 0 0), (5, vI ((i : Nat) : Int)), (0, .v (.slice s.A s.n s.c)), (1, vI n)], [⟨98, [vI (s.at i).client, vI (s.at i).id, vI (s.at i).acked, vI (s.at i).last, .v (.slice (s.at i).replies.A (s.at i).replies.n (s.at i).replies.c)]⟩]⟩ [] [] (by kernel_rfl) on wn ?_
            cases h6 : inB (s.at i).id 1 n with
            | true =>
              simp only [inB, Bool.and_eq_true, Bool.and_eq_false_iff, decide_eq_true_eq, decide_eq_false_iff_not] at h6
              refine JL_run 5 [] [45, 44, 42, 40, 6, 5, 0, 1] 1 ⟨[(45, vI n), (44, vI (s.at i).id), (42, vI (s.at i).last), (40, vB false), (6, .p 0 0), (5, vI ((i : Nat) : Int)), (0, .v (.slice s.A s.n s.c)), (1, vI n)], [⟨98, [vI (s.at i).client, vI (s.at i).id, vI (s.at i).acked, vI (s.at i).last, .v (.slice (s.at i).replies.A (s.at i).replies.n (s.at i).replies.c)]⟩]⟩ [] [] (by kernel_rfl) on wn ?_
              refine l_pure 68 [] [vI (s.at i).last, vI (s.at i).id, vI n] (.bool (inB (s.at i).last (s.at i).id n)) Try.call68 rfl rfl rfl rfl (fun bs w hS => ref_In _ _ _ w) ?_
              refine JL_run 2 [] [48, 6, 5, 0, 1] 1 ⟨[(48, vB (!(inB (s.at i).last (s.at i).id n))), (6, .p 0 0), (5, vI ((i : Nat) : Int)), (0, .v (.slice s.A s.n s.c)), (1, vI n)], [⟨98, [vI (s.at i).client, vI (s.at i).id, vI (s.at i).acked, vI (s.at i).last, .v (.slice (s.at i).replies.A (s.at i).replies.n (s.at i).replies.c)]⟩]⟩ [] [] (by kernel_rfl) on wn ?_
              refine l_nil (q_then_normal ?_)
              cases h7 : inB (s.at i).last (s.at i).id n with
              | true =>
                simp only [inB, Bool.and_eq_true, Bool.and_eq_false_iff, decide_eq_true_eq, decide_eq_false_iff_not] at h7
                refine c_if false rfl ?_
                refine c_skip ?_
                refine q_then_normal ?_
                refine c_seq ?_
                refine c_seq ?_
                refine c_region ?_
                refine JL_run 1 [] [49, 6, 5, 0, 1] 1 ⟨[(49, .v (.agg #[.int .i64 (s.at i).client, .int .i64 (s.at i).id, .int .i64 (s.at i).acked, .int .i64 (s.at i).last, .slice (s.at i).replies.A (s.at i).replies.n (s.at i).replies.c])), (6, .p 0 0), (5, vI ((i : Nat) : Int)), (0, .v (.slice s.A s.n s.c)), (1, vI n)], [⟨98, [vI (s.at i).client, vI (s.at i).id, vI (s.at i).acked, vI (s.at i).last, .v (.slice (s.at i).replies.A (s.at i).replies.n (s.at i).replies.c)]⟩]⟩ [] [] (by kernel_rfl) on wn ?_
                refine l_pure 102 [] [.v (.agg #[.int .i64 (s.at i).client, .int .i64 (s.at i).id, .int .i64 (s.at i).acked, .int .i64 (s.at i).last, .slice (s.at i).replies.A (s.at i).replies.n (s.at i).replies.c])] (.bool (mReplies (s.at i).abs)) Try.call102 rfl rfl rfl rfl (fun bs w hS => ref_repliesMay (s.at i) w (Sl.rd.sub (s := s) (i := i) (Sl.rd.kp hs hS.kp) (by omega)) (by first | exact ⟨by omega, by omega⟩ | (simp only [] at *; exact ⟨by omega, by omega⟩))) ?_
                refine JL_run 1 [] [51, 6, 5, 0, 1] 1 ⟨[(51, vB (!(mReplies (s.at i).abs))), (6, .p 0 0), (5, vI ((i : Nat) : Int)), (0, .v (.slice s.A s.n s.c)), (1, vI n)], [⟨98, [vI (s.at i).client, vI (s.at i).id, vI (s.at i).acked, vI (s.at i).last, .v (.slice (s.at i).replies.A (s.at i).replies.n (s.at i).replies.c)]⟩]⟩ [] [] (by kernel_rfl) on wn ?_
                refine l_nil (q_then_normal ?_)
                cases h8 : mReplies (s.at i).abs with
                | true =>
                  refine c_if false rfl ?_
                  refine c_skip ?_
                  refine q_then_normal ?_
                  refine c_seq ?_
                  refine c_draw 13 [(0, false), (1, false), (2, false), (3, false), (4, false), (5, false), (6, false), (7, false), (8, false), (9, false), (10, false), (11, false), (12, false)] [] [] Try_mixed (by kernel_rfl) (pq_then (pq_block (pq_then (pq_then (pq_block (pq_then pq_body)))))) (List.Sublist.refl _) ?_
                  refine h_quiet [] 3 [(54, vB (decide ((0 : Int) < ((i : Nat) : Int)))), (53, vB (decide ((0 : Int) < ((i : Nat) : Int)))), (52, vI ((i : Nat) : Int)), (51, vB false), (6, .p 0 0), (5, vI ((i : Nat) : Int)), (0, .v (.slice s.A s.n s.c)), (1, vI n)] [] [] rfl rfl (by kernel_rfl) on wn ?_
                  cases h9 : decide ((0 : Int) < ((i : Nat) : Int)) with
                  | true =>
                    have h9 := of_decide_eq_true h9
                    refine h_quiet [(8, .idx s.ad (i - 1)), (10, .ext [.int .i64 (s.at (i - 1)).client])] 10 [(64, vB (decide ((s.at i).client ≤ (s.at (i - 1)).client))), (63, vB (decide ((s.at i).client ≤ (s.at (i - 1)).client))), (62, vI (s.at (i - 1)).client), (61, .v (.pointer (some ((s.ad.add ((i - 1) * 5)).add 0)))), (60, .v (.pointer (some (s.ad.add ((i - 1) * 5))))), (59, vI (((i : Nat) : Int) - 1)), (58, vI ((i : Nat) : Int)), (57, .v (.slice s.A s.n s.c)), (56, vI (s.at i).client), (55, .p 0 0), (54, vB true), (53, vB true), (52, vI ((i : Nat) : Int)), (51, vB false), (6, .p 0 0), (5, vI ((i : Nat) : Int)), (0, .v (.slice s.A s.n s.c)), (1, vI n)] [inR (((i : Nat) : Int) - 1), s.A = some s.ad, ((i : Nat) : Int) - 1 = (((i - 1) : Nat) : Int), (i - 1) < s.n] [((s.ad.add ((i - 1) * 5)).add 0, [.int .i64 (s.at (i - 1)).client])] rfl rfl (by kernel_rfl) (oc (by unfold inR; omega) (oc (Sl.ok.own (s := s) (i := (i - 1)) oks (by omega)) (oc (by omega) (oc (by omega) on)))) (fun w hk hr => ⟨(Sl.rd.fld (s := s) (i := (i - 1)) (Sl.rd.kp hs hk) (by omega) 0 1 rfl), trivial⟩) ?_
                    refine h_nil ?_
                    refine l_nil (q_then_normal ?_)
                    cases h10 : decide ((s.at i).client ≤ (s.at (i - 1)).client) with
                    | true =>
                      have h10 := of_decide_eq_true h10
                      refine c_if true rfl ?_
                      refine c_seq ?_
                      refine c_region ?_
                      refine JL_run 1 [] [4] 0 ⟨[(4, vI 14)], []⟩ [] [] (by kernel_rfl) on wn ?_
                      refine l_nil (q_then_normal ?_)
                      refine c_ret ?_
                      refine q_block_ret (q_then_ret (q_then_ret (q_block_ret (q_then_ret (q_ret (.inl rfl) [vI 14] rfl (fun bs w hS => ?_))))))
                      refine ⟨?_, hS.kp⟩
                      simp only [retOf, den, List.map_cons, List.map_nil]
                      have hf : sessF (s.xs.map CSession.abs) n i = 14 := by
                        unfold sessF
                        simp only [hat, hq0, hq1, hq2, hq3]
                        try simp only [h1, h2, h3, h4, h5, h6, h7, h8, h9, h10, emp_size, ne_eq, not_true_eq_false, not_false_eq_true, true_or, or_true, false_or, or_false, and_true, true_and, and_false, false_and, and_self, or_self, if_true, if_false, Bool.true_eq_false, Bool.false_eq_true, reduceIte, Classical.not_not, Bool.and_eq_true, decide_eq_true_eq]
                        repeat (first | rw [if_pos (by omega)] | rw [if_neg (by omega)])
                        all_goals first | rfl | (exfalso; omega)
                      rw [hI, firstF_here (by omega) hf (by omega)]
                    | false =>
                      have h10 := of_decide_eq_false h10
                      refine c_if false rfl ?_
                      refine c_skip ?_
                      refine q_block_normal (q_then_normal ?_)
                      refine c_region ?_
                      refine JL_run 3 [] [5, 0, 1] 0 ⟨[(5, vI (((i : Nat) : Int) + 1)), (0, .v (.slice s.A s.n s.c)), (1, vI n)], []⟩ [inR (((i : Nat) : Int) + 1)] [] (by kernel_rfl) (oc (by unfold inR; omega) on) wn ?_
                      have hf0 : sessF (s.xs.map CSession.abs) n i = 0 := by
                        unfold sessF
                        simp only [hat, hq0, hq1, hq2, hq3]
                        try simp only [h1, h2, h3, h4, h5, h6, h7, h8, h9, h10, emp_size, ne_eq, not_true_eq_false, not_false_eq_true, true_or, or_true, false_or, or_false, and_true, true_and, and_false, false_and, and_self, or_self, if_true, if_false, Bool.true_eq_false, Bool.false_eq_true, reduceIte, Classical.not_not, Bool.and_eq_true, decide_eq_true_eq]
                        repeat (first | rw [if_pos (by omega)] | rw [if_neg (by omega)])
                        all_goals first | rfl | (exfalso; omega)
                      refine l_nil (q_loop (x := (i : Nat)) ((i + 1) : Nat) ⟨by omega, by rw [hI]; exact firstF_step (by omega) hf0⟩ (by omega) (s_start [5, 0, 1] 0 (by kernel_rfl) rfl))
                  | false =>
                    have h9 := of_decide_eq_false h9
                    refine h_quiet [] 10 [(64, vB false), (63, .v (undef)), (62, .v (undef)), (61, .v (undef)), (60, .v (undef)), (59, .v (undef)), (58, .v (undef)), (57, .v (undef)), (56, .v (undef)), (55, .v (undef)), (54, vB false), (53, vB false), (52, vI ((i : Nat) : Int)), (51, vB false), (6, .p 0 0), (5, vI ((i : Nat) : Int)), (0, .v (.slice s.A s.n s.c)), (1, vI n)] [] [] rfl rfl (by kernel_rfl) on wn ?_
                    refine h_nil ?_
                    refine l_nil (q_then_normal ?_)
                    refine c_if false rfl ?_
                    refine c_skip ?_
                    refine q_block_normal (q_then_normal ?_)
                    refine c_region ?_
                    refine JL_run 3 [] [5, 0, 1] 0 ⟨[(5, vI (((i : Nat) : Int) + 1)), (0, .v (.slice s.A s.n s.c)), (1, vI n)], []⟩ [inR (((i : Nat) : Int) + 1)] [] (by kernel_rfl) (oc (by unfold inR; omega) on) wn ?_
                    have hf0 : sessF (s.xs.map CSession.abs) n i = 0 := by
                      unfold sessF
                      simp only [hat, hq0, hq1, hq2, hq3]
                      try simp only [h1, h2, h3, h4, h5, h6, h7, h8, h9, emp_size, ne_eq, not_true_eq_false, not_false_eq_true, true_or, or_true, false_or, or_false, and_true, true_and, and_false, false_and, and_self, or_self, if_true, if_false, Bool.true_eq_false, Bool.false_eq_true, reduceIte, Classical.not_not, Bool.and_eq_true, decide_eq_true_eq]
                      repeat (first | rw [if_pos (by omega)] | rw [if_neg (by omega)])
                      all_goals first | rfl | (exfalso; omega)
                    refine l_nil (q_loop (x := (i : Nat)) ((i + 1) : Nat) ⟨by omega, by rw [hI]; exact firstF_step (by omega) hf0⟩ (by omega) (s_start [5, 0, 1] 0 (by kernel_rfl) rfl))
                | false =>
                  refine c_if true rfl ?_
                  refine c_seq ?_
                  refine c_region ?_
                  refine JL_run 1 [] [4] 0 ⟨[(4, vI 4)], []⟩ [] [] (by kernel_rfl) on wn ?_
                  refine l_nil (q_then_normal ?_)
                  refine c_ret ?_
                  refine q_then_ret (q_block_ret (q_then_ret (q_then_ret (q_block_ret (q_then_ret (q_ret (.inl rfl) [vI 4] rfl (fun bs w hS => ?_)))))))
                  refine ⟨?_, hS.kp⟩
                  simp only [retOf, den, List.map_cons, List.map_nil]
                  have hf : sessF (s.xs.map CSession.abs) n i = 4 := by
                    unfold sessF
                    simp only [hat, hq0, hq1, hq2, hq3]
                    try simp only [h1, h2, h3, h4, h5, h6, h7, h8, emp_size, ne_eq, not_true_eq_false, not_false_eq_true, true_or, or_true, false_or, or_false, and_true, true_and, and_false, false_and, and_self, or_self, if_true, if_false, Bool.true_eq_false, Bool.false_eq_true, reduceIte, Classical.not_not, Bool.and_eq_true, decide_eq_true_eq]
                    repeat (first | rw [if_pos (by omega)] | rw [if_neg (by omega)])
                    all_goals first | rfl | (exfalso; omega)
                  rw [hI, firstF_here (by omega) hf (by omega)]
              | false =>
                simp only [inB, Bool.and_eq_true, Bool.and_eq_false_iff, decide_eq_true_eq, decide_eq_false_iff_not] at h7
                refine c_if true rfl ?_
                refine c_seq ?_
                refine c_region ?_
                refine JL_run 1 [] [4] 0 ⟨[(4, vI 2)], []⟩ [] [] (by kernel_rfl) on wn ?_
                refine l_nil (q_then_normal ?_)
                refine c_ret ?_
                refine q_then_ret (q_block_ret (q_then_ret (q_then_ret (q_block_ret (q_then_ret (q_ret (.inl rfl) [vI 2] rfl (fun bs w hS => ?_)))))))
                refine ⟨?_, hS.kp⟩
                simp only [retOf, den, List.map_cons, List.map_nil]
                have hf : sessF (s.xs.map CSession.abs) n i = 2 := by
                  unfold sessF
                  simp only [hat, hq0, hq1, hq2, hq3]
                  try simp only [h1, h2, h3, h4, h5, h6, h7, emp_size, ne_eq, not_true_eq_false, not_false_eq_true, true_or, or_true, false_or, or_false, and_true, true_and, and_false, false_and, and_self, or_self, if_true, if_false, Bool.true_eq_false, Bool.false_eq_true, reduceIte, Classical.not_not, Bool.and_eq_true, decide_eq_true_eq]
                  repeat (first | rw [if_pos (by omega)] | rw [if_neg (by omega)])
                  all_goals first | rfl | (exfalso; omega)
                rw [hI, firstF_here (by omega) hf (by omega)]
            | false =>
              simp only [inB, Bool.and_eq_true, Bool.and_eq_false_iff, decide_eq_true_eq, decide_eq_false_iff_not] at h6
              refine JL_run 8 [] [48, 6, 5, 0, 1] 1 ⟨[(48, vB true), (6, .p 0 0), (5, vI ((i : Nat) : Int)), (0, .v (.slice s.A s.n s.c)), (1, vI n)], [⟨98, [vI (s.at i).client, vI (s.at i).id, vI (s.at i).acked, vI (s.at i).last, .v (.slice (s.at i).replies.A (s.at i).replies.n (s.at i).replies.c)]⟩]⟩ [] [] (by kernel_rfl) on wn ?_
              refine l_nil (q_then_normal ?_)
              refine c_if true rfl ?_
              refine c_seq ?_
              refine c_region ?_
              refine JL_run 1 [] [4] 0 ⟨[(4, vI 2)], []⟩ [] [] (by kernel_rfl) on wn ?_
              refine l_nil (q_then_normal ?_)
              refine c_ret ?_
              refine q_then_ret (q_block_ret (q_then_ret (q_then_ret (q_block_ret (q_then_ret (q_ret (.inl rfl) [vI 2] rfl (fun bs w hS => ?_)))))))
              refine ⟨?_, hS.kp⟩
              simp only [retOf, den, List.map_cons, List.map_nil]
              have hf : sessF (s.xs.map CSession.abs) n i = 2 := by
                unfold sessF
                simp only [hat, hq0, hq1, hq2, hq3]
                try simp only [h1, h2, h3, h4, h5, h6, emp_size, ne_eq, not_true_eq_false, not_false_eq_true, true_or, or_true, false_or, or_false, and_true, true_and, and_false, false_and, and_self, or_self, if_true, if_false, Bool.true_eq_false, Bool.false_eq_true, reduceIte, Classical.not_not, Bool.and_eq_true, decide_eq_true_eq]
                repeat (first | rw [if_pos (by omega)] | rw [if_neg (by omega)])
                all_goals first | rfl | (exfalso; omega)
              rw [hI, firstF_here (by omega) hf (by omega)]
          | false =>
            simp only [inB, Bool.and_eq_true, Bool.and_eq_false_iff, decide_eq_true_eq, decide_eq_false_iff_not] at h5
            refine JL_run 15 [] [48, 6, 5, 0, 1] 1 ⟨[(48, vB true), (6, .p 0 0), (5, vI ((i : Nat) : Int)), (0, .v (.slice s.A s.n s.c)), (1, vI n)], [⟨98, [vI (s.at i).client, vI (s.at i).id, vI (s.at i).acked, vI (s.at i).last, .v (.slice (s.at i).replies.A (s.at i).replies.n (s.at i).replies.c)]⟩]⟩ [] [] (by kernel_rfl) on wn ?_
            refine l_nil (q_then_normal ?_)
            refine c_if true rfl ?_
            refine c_seq ?_
            refine c_region ?_
            refine JL_run 1 [] [4] 0 ⟨[(4, vI 2)], []⟩ [] [] (by kernel_rfl) on wn ?_
            refine l_nil (q_then_normal ?_)
            refine c_ret ?_
            refine q_then_ret (q_block_ret (q_then_ret (q_then_ret (q_block_ret (q_then_ret (q_ret (.inl rfl) [vI 2] rfl (fun bs w hS => ?_)))))))
            refine ⟨?_, hS.kp⟩
            simp only [retOf, den, List.map_cons, List.map_nil]
            have hf : sessF (s.xs.map CSession.abs) n i = 2 := by
              unfold sessF
              simp only [hat, hq0, hq1, hq2, hq3]
              try simp only [h1, h2, h3, h4, h5, emp_size, ne_eq, not_true_eq_false, not_false_eq_true, true_or, or_true, false_or, or_false, and_true, true_and, and_false, false_and, and_self, or_self, if_true, if_false, Bool.true_eq_false, Bool.false_eq_true, reduceIte, Classical.not_not, Bool.and_eq_true, decide_eq_true_eq]
              repeat (first | rw [if_pos (by omega)] | rw [if_neg (by omega)])
              all_goals first | rfl | (exfalso; omega)
            rw [hI, firstF_here (by omega) hf (by omega)]
        | false =>
          simp only [inB, Bool.and_eq_true, Bool.and_eq_false_iff, decide_eq_true_eq, decide_eq_false_iff_not] at h4
          refine JL_run 21 [] [48, 6, 5, 0, 1] 1 ⟨[(48, vB true), (6, .p 0 0), (5, vI ((i : Nat) : Int)), (0, .v (.slice s.A s.n s.c)), (1, vI n)], [⟨98, [vI (s.at i).client, vI (s.at i).id, vI (s.at i).acked, vI (s.at i).last, .v (.slice (s.at i).replies.A (s.at i).replies.n (s.at i).replies.c)]⟩]⟩ [] [] (by kernel_rfl) on wn ?_
          refine l_nil (q_then_normal ?_)
          refine c_if true rfl ?_
          refine c_seq ?_
          refine c_region ?_
          refine JL_run 1 [] [4] 0 ⟨[(4, vI 2)], []⟩ [] [] (by kernel_rfl) on wn ?_
          refine l_nil (q_then_normal ?_)
          refine c_ret ?_
          refine q_then_ret (q_block_ret (q_then_ret (q_then_ret (q_block_ret (q_then_ret (q_ret (.inl rfl) [vI 2] rfl (fun bs w hS => ?_)))))))
          refine ⟨?_, hS.kp⟩
          simp only [retOf, den, List.map_cons, List.map_nil]
          have hf : sessF (s.xs.map CSession.abs) n i = 2 := by
            unfold sessF
            simp only [hat, hq0, hq1, hq2, hq3]
            try simp only [h1, h2, h3, h4, emp_size, ne_eq, not_true_eq_false, not_false_eq_true, true_or, or_true, false_or, or_false, and_true, true_and, and_false, false_and, and_self, or_self, if_true, if_false, Bool.true_eq_false, Bool.false_eq_true, reduceIte, Classical.not_not, Bool.and_eq_true, decide_eq_true_eq]
            repeat (first | rw [if_pos (by omega)] | rw [if_neg (by omega)])
            all_goals first | rfl | (exfalso; omega)
          rw [hI, firstF_here (by omega) hf (by omega)]
      | false =>
        have h3 := of_decide_eq_false h3
        refine c_if false rfl ?_
        refine c_exit ?_
        refine q_then_exit (q_then_exit (q_block_hit (q_then_normal ?_)))
        refine c_seq ?_
        refine c_region ?_
        refine JL_run 1 [] [4] 0 ⟨[(4, vI 0)], []⟩ [] [] (by kernel_rfl) on wn ?_
        refine l_nil (q_then_normal ?_)
        refine c_ret ?_
        refine q_ret (.inl rfl) [vI 0] rfl (fun bs w hS => ?_)
        refine ⟨?_, hS.kp⟩
        simp only [retOf, den, List.map_cons, List.map_nil]
        rw [hI, firstF_end (by omega)]
  | false =>
    simp only [inB, Bool.and_eq_true, Bool.and_eq_false_iff, decide_eq_true_eq, decide_eq_false_iff_not] at h1
    refine c_if true rfl ?_
    refine c_seq ?_
    refine c_region ?_
    refine JL_run 1 [] [4] 0 ⟨[(4, vI 2)], []⟩ [] [] (by kernel_rfl) on wn ?_
    refine l_nil (q_then_normal ?_)
    refine c_ret ?_
    refine q_then_ret (q_ret (.inl rfl) [vI 2] rfl (fun bs w hS => ?_))
    refine ⟨?_, hS.kp⟩
    simp only [retOf, den, List.map_cons, List.map_nil]
    have hm : mSess (s.xs.map CSession.abs) n = 2 := by
      unfold mSess; rw [hml]
      first | rw [if_pos (by omega)] | rw [if_neg (by omega), if_pos (by omega)]
    rw [hm]

theorem clone_Kept {B : Nat → Prop} (s : Sl DKept) (w : World) (hs : s.rd B w) (hb : s.n ≤ 1048576) : Calls Try.prog 99 #[.slice s.A s.n s.c] w fun e w' => ∃ y : Sl DKept, e = .returned y.val ∧ y.xs = s.xs ∧ Kp [] w w' ∧ Fresh w w' (rowA 101 y.A y.c y.xs) := by
  have oks := Sl.rd.ok hs
  have ncs := Sl.ok.nc oks
  have hns : s.n = s.xs.length := rfl
  refine calls_J0 8 Try.func99 rfl rfl [.slice s.A s.n s.c] rfl ?_
  refine c_seq ?_
  refine c_region ?_
  refine JL_run 1 [] [0] 0 ⟨[(0, .v (.slice s.A s.n s.c))], []⟩ [] [] (by kernel_rfl) on wn ?_
  refine l_nil (q_then_normal ?_)
  refine c_seq ?_
  refine c_seq ?_
  refine c_region ?_
  refine JL_run 2 [(1, .val (.bool s.A.isNone))] [4, 0] 0 ⟨[(4, vB s.A.isNone), (0, .v (.slice s.A s.n s.c))], []⟩ [∀ w, (do eqGuard .eql 96 (.tmp 3) (.const (.slice none 0 0)) (.slice s.A s.n s.c) (.slice none 0 0); binOp .eql 96 (.slice s.A s.n s.c) (.slice none 0 0) : Sem Value).run Try.prog w = .ok (.bool s.A.isNone) w] [] (by kernel_rfl) (oc (eq_nil Try.underlying96) on) wn ?_
  refine l_nil (q_then_normal ?_)
  cases h1 : s.A.isNone with
  | true =>
    refine c_if true rfl ?_
    refine c_seq ?_
    refine c_region ?_
    refine JL_run 1 [] [2] 0 ⟨[(2, .v (.slice none 0 0))], []⟩ [] [] (by kernel_rfl) on wn ?_
    refine l_nil (q_then_normal ?_)
    refine c_ret ?_
    refine q_then_ret (q_ret (.inl rfl) [.v (.slice none 0 0)] rfl (fun bs w hS => ?_))
    have hnil : s.xs = [] := Sl.ok.empty oks (by cases h : s.A <;> simp_all)
    exact ⟨Sl.nil, rfl, hnil.symm, hS.kp, rowA_nil 101 w⟩
  | false =>
    refine c_if false rfl ?_
    refine c_skip ?_
    refine q_then_normal ?_
    refine c_seq ?_
    refine c_region ?_
    refine l_row0A (α := DKept) 101 Try.underlying96 (by kernel_rfl) (by kernel_rfl) (by kernel_rfl) rfl ?_
    intro A1
    refine JL_run 1 [] [6, 5] 0 ⟨[(6, .v (.slice s.A s.n s.c)), (5, .v (.slice A1 ([] : List DKept).length 0))], []⟩ [] [] (by kernel_rfl) on wn ?_
    refine l_appendA (α := DKept) 101 40 A1 0 ([]) (.v (.slice s.A s.n s.c)) (s.xs) Try.underlying96 (by kernel_rfl) rfl rfl rfl (fun bs w hS => ⟨_, _, rfl, Sl.rd.src (s := s) (Sl.rd.kp hs hS.kp)⟩) (by simp only [List.length_nil]; omega) (by simp only [List.length_nil]; omega) ?_
    intro A2 c2
    refine JL_run 1 [] [2] 0 ⟨[(2, .v (.slice A2 ([] ++ s.xs).length c2))], []⟩ [] [] (by kernel_rfl) on wn ?_
    refine l_nil (q_then_normal ?_)
    refine c_ret ?_
    refine q_ret (.inl rfl) [.v (.slice A2 ([] ++ s.xs).length c2)] rfl (fun bs w hS => ?_)
    exact ⟨⟨A2, c2, [] ++ s.xs⟩, rfl, by simp, hS.kp, hS.out1⟩

theorem session_Copy {B : Nat → Prop} (s : Sl CSession) (w : World) (hs : s.rd B w) (hsm : Rds.small s) : Calls Try.prog 60 #[.slice s.A s.n s.c] w fun e w' => ∃ y : Sl CSession, e = .returned y.val ∧ y.xs.map CSession.abs = s.xs.map CSession.abs ∧ Kp [] w w' ∧ Fresh w w' (sessR 98 101 y) := by
  have oks := Sl.rd.ok hs
  have ncs := Sl.ok.nc oks
  refine calls_J0 22 Try.func60 rfl rfl [.slice s.A s.n s.c] rfl ?_
  refine c_seq ?_
  refine c_region ?_
  refine JL_run 1 [] [0] 0 ⟨[(0, .v (.slice s.A s.n s.c))], []⟩ [] [] (by kernel_rfl) on wn ?_
  refine l_nil (q_then_normal ?_)
  refine c_seq ?_
  refine c_region ?_
  refine JL_run 1 [] [3, 0] 0 ⟨[(3, .v (.slice none 0 0)), (0, .v (.slice s.A s.n s.c))], []⟩ [] [] (by kernel_rfl) on wn ?_
  refine l_nil (q_then_normal ?_)
  refine c_seq ?_
  refine c_seq ?_
  refine c_region ?_
  refine JL_run 3 [] [8, 7, 6, 3] 0 ⟨[(8, vI 0), (7, vI ((s.n : Nat) : Int)), (6, .v (.slice s.A s.n s.c)), (3, .v (.slice none 0 0))], []⟩ [] [] (by kernel_rfl) on wn ?_
  refine l_nil (q_then_normal ?_)
  refine c_block ?_
  refine c_rowA (α := CSession) 98 ?_
  refine c_nores (ownL (keptR 101) []) rfl (fun w x hx => by cases hx) ?_
  refine c_loop (σ := Nat × Option Addr × Nat × List CSession) (fun ⟨i, A, c, L⟩ => i ≤ s.n ∧ L.length = i ∧ L.map CSession.abs = (s.xs.take i).map CSession.abs) (fun ⟨i, A, c, L⟩ => s.n - i) (fun ⟨i, A, c, L⟩ => [ownL (keptR 101) L, rowA 98 A c (L : List CSession)]) (fun ⟨i, A, c, L⟩ => ⟨[(8, vI ((i : Nat) : Int)), (7, vI ((s.n : Nat) : Int)), (6, .v (.slice s.A s.n s.c)), (3, .v (.slice A L.length c))], []⟩) ⟨0, none, 0, []⟩ ⟨Nat.zero_le _, rfl, by simp⟩ (s_start [8, 7, 6, 3] 0 (by kernel_rfl) rfl) ?_
  rintro ⟨i, A, c, L⟩ ⟨hi, hL, hI⟩
  have hsn := hsm.1
  refine c_seq ?_
  refine c_region ?_
  refine JL_run 1 [] [9, 8, 7, 6, 3] 0 ⟨[(9, vB (decide (((i : Nat) : Int) < ((s.n : Nat) : Int)))), (8, vI ((i : Nat) : Int)), (7, vI ((s.n : Nat) : Int)), (6, .v (.slice s.A s.n s.c)), (3, .v (.slice A L.length c))], []⟩ [] [] (by kernel_rfl) on wn ?_
  refine l_nil (q_then_normal ?_)
  refine c_seq ?_
  cases h1 : decide (((i : Nat) : Int) < ((s.n : Nat) : Int)) with
  | true =>
    have h1 := of_decide_eq_true h1
    refine c_if true rfl ?_
    refine c_skip ?_
    refine q_then_normal ?_
    refine c_seq ?_
    refine c_block ?_
    refine c_seq ?_
    refine c_region ?_
    refine JL_run 4 [(0, .idx s.ad i), (1, .ext [.int .i64 (s.at i).client, .int .i64 (s.at i).id, .int .i64 (s.at i).acked, .int .i64 (s.at i).last, .slice (s.at i).replies.A (s.at i).replies.n (s.at i).replies.c])] [5, 8, 7, 6, 3] 1 ⟨[(5, .p 0 0), (8, vI ((i : Nat) : Int)), (7, vI ((s.n : Nat) : Int)), (6, .v (.slice s.A s.n s.c)), (3, .v (.slice A L.length c))], [⟨98, [vI (s.at i).client, vI (s.at i).id, vI (s.at i).acked, vI (s.at i).last, .v (.slice (s.at i).replies.A (s.at i).replies.n (s.at i).replies.c)]⟩]⟩ [s.A = some s.ad, ((i : Nat) : Int) = ((i : Nat) : Int), i < s.n] [(s.ad.add (i * 5), [.int .i64 (s.at i).client, .int .i64 (s.at i).id, .int .i64 (s.at i).acked, .int .i64 (s.at i).last, .slice (s.at i).replies.A (s.at i).replies.n (s.at i).replies.c])] (by kernel_rfl) (oc (Sl.ok.own (s := s) (i := i) oks (by omega)) (oc rfl (oc (by omega) on))) (fun w hk hr => ⟨(Sl.rd.all (s := s) (i := i) (Sl.rd.kp hs hk) (by omega) rfl), trivial⟩) ?_
    refine l_nil (q_then_normal ?_)
    refine c_seq ?_
    refine c_region ?_
    refine JL_run 2 [] [13, 5, 8, 7, 6, 3] 1 ⟨[(13, .v (.slice (s.at i).replies.A (s.at i).replies.n (s.at i).replies.c)), (5, .p 0 0), (8, vI ((i : Nat) : Int)), (7, vI ((s.n : Nat) : Int)), (6, .v (.slice s.A s.n s.c)), (3, .v (.slice A L.length c))], [⟨98, [vI (s.at i).client, vI (s.at i).id, vI (s.at i).acked, vI (s.at i).last, .v (.slice (s.at i).replies.A (s.at i).replies.n (s.at i).replies.c)]⟩]⟩ [] [] (by kernel_rfl) on wn ?_
    refine l_freshF (σ := Sl DKept) 99 [] [.v (.slice (s.at i).replies.A (s.at i).replies.n (s.at i).replies.c)] (fun y1 => .slice y1.A y1.n y1.c) (fun y1 => y1.xs = (s.at i).replies.xs) (fun y1 => rowA 101 y1.A y1.c (y1.xs : List DKept)) Try.call99 rfl rfl rfl rfl (fun bs w hS => clone_Kept (s.at i).replies w (Sl.rd.sub (s := s) (i := i) (Sl.rd.kp hs hS.kp) (by omega)) (hsm.2 i (by omega)).1) ?_
    rintro y1 hF1
    refine JL_run 2 [] [5, 8, 7, 6, 3] 1 ⟨[(5, .p 0 0), (8, vI ((i : Nat) : Int)), (7, vI ((s.n : Nat) : Int)), (6, .v (.slice s.A s.n s.c)), (3, .v (.slice A L.length c))], [⟨98, [vI (s.at i).client, vI (s.at i).id, vI (s.at i).acked, vI (s.at i).last, .v (.slice y1.A y1.n y1.c)]⟩]⟩ [] [] (by kernel_rfl) on wn ?_
    refine l_nil (q_then_normal ?_)
    refine c_region ?_
    refine JL_run 3 [] [18, 16, 8, 7, 6] 2 ⟨[(18, .s 1 0 1 1), (16, .v (.slice A L.length c)), (8, vI ((i : Nat) : Int)), (7, vI ((s.n : Nat) : Int)), (6, .v (.slice s.A s.n s.c))], [⟨98, [vI (s.at i).client, vI (s.at i).id, vI (s.at i).acked, vI (s.at i).last, .v (.slice y1.A y1.n y1.c)]⟩, ⟨98, [vI (s.at i).client, vI (s.at i).id, vI (s.at i).acked, vI (s.at i).last, .v (.slice y1.A y1.n y1.c)]⟩]⟩ [] [] (by kernel_rfl) on wn ?_
    refine l_perm (R' := [rowA 98 A c (L : List CSession), rowA 101 y1.A y1.c (y1.xs : List DKept), ownL (keptR 101) L]) (permfront 2 rfl) ?_
    refine l_appendA (α := CSession) 98 56 A c (L) (.s 1 0 1 1) ([(⟨(s.at i).client, (s.at i).id, (s.at i).acked, (s.at i).last, y1⟩ : CSession)]) Try.underlying37 (by kernel_rfl) rfl rfl rfl (fun bs w hS => by obtain ⟨q1, q2, q3, q4⟩ := src_loc (i := 1) (off := 0) (k := 1) (c := 1) (q := 5) (vs := [.int .i64 (s.at i).client, .int .i64 (s.at i).id, .int .i64 (s.at i).acked, .int .i64 (s.at i).last, .slice y1.A y1.n y1.c]) hS rfl rfl; exact ⟨some q1, q2, q3, q4⟩) (by first | omega | (simp only [List.length_nil, List.length_cons, List.length_append]; omega) | (have hq := (hsm.2 i (by omega)).1; simp only [Sl.n, List.length_nil] at hq ⊢; omega)) (by first | omega | (simp only [List.length_nil, List.length_cons, List.length_append]; omega) | (have hq := (hsm.2 i (by omega)).1; simp only [Sl.n, List.length_nil] at hq ⊢; omega)) ?_
    intro A3 c3
    refine JL_run 1 [] [3, 8, 7, 6] 0 ⟨[(3, .v (.slice A3 (L ++ [(⟨(s.at i).client, (s.at i).id, (s.at i).acked, (s.at i).last, y1⟩ : CSession)]).length c3)), (8, vI ((i : Nat) : Int)), (7, vI ((s.n : Nat) : Int)), (6, .v (.slice s.A s.n s.c))], []⟩ [] [] (by kernel_rfl) on wn ?_
    refine l_nil (q_block_normal (q_then_normal ?_))
    refine c_region ?_
    refine JL_run 2 [] [8, 3, 7, 6] 0 ⟨[(8, vI (((i : Nat) : Int) + 1)), (3, .v (.slice A3 (L ++ [(⟨(s.at i).client, (s.at i).id, (s.at i).acked, (s.at i).last, y1⟩ : CSession)]).length c3)), (7, vI ((s.n : Nat) : Int)), (6, .v (.slice s.A s.n s.c))], []⟩ [inR (((i : Nat) : Int) + 1)] [] (by kernel_rfl) (oc (by unfold inR; omega) on) wn ?_
    refine l_perm (R' := [rowA 101 y1.A y1.c (y1.xs : List DKept), ownL (keptR 101) L, rowA 98 A3 c3 (L ++ [(⟨(s.at i).client, (s.at i).id, (s.at i).acked, (s.at i).last, y1⟩ : CSession)] : List CSession)]) (by exact perm3 0 _ _ _) ?_
    refine l_join (ownL (keptR 101) (L ++ [(⟨(s.at i).client, (s.at i).id, (s.at i).acked, (s.at i).last, y1⟩ : CSession)])) (ownL_app_fp (keptR 101) L (⟨(s.at i).client, (s.at i).id, (s.at i).acked, (s.at i).last, y1⟩ : CSession)) (fun w => ownL_app_p (keptR 101) L (⟨(s.at i).client, (s.at i).id, (s.at i).acked, (s.at i).last, y1⟩ : CSession) w) ?_
    refine l_nil (q_loop (x := (⟨i, A, c, L⟩ : Nat × Option Addr × Nat × List CSession)) (⟨i + 1, A3, c3, L ++ [(⟨(s.at i).client, (s.at i).id, (s.at i).acked, (s.at i).last, y1⟩ : CSession)]⟩ : Nat × Option Addr × Nat × List CSession) ⟨by omega, by rw [List.length_append]; simp [hL], map_take_snoc (by omega) hI (by first | simp [CSession.abs, hF1] | simp [CSession.abs])⟩ (by show s.n - (i + 1) < s.n - i; omega) (s_start [8, 7, 6, 3] 0 (by kernel_rfl) rfl))
  | false =>
    have h1 := of_decide_eq_false h1
    refine c_if false rfl ?_
    refine c_exit ?_
    refine q_then_exit (q_then_exit (q_block_hit (q_then_normal ?_)))
    refine c_seq ?_
    refine c_region ?_
    refine JL_run 2 [] [2] 0 ⟨[(2, .v (.slice A L.length c))], []⟩ [] [] (by kernel_rfl) on wn ?_
    refine l_nil (q_then_normal ?_)
    refine c_ret ?_
    refine q_ret (.inl rfl) [.v (.slice A L.length c)] rfl (fun bs w hS => ?_)
    have hn : L.length = s.n := by omega
    exact ⟨⟨A, c, L⟩, rfl, by rw [hI, take_all (by omega)], hS.kp, hS.out⟩
theorem session_CopyS {B : Nat → Prop} (s : Sl CSession) (w : World) (hs : s.rd B w) (hsm : Rds.small s) : Calls Try.prog 60 #[.slice s.A s.n s.c] w fun e w' => ∃ y : Sl CSession, e = .returned y.val ∧ y.xs.map CSession.abs = s.xs.map CSession.abs ∧ FreshS w w' y :=
  (session_Copy s w hs hsm).mono fun e w' ⟨y, h1, h2, h3, h4⟩ => ⟨y, h1, h2, h3, h4.sub fun hp => sessR_rd hp (sess_texts hs h2)⟩

theorem ref_SessionsCopy {B : Nat → Prop} (s : Sl CSession) (w : World) (hs : s.rd B w) (hsm : Rds.small s) : Calls Try.prog 58 #[.slice s.A s.n s.c] w fun e w' => ∃ y : Sl CSession, e = .returned y.val ∧ y.xs.map CSession.abs = s.xs.map CSession.abs ∧ Kp [] w w' ∧ Fresh w w' (sessR 98 101 y) := by
  have oks := Sl.rd.ok hs
  have ncs := Sl.ok.nc oks
  refine calls_J0 25 Try.func58 rfl rfl [.slice s.A s.n s.c] rfl ?_
  refine c_seq ?_
  refine c_region ?_
  refine JL_run 1 [] [0] 0 ⟨[(0, .v (.slice s.A s.n s.c))], []⟩ [] [] (by kernel_rfl) on wn ?_
  refine l_nil (q_then_normal ?_)
  refine c_seq ?_
  refine c_region ?_
  refine JL_run 1 [] [3, 0] 0 ⟨[(3, .v (.slice none 0 0)), (0, .v (.slice s.A s.n s.c))], []⟩ [] [] (by kernel_rfl) on wn ?_
  refine l_nil (q_then_normal ?_)
  refine c_seq ?_
  refine c_seq ?_
  refine c_region ?_
  refine JL_run 1 [] [4, 3, 0] 0 ⟨[(4, vI 0), (3, .v (.slice none 0 0)), (0, .v (.slice s.A s.n s.c))], []⟩ [] [] (by kernel_rfl) on wn ?_
  refine l_nil (q_then_normal ?_)
  refine c_block ?_
  refine c_rowA (α := CSession) 98 ?_
  refine c_nores (ownL (keptR 101) []) rfl (fun w x hx => by cases hx) ?_
  refine c_loop (σ := Nat × Option Addr × Nat × List CSession) (fun ⟨i, A, c, L⟩ => i ≤ s.n ∧ L.length = i ∧ L.map CSession.abs = (s.xs.take i).map CSession.abs) (fun ⟨i, A, c, L⟩ => s.n - i) (fun ⟨i, A, c, L⟩ => [ownL (keptR 101) L, rowA 98 A c (L : List CSession)]) (fun ⟨i, A, c, L⟩ => ⟨[(4, vI ((i : Nat) : Int)), (3, .v (.slice A L.length c)), (0, .v (.slice s.A s.n s.c))], []⟩) ⟨0, none, 0, []⟩ ⟨Nat.zero_le _, rfl, by simp⟩ (s_start [4, 3, 0] 0 (by kernel_rfl) rfl) ?_
  rintro ⟨i, A, c, L⟩ ⟨hi, hL, hI⟩
  have hsn := hsm.1
  refine c_seq ?_
  refine c_seq ?_
  refine c_region ?_
  refine JL_run 4 [] [9, 4, 3, 0] 0 ⟨[(9, vB (decide (((i : Nat) : Int) < ((s.n : Nat) : Int)))), (4, vI ((i : Nat) : Int)), (3, .v (.slice A L.length c)), (0, .v (.slice s.A s.n s.c))], []⟩ [] [] (by kernel_rfl) on wn ?_
  refine l_nil (q_then_normal ?_)
  cases h1 : decide (((i : Nat) : Int) < ((s.n : Nat) : Int)) with
  | true =>
    have h1 := of_decide_eq_true h1
    refine c_if true rfl ?_
    refine c_skip ?_
    refine q_then_normal ?_
    refine c_seq ?_
    refine c_block ?_
    refine c_seq ?_
    refine c_region ?_
    refine JL_run 6 [(2, .idx s.ad i), (3, .ext [.int .i64 (s.at i).client, .int .i64 (s.at i).id, .int .i64 (s.at i).acked, .int .i64 (s.at i).last, .slice (s.at i).replies.A (s.at i).replies.n (s.at i).replies.c])] [5, 4, 3, 0] 1 ⟨[(5, .p 0 0), (4, vI ((i : Nat) : Int)), (3, .v (.slice A L.length c)), (0, .v (.slice s.A s.n s.c))], [⟨98, [vI (s.at i).client, vI (s.at i).id, vI (s.at i).acked, vI (s.at i).last, .v (.slice (s.at i).replies.A (s.at i).replies.n (s.at i).replies.c)]⟩]⟩ [s.A = some s.ad, ((i : Nat) : Int) = ((i : Nat) : Int), i < s.n] [(s.ad.add (i * 5), [.int .i64 (s.at i).client, .int .i64 (s.at i).id, .int .i64 (s.at i).acked, .int .i64 (s.at i).last, .slice (s.at i).replies.A (s.at i).replies.n (s.at i).replies.c])] (by kernel_rfl) (oc (Sl.ok.own (s := s) (i := i) oks (by omega)) (oc rfl (oc (by omega) on))) (fun w hk hr => ⟨(Sl.rd.all (s := s) (i := i) (Sl.rd.kp hs hk) (by omega) rfl), trivial⟩) ?_
    refine l_nil (q_then_normal ?_)
    refine c_seq ?_
    refine c_region ?_
    refine JL_run 2 [] [17, 5, 4, 3, 0] 1 ⟨[(17, .v (.slice (s.at i).replies.A (s.at i).replies.n (s.at i).replies.c)), (5, .p 0 0), (4, vI ((i : Nat) : Int)), (3, .v (.slice A L.length c)), (0, .v (.slice s.A s.n s.c))], [⟨98, [vI (s.at i).client, vI (s.at i).id, vI (s.at i).acked, vI (s.at i).last, .v (.slice (s.at i).replies.A (s.at i).replies.n (s.at i).replies.c)]⟩]⟩ [] [] (by kernel_rfl) on wn ?_
    refine l_rowA (α := DKept) 101 ?_
    refine l_appendA (α := DKept) 101 40 none 0 ([]) (.v (.slice (s.at i).replies.A (s.at i).replies.n (s.at i).replies.c)) ((s.at i).replies.xs) Try.underlying96 (by kernel_rfl) rfl rfl rfl (fun bs w hS => ⟨_, _, rfl, Sl.rd.src (s := (s.at i).replies) (Sl.rd.sub (s := s) (i := i) (Sl.rd.kp hs hS.kp) (by omega))⟩) (by first | omega | (simp only [List.length_nil, List.length_cons, List.length_append]; omega) | (have hq := (hsm.2 i (by omega)).1; simp only [Sl.n, List.length_nil] at hq ⊢; omega)) (by first | omega | (simp only [List.length_nil, List.length_cons, List.length_append]; omega) | (have hq := (hsm.2 i (by omega)).1; simp only [Sl.n, List.length_nil] at hq ⊢; omega)) ?_
    intro A1 c1
    refine JL_run 2 [] [5, 4, 3, 0] 1 ⟨[(5, .p 0 0), (4, vI ((i : Nat) : Int)), (3, .v (.slice A L.length c)), (0, .v (.slice s.A s.n s.c))], [⟨98, [vI (s.at i).client, vI (s.at i).id, vI (s.at i).acked, vI (s.at i).last, .v (.slice A1 ([] ++ (s.at i).replies.xs).length c1)]⟩]⟩ [] [] (by kernel_rfl) on wn ?_
    refine l_nil (q_then_normal ?_)
    refine c_region ?_
    refine JL_run 3 [] [22, 20, 4, 0] 2 ⟨[(22, .s 1 0 1 1), (20, .v (.slice A L.length c)), (4, vI ((i : Nat) : Int)), (0, .v (.slice s.A s.n s.c))], [⟨98, [vI (s.at i).client, vI (s.at i).id, vI (s.at i).acked, vI (s.at i).last, .v (.slice A1 ([] ++ (s.at i).replies.xs).length c1)]⟩, ⟨98, [vI (s.at i).client, vI (s.at i).id, vI (s.at i).acked, vI (s.at i).last, .v (.slice A1 ([] ++ (s.at i).replies.xs).length c1)]⟩]⟩ [] [] (by kernel_rfl) on wn ?_
    refine l_perm (R' := [rowA 98 A c (L : List CSession), rowA 101 A1 c1 ([] ++ (s.at i).replies.xs : List DKept), ownL (keptR 101) L]) (permfront 2 rfl) ?_
    refine l_appendA (α := CSession) 98 56 A c (L) (.s 1 0 1 1) ([(⟨(s.at i).client, (s.at i).id, (s.at i).acked, (s.at i).last, ⟨A1, c1, [] ++ (s.at i).replies.xs⟩⟩ : CSession)]) Try.underlying37 (by kernel_rfl) rfl rfl rfl (fun bs w hS => by obtain ⟨q1, q2, q3, q4⟩ := src_loc (i := 1) (off := 0) (k := 1) (c := 1) (q := 5) (vs := [.int .i64 (s.at i).client, .int .i64 (s.at i).id, .int .i64 (s.at i).acked, .int .i64 (s.at i).last, .slice A1 ([] ++ (s.at i).replies.xs).length c1]) hS rfl rfl; exact ⟨some q1, q2, q3, q4⟩) (by first | omega | (simp only [List.length_nil, List.length_cons, List.length_append]; omega) | (have hq := (hsm.2 i (by omega)).1; simp only [Sl.n, List.length_nil] at hq ⊢; omega)) (by first | omega | (simp only [List.length_nil, List.length_cons, List.length_append]; omega) | (have hq := (hsm.2 i (by omega)).1; simp only [Sl.n, List.length_nil] at hq ⊢; omega)) ?_
    intro A2 c2
    refine JL_run 1 [] [3, 4, 0] 0 ⟨[(3, .v (.slice A2 (L ++ [(⟨(s.at i).client, (s.at i).id, (s.at i).acked, (s.at i).last, ⟨A1, c1, [] ++ (s.at i).replies.xs⟩⟩ : CSession)]).length c2)), (4, vI ((i : Nat) : Int)), (0, .v (.slice s.A s.n s.c))], []⟩ [] [] (by kernel_rfl) on wn ?_
    refine l_nil (q_block_normal (q_then_normal ?_))
    refine c_region ?_
    refine JL_run 3 [] [4, 3, 0] 0 ⟨[(4, vI (((i : Nat) : Int) + 1)), (3, .v (.slice A2 (L ++ [(⟨(s.at i).client, (s.at i).id, (s.at i).acked, (s.at i).last, ⟨A1, c1, [] ++ (s.at i).replies.xs⟩⟩ : CSession)]).length c2)), (0, .v (.slice s.A s.n s.c))], []⟩ [inR (((i : Nat) : Int) + 1)] [] (by kernel_rfl) (oc (by unfold inR; omega) on) wn ?_
    refine l_perm (R' := [rowA 101 A1 c1 ([] ++ (s.at i).replies.xs : List DKept), ownL (keptR 101) L, rowA 98 A2 c2 (L ++ [(⟨(s.at i).client, (s.at i).id, (s.at i).acked, (s.at i).last, ⟨A1, c1, [] ++ (s.at i).replies.xs⟩⟩ : CSession)] : List CSession)]) (by exact perm3 0 _ _ _) ?_
    refine l_join (ownL (keptR 101) (L ++ [(⟨(s.at i).client, (s.at i).id, (s.at i).acked, (s.at i).last, ⟨A1, c1, [] ++ (s.at i).replies.xs⟩⟩ : CSession)])) (ownL_app_fp (keptR 101) L (⟨(s.at i).client, (s.at i).id, (s.at i).acked, (s.at i).last, ⟨A1, c1, [] ++ (s.at i).replies.xs⟩⟩ : CSession)) (fun w => ownL_app_p (keptR 101) L (⟨(s.at i).client, (s.at i).id, (s.at i).acked, (s.at i).last, ⟨A1, c1, [] ++ (s.at i).replies.xs⟩⟩ : CSession) w) ?_
    refine l_nil (q_loop (x := (⟨i, A, c, L⟩ : Nat × Option Addr × Nat × List CSession)) (⟨i + 1, A2, c2, L ++ [(⟨(s.at i).client, (s.at i).id, (s.at i).acked, (s.at i).last, ⟨A1, c1, [] ++ (s.at i).replies.xs⟩⟩ : CSession)]⟩ : Nat × Option Addr × Nat × List CSession) ⟨by omega, by rw [List.length_append]; simp [hL], map_take_snoc (by omega) hI (by first | simp [CSession.abs, hF1] | simp [CSession.abs])⟩ (by show s.n - (i + 1) < s.n - i; omega) (s_start [4, 3, 0] 0 (by kernel_rfl) rfl))
  | false =>
    have h1 := of_decide_eq_false h1
    refine c_if false rfl ?_
    refine c_exit ?_
    refine q_then_exit (q_then_exit (q_block_hit (q_then_normal ?_)))
    refine c_seq ?_
    refine c_region ?_
    refine JL_run 2 [] [2] 0 ⟨[(2, .v (.slice A L.length c))], []⟩ [] [] (by kernel_rfl) on wn ?_
    refine l_nil (q_then_normal ?_)
    refine c_ret ?_
    refine q_ret (.inl rfl) [.v (.slice A L.length c)] rfl (fun bs w hS => ?_)
    have hn : L.length = s.n := by omega
    exact ⟨⟨A, c, L⟩, rfl, by rw [hI, take_all (by omega)], hS.kp, hS.out⟩
theorem ref_SessionsCopyS {B : Nat → Prop} (s : Sl CSession) (w : World) (hs : s.rd B w) (hsm : Rds.small s) : Calls Try.prog 58 #[.slice s.A s.n s.c] w fun e w' => ∃ y : Sl CSession, e = .returned y.val ∧ y.xs.map CSession.abs = s.xs.map CSession.abs ∧ FreshS w w' y :=
  (ref_SessionsCopy s w hs hsm).mono fun e w' ⟨y, h1, h2, h3, h4⟩ => ⟨y, h1, h2, h3, h4.sub fun hp => sessR_rd hp (sess_texts hs h2)⟩

theorem same_sessions {B B' : Nat → Prop} (a b : Sl CSession) (w : World) (ha : a.rd B w) (hb : b.rd B' w) (he : a.xs.map CSession.abs = b.xs.map CSession.abs) : Calls Try.prog 24 #[.slice a.A a.n a.c, .slice b.A b.n b.c] w fun e w' => e = .returned (.bool true) ∧ Kp [] w w' := by
  have oka := Sl.rd.ok ha
  have okb := Sl.rd.ok hb
  have hn := map_n he
  have nca := Sl.ok.nc oka
  refine calls_J0 81 Try.func24 rfl rfl [.slice a.A a.n a.c, .slice b.A b.n b.c] rfl ?_
  refine c_seq ?_
  refine c_region ?_
  refine JL_run 1 [] [0, 1] 0 ⟨[(0, .v (.slice a.A a.n a.c)), (1, .v (.slice b.A b.n b.c))], []⟩ [] [] (by kernel_rfl) on wn ?_
  refine l_nil (q_then_normal ?_)
  refine c_seq ?_
  refine c_seq ?_
  refine c_region ?_
  refine JL_run 5 [] [13, 0, 1] 0 ⟨[(13, vB (!(decide (((a.n : Nat) : Int) = ((b.n : Nat) : Int))))), (0, .v (.slice a.A a.n a.c)), (1, .v (.slice b.A b.n b.c))], []⟩ [] [] (by kernel_rfl) on wn ?_
  refine l_nil (q_then_normal ?_)
  cases h1 : decide (((a.n : Nat) : Int) = ((b.n : Nat) : Int)) with
  | true =>
    have h1 := of_decide_eq_true h1
    refine c_if false rfl ?_
    refine c_skip ?_
    refine q_then_normal ?_
    refine c_seq ?_
    refine c_seq ?_
    refine c_region ?_
    refine JL_run 1 [] [5, 0, 1] 0 ⟨[(5, vI 0), (0, .v (.slice a.A a.n a.c)), (1, .v (.slice b.A b.n b.c))], []⟩ [] [] (by kernel_rfl) on wn ?_
    refine l_nil (q_then_normal ?_)
    refine c_block ?_
    refine c_loop (σ := Nat) (fun i => True) (fun i => a.n - i) (fun i => []) (fun i => ⟨[(5, vI ((i : Nat) : Int)), (0, .v (.slice a.A a.n a.c)), (1, .v (.slice b.A b.n b.c))], []⟩) 0 trivial (s_start [5, 0, 1] 0 (by kernel_rfl) rfl) ?_
    rintro i _
    have hat := map_at (f := CSession.abs) (g := CSession.abs) rfl he i
    have q0 : (a.at i).client = (b.at i).client := congrArg DSession.client hat
    have q1 : (a.at i).id = (b.at i).id := congrArg DSession.id hat
    have q2 : (a.at i).acked = (b.at i).acked := congrArg DSession.acked hat
    have q3 : (a.at i).last = (b.at i).last := congrArg DSession.last hat
    have q4 : (a.at i).replies.xs = (b.at i).replies.xs := congrArg DSession.replies hat
    have q5 := xs_n q4
    refine c_seq ?_
    refine c_seq ?_
    refine c_region ?_
    refine JL_run 4 [] [17, 5, 0, 1] 0 ⟨[(17, vB (decide (((i : Nat) : Int) < ((a.n : Nat) : Int)))), (5, vI ((i : Nat) : Int)), (0, .v (.slice a.A a.n a.c)), (1, .v (.slice b.A b.n b.c))], []⟩ [] [] (by kernel_rfl) on wn ?_
    refine l_nil (q_then_normal ?_)
    cases h2 : decide (((i : Nat) : Int) < ((a.n : Nat) : Int)) with
    | true =>
      have h2 := of_decide_eq_true h2
      refine c_if true rfl ?_
      refine c_skip ?_
      refine q_then_normal ?_
      refine c_seq ?_
      refine c_block ?_
      refine c_seq ?_
      refine c_region ?_
      refine JL_run 6 [(2, .idx a.ad i), (3, .ext [.int .i64 (a.at i).client, .int .i64 (a.at i).id, .int .i64 (a.at i).acked, .int .i64 (a.at i).last, .slice (a.at i).replies.A (a.at i).replies.n (a.at i).replies.c])] [6, 5, 0, 1] 1 ⟨[(6, .p 0 0), (5, vI ((i : Nat) : Int)), (0, .v (.slice a.A a.n a.c)), (1, .v (.slice b.A b.n b.c))], [⟨98, [vI (a.at i).client, vI (a.at i).id, vI (a.at i).acked, vI (a.at i).last, .v (.slice (a.at i).replies.A (a.at i).replies.n (a.at i).replies.c)]⟩]⟩ [a.A = some a.ad, ((i : Nat) : Int) = ((i : Nat) : Int), i < a.n] [(a.ad.add (i * 5), [.int .i64 (a.at i).client, .int .i64 (a.at i).id, .int .i64 (a.at i).acked, .int .i64 (a.at i).last, .slice (a.at i).replies.A (a.at i).replies.n (a.at i).replies.c])] (by kernel_rfl) (oc (Sl.ok.own (s := a) (i := i) oka (by omega)) (oc rfl (oc (by omega) on))) (fun w hk hr => ⟨(Sl.rd.all (s := a) (i := i) (Sl.rd.kp ha hk) (by omega) rfl), trivial⟩) ?_
      refine l_nil (q_then_normal ?_)
      refine c_seq ?_
      refine c_region ?_
      refine JL_run 6 [(2, .idx b.ad i), (3, .ext [.int .i64 (b.at i).client, .int .i64 (b.at i).id, .int .i64 (b.at i).acked, .int .i64 (b.at i).last, .slice (b.at i).replies.A (b.at i).replies.n (b.at i).replies.c])] [7, 6, 5, 0, 1] 2 ⟨[(7, .p 1 0), (6, .p 0 0), (5, vI ((i : Nat) : Int)), (0, .v (.slice a.A a.n a.c)), (1, .v (.slice b.A b.n b.c))], [⟨98, [vI (a.at i).client, vI (a.at i).id, vI (a.at i).acked, vI (a.at i).last, .v (.slice (a.at i).replies.A (a.at i).replies.n (a.at i).replies.c)]⟩, ⟨98, [vI (b.at i).client, vI (b.at i).id, vI (b.at i).acked, vI (b.at i).last, .v (.slice (b.at i).replies.A (b.at i).replies.n (b.at i).replies.c)]⟩]⟩ [b.A = some b.ad, ((i : Nat) : Int) = ((i : Nat) : Int), i < b.n] [(b.ad.add (i * 5), [.int .i64 (b.at i).client, .int .i64 (b.at i).id, .int .i64 (b.at i).acked, .int .i64 (b.at i).last, .slice (b.at i).replies.A (b.at i).replies.n (b.at i).replies.c])] (by kernel_rfl) (oc (Sl.ok.own (s := b) (i := i) okb (by omega)) (oc rfl (oc (by omega) on))) (fun w hk hr => ⟨(Sl.rd.all (s := b) (i := i) (Sl.rd.kp hb hk) (by omega) rfl), trivial⟩) ?_
      refine l_nil (q_then_normal ?_)
      refine c_seq ?_
      refine c_seq ?_
      refine c_region ?_
      refine JL_run 6 [] [33, 7, 6, 5, 0, 1] 2 ⟨[(33, vB (!(decide ((a.at i).client = (b.at i).client)))), (7, .p 1 0), (6, .p 0 0), (5, vI ((i : Nat) : Int)), (0, .v (.slice a.A a.n a.c)), (1, .v (.slice b.A b.n b.c))], [⟨98, [vI (a.at i).client, vI (a.at i).id, vI (a.at i).acked, vI (a.at i).last, .v (.slice (a.at i).replies.A (a.at i).replies.n (a.at i).replies.c)]⟩, ⟨98, [vI (b.at i).client, vI (b.at i).id, vI (b.at i).acked, vI (b.at i).last, .v (.slice (b.at i).replies.A (b.at i).replies.n (b.at i).replies.c)]⟩]⟩ [] [] (by kernel_rfl) on wn ?_
      cases h3 : decide ((a.at i).client = (b.at i).client) with
      | true =>
        have h3 := of_decide_eq_true h3
        refine JL_run 7 [] [40, 7, 6, 5, 0, 1] 2 ⟨[(40, vB (!(decide ((a.at i).id = (b.at i).id)))), (7, .p 1 0), (6, .p 0 0), (5, vI ((i : Nat) : Int)), (0, .v (.slice a.A a.n a.c)), (1, .v (.slice b.A b.n b.c))], [⟨98, [vI (a.at i).client, vI (a.at i).id, vI (a.at i).acked, vI (a.at i).last, .v (.slice (a.at i).replies.A (a.at i).replies.n (a.at i).replies.c)]⟩, ⟨98, [vI (b.at i).client, vI (b.at i).id, vI (b.at i).acked, vI (b.at i).last, .v (.slice (b.at i).replies.A (b.at i).replies.n (b.at i).replies.c)]⟩]⟩ [] [] (by kernel_rfl) on wn ?_
        cases h4 : decide ((a.at i).id = (b.at i).id) with
        | true =>
          have h4 := of_decide_eq_true h4
          refine JL_run 7 [] [47, 7, 6, 5, 0, 1] 2 ⟨[(47, vB (!(decide ((a.at i).acked = (b.at i).acked)))), (7, .p 1 0), (6, .p 0 0), (5, vI ((i : Nat) : Int)), (0, .v (.slice a.A a.n a.c)), (1, .v (.slice b.A b.n b.c))], [⟨98, [vI (a.at i).client, vI (a.at i).id, vI (a.at i).acked, vI (a.at i).last, .v (.slice (a.at i).replies.A (a.at i).replies.n (a.at i).replies.c)]⟩, ⟨98, [vI (b.at i).client, vI (b.at i).id, vI (b.at i).acked, vI (b.at i).last, .v (.slice (b.at i).replies.A (b.at i).replies.n (b.at i).replies.c)]⟩]⟩ [] [] (by kernel_rfl) on wn ?_
          cases h5 : decide ((a.at i).acked = (b.at i).acked) with
          | true =>
            have h5 := of_decide_eq_true h5
            refine JL_run 7 [] [54, 7, 6, 5, 0, 1] 2 ⟨[(54, vB (!(decide ((a.at i).last = (b.at i).last)))), (7, .p 1 0), (6, .p 0 0), (5, vI ((i : Nat) : Int)), (0, .v (.slice a.A a.n a.c)), (1, .v (.slice b.A b.n b.c))], [⟨98, [vI (a.at i).client, vI (a.at i).id, vI (a.at i).acked, vI (a.at i).last, .v (.slice (a.at i).replies.A (a.at i).replies.n (a.at i).replies.c)]⟩, ⟨98, [vI (b.at i).client, vI (b.at i).id, vI (b.at i).acked, vI (b.at i).last, .v (.slice (b.at i).replies.A (b.at i).replies.n (b.at i).replies.c)]⟩]⟩ [] [] (by kernel_rfl) on wn ?_
            cases h6 : decide ((a.at i).last = (b.at i).last) with
            | true =>
              have h6 := of_decide_eq_true h6
              refine JL_run 8 [] [62, 7, 6, 5, 0, 1] 2 ⟨[(62, vB (!(decide ((((a.at i).replies.n : Nat) : Int) = (((b.at i).replies.n : Nat) : Int))))), (7, .p 1 0), (6, .p 0 0), (5, vI ((i : Nat) : Int)), (0, .v (.slice a.A a.n a.c)), (1, .v (.slice b.A b.n b.c))], [⟨98, [vI (a.at i).client, vI (a.at i).id, vI (a.at i).acked, vI (a.at i).last, .v (.slice (a.at i).replies.A (a.at i).replies.n (a.at i).replies.c)]⟩, ⟨98, [vI (b.at i).client, vI (b.at i).id, vI (b.at i).acked, vI (b.at i).last, .v (.slice (b.at i).replies.A (b.at i).replies.n (b.at i).replies.c)]⟩]⟩ [] [] (by kernel_rfl) on wn ?_
              refine l_nil (q_then_normal ?_)
              cases h7 : decide ((((a.at i).replies.n : Nat) : Int) = (((b.at i).replies.n : Nat) : Int)) with
              | true =>
                have h7 := of_decide_eq_true h7
                refine c_if false rfl ?_
                refine c_skip ?_
                refine q_then_normal ?_
                refine c_seq ?_
                refine c_region ?_
                refine JL_run 1 [] [8, 7, 6, 5, 0, 1] 2 ⟨[(8, vI 0), (7, .p 1 0), (6, .p 0 0), (5, vI ((i : Nat) : Int)), (0, .v (.slice a.A a.n a.c)), (1, .v (.slice b.A b.n b.c))], [⟨98, [vI (a.at i).client, vI (a.at i).id, vI (a.at i).acked, vI (a.at i).last, .v (.slice (a.at i).replies.A (a.at i).replies.n (a.at i).replies.c)]⟩, ⟨98, [vI (b.at i).client, vI (b.at i).id, vI (b.at i).acked, vI (b.at i).last, .v (.slice (b.at i).replies.A (b.at i).replies.n (b.at i).replies.c)]⟩]⟩ [] [] (by kernel_rfl) on wn ?_
                refine l_nil (q_then_normal ?_)
                refine c_block ?_
                refine c_loop (σ := Nat) (fun j => True) (fun j => (a.at i).replies.n - j) (fun j => []) (fun j => ⟨[(8, vI ((j : Nat) : Int)), (7, .p 1 0), (6, .p 0 0), (5, vI ((i : Nat) : Int)), (0, .v (.slice a.A a.n a.c)), (1, .v (.slice b.A b.n b.c))], [⟨98, [vI (a.at i).client, vI (a.at i).id, vI (a.at i).acked, vI (a.at i).last, .v (.slice (a.at i).replies.A (a.at i).replies.n (a.at i).replies.c)]⟩, ⟨98, [vI (b.at i).client, vI (b.at i).id, vI (b.at i).acked, vI (b.at i).last, .v (.slice (b.at i).replies.A (b.at i).replies.n (b.at i).replies.c)]⟩]⟩) 0 trivial (s_start [8, 7, 6, 5, 0, 1] 2 (by kernel_rfl) rfl) ?_
                rintro j _
                have hbt := xs_at q4 j
                have ncr := Sl.ok.nc (Sl.ok.at oka (show i < a.n by omega))
                refine c_seq ?_
                refine c_seq ?_
                refine c_region ?_
                refine JL_run 5 [] [67, 8, 7, 6, 5, 0, 1] 2 ⟨[(67, vB (decide (((j : Nat) : Int) < (((a.at i).replies.n : Nat) : Int)))), (8, vI ((j : Nat) : Int)), (7, .p 1 0), (6, .p 0 0), (5, vI ((i : Nat) : Int)), (0, .v (.slice a.A a.n a.c)), (1, .v (.slice b.A b.n b.c))], [⟨98, [vI (a.at i).client, vI (a.at i).id, vI (a.at i).acked, vI (a.at i).last, .v (.slice (a.at i).replies.A (a.at i).replies.n (a.at i).replies.c)]⟩, ⟨98, [vI (b.at i).client, vI (b.at i).id, vI (b.at i).acked, vI (b.at i).last, .v (.slice (b.at i).replies.A (b.at i).replies.n (b.at i).replies.c)]⟩]⟩ [] [] (by kernel_rfl) on wn ?_
                refine l_nil (q_then_normal ?_)
                cases h8 : decide (((j : Nat) : Int) < (((a.at i).replies.n : Nat) : Int)) with
                | true =>
                  have h8 := of_decide_eq_true h8
                  refine c_if true rfl ?_
                  refine c_skip ?_
                  refine q_then_normal ?_
                  refine c_seq ?_
                  refine c_block ?_
                  refine c_seq ?_
                  refine c_draw 11 [(0, false), (1, false), (2, false), (3, false), (4, false), (5, false), (6, false), (7, false), (8, false), (9, false), (10, false)] [] [] Try_mixed (by kernel_rfl) (pq_then (pq_block (pq_then (pq_then (pq_block (pq_block (pq_then (pq_then (pq_block (pq_then pq_body)))))))))) (List.Sublist.refl _) ?_
                  refine h_quiet [(3, .idx (a.at i).replies.ad j), (4, .ext [.int .i64 ((a.at i).replies.at j).seq, .int .i64 ((a.at i).replies.at j).reply.code, .int .i64 ((a.at i).replies.at j).reply.n, .string ((a.at i).replies.at j).reply.text]), (8, .idx (b.at i).replies.ad j), (9, .ext [.int .i64 ((b.at i).replies.at j).seq, .int .i64 ((b.at i).replies.at j).reply.code, .int .i64 ((b.at i).replies.at j).reply.n, .string ((b.at i).replies.at j).reply.text]), (10, .val (.bool (!((decide (((a.at i).replies.at j).seq = ((b.at i).replies.at j).seq)) && (((decide (((a.at i).replies.at j).reply.code = ((b.at i).replies.at j).reply.code)) && ((decide (((a.at i).replies.at j).reply.n = ((b.at i).replies.at j).reply.n)) && ((decide (((a.at i).replies.at j).reply.text = ((b.at i).replies.at j).reply.text)) && true))) && true)))))] 11 [(80, vB (!((decide (((a.at i).replies.at j).seq = ((b.at i).replies.at j).seq)) && (((decide (((a.at i).replies.at j).reply.code = ((b.at i).replies.at j).reply.code)) && ((decide (((a.at i).replies.at j).reply.n = ((b.at i).replies.at j).reply.n)) && ((decide (((a.at i).replies.at j).reply.text = ((b.at i).replies.at j).reply.text)) && true))) && true)))), (79, .v (.agg #[.int .i64 ((b.at i).replies.at j).seq, .int .i64 ((b.at i).replies.at j).reply.code, .int .i64 ((b.at i).replies.at j).reply.n, .string ((b.at i).replies.at j).reply.text])), (78, .v (.pointer (some ((b.at i).replies.ad.add (j * 4))))), (77, vI ((j : Nat) : Int)), (76, .v (.slice (b.at i).replies.A (b.at i).replies.n (b.at i).replies.c)), (75, .p 1 4), (74, .v (.agg #[.int .i64 ((a.at i).replies.at j).seq, .int .i64 ((a.at i).replies.at j).reply.code, .int .i64 ((a.at i).replies.at j).reply.n, .string ((a.at i).replies.at j).reply.text])), (73, .v (.pointer (some ((a.at i).replies.ad.add (j * 4))))), (72, vI ((j : Nat) : Int)), (71, .v (.slice (a.at i).replies.A (a.at i).replies.n (a.at i).replies.c)), (70, .p 0 4), (67, vB true), (8, vI ((j : Nat) : Int)), (7, .p 1 0), (6, .p 0 0), (5, vI ((i : Nat) : Int)), (0, .v (.slice a.A a.n a.c)), (1, .v (.slice b.A b.n b.c))] [(a.at i).replies.A = some (a.at i).replies.ad, ((j : Nat) : Int) = ((j : Nat) : Int), j < (a.at i).replies.n, (b.at i).replies.A = some (b.at i).replies.ad, ((j : Nat) : Int) = ((j : Nat) : Int), j < (b.at i).replies.n, ∀ w, (do eqGuard .neq 101 (.tmp 74) (.tmp 79) (.agg #[.int .i64 ((a.at i).replies.at j).seq, .int .i64 ((a.at i).replies.at j).reply.code, .int .i64 ((a.at i).replies.at j).reply.n, .string ((a.at i).replies.at j).reply.text]) (.agg #[.int .i64 ((b.at i).replies.at j).seq, .int .i64 ((b.at i).replies.at j).reply.code, .int .i64 ((b.at i).replies.at j).reply.n, .string ((b.at i).replies.at j).reply.text]); binOp .neq 101 (.agg #[.int .i64 ((a.at i).replies.at j).seq, .int .i64 ((a.at i).replies.at j).reply.code, .int .i64 ((a.at i).replies.at j).reply.n, .string ((a.at i).replies.at j).reply.text]) (.agg #[.int .i64 ((b.at i).replies.at j).seq, .int .i64 ((b.at i).replies.at j).reply.code, .int .i64 ((b.at i).replies.at j).reply.n, .string ((b.at i).replies.at j).reply.text]) : Sem Value).run Try.prog w = .ok (.bool (!((decide (((a.at i).replies.at j).seq = ((b.at i).replies.at j).seq)) && (((decide (((a.at i).replies.at j).reply.code = ((b.at i).replies.at j).reply.code)) && ((decide (((a.at i).replies.at j).reply.n = ((b.at i).replies.at j).reply.n)) && ((decide (((a.at i).replies.at j).reply.text = ((b.at i).replies.at j).reply.text)) && true))) && true)))) w] [((a.at i).replies.ad.add (j * 4), [.int .i64 ((a.at i).replies.at j).seq, .int .i64 ((a.at i).replies.at j).reply.code, .int .i64 ((a.at i).replies.at j).reply.n, .string ((a.at i).replies.at j).reply.text]), ((b.at i).replies.ad.add (j * 4), [.int .i64 ((b.at i).replies.at j).seq, .int .i64 ((b.at i).replies.at j).reply.code, .int .i64 ((b.at i).replies.at j).reply.n, .string ((b.at i).replies.at j).reply.text])] rfl rfl (by kernel_rfl) (oc (Sl.ok.own (s := (a.at i).replies) (i := j) (Sl.ok.at (s := a) (i := i) oka (by omega)) (by omega)) (oc rfl (oc (by omega) (oc (Sl.ok.own (s := (b.at i).replies) (i := j) (Sl.ok.at (s := b) (i := i) okb (by omega)) (by omega)) (oc rfl (oc (by omega) (oc (neq_agg (by kernel_rfl) (by kernel_rfl)) on))))))) (fun w hk hr => ⟨(Sl.rd.all (s := (a.at i).replies) (i := j) (Sl.rd.sub (s := a) (i := i) (Sl.rd.kp ha hk) (by omega)) (by omega) rfl), ⟨(Sl.rd.all (s := (b.at i).replies) (i := j) (Sl.rd.sub (s := b) (i := i) (Sl.rd.kp hb hk) (by omega)) (by omega) rfl), trivial⟩⟩) ?_
                  refine h_nil ?_
                  refine l_nil (q_then_normal ?_)
                  cases h9 : (decide (((a.at i).replies.at j).seq = ((b.at i).replies.at j).seq)) && (((decide (((a.at i).replies.at j).reply.code = ((b.at i).replies.at j).reply.code)) && ((decide (((a.at i).replies.at j).reply.n = ((b.at i).replies.at j).reply.n)) && ((decide (((a.at i).replies.at j).reply.text = ((b.at i).replies.at j).reply.text)) && true))) && true) with
                  | true =>
                    refine c_if false rfl ?_
                    refine c_skip ?_
                    refine q_block_normal (q_then_normal ?_)
                    refine c_region ?_
                    refine JL_run 3 [] [8, 7, 6, 5, 0, 1] 2 ⟨[(8, vI (((j : Nat) : Int) + 1)), (7, .p 1 0), (6, .p 0 0), (5, vI ((i : Nat) : Int)), (0, .v (.slice a.A a.n a.c)), (1, .v (.slice b.A b.n b.c))], [⟨98, [vI (a.at i).client, vI (a.at i).id, vI (a.at i).acked, vI (a.at i).last, .v (.slice (a.at i).replies.A (a.at i).replies.n (a.at i).replies.c)]⟩, ⟨98, [vI (b.at i).client, vI (b.at i).id, vI (b.at i).acked, vI (b.at i).last, .v (.slice (b.at i).replies.A (b.at i).replies.n (b.at i).replies.c)]⟩]⟩ [inR (((j : Nat) : Int) + 1)] [] (by kernel_rfl) (oc (by unfold inR; omega) on) wn ?_
                    refine l_nil (q_loop (x := (j : Nat)) ((j + 1) : Nat) trivial (by omega) (s_start [8, 7, 6, 5, 0, 1] 2 (by kernel_rfl) rfl))
                  | false =>
                    exfalso; first | omega | (rw [hbt] at h9; simp at h9)
                | false =>
                  have h8 := of_decide_eq_false h8
                  refine c_if false rfl ?_
                  refine c_exit ?_
                  refine q_then_exit (q_then_exit (q_block_hit (q_block_normal (q_then_normal ?_))))
                  refine c_region ?_
                  refine JL_run 3 [] [5, 0, 1] 0 ⟨[(5, vI (((i : Nat) : Int) + 1)), (0, .v (.slice a.A a.n a.c)), (1, .v (.slice b.A b.n b.c))], []⟩ [inR (((i : Nat) : Int) + 1)] [] (by kernel_rfl) (oc (by unfold inR; omega) on) wn ?_
                  refine l_nil (q_loop (x := (i : Nat)) ((i + 1) : Nat) trivial (by omega) (s_start [5, 0, 1] 0 (by kernel_rfl) rfl))
              | false =>
                have h7 := of_decide_eq_false h7
                exfalso; first | omega | (rw [hbt] at h7; simp at h7)
            | false =>
              have h6 := of_decide_eq_false h6
              exfalso; first | omega | (rw [hbt] at h6; simp at h6)
          | false =>
            have h5 := of_decide_eq_false h5
            exfalso; first | omega | (rw [hbt] at h5; simp at h5)
        | false =>
          have h4 := of_decide_eq_false h4
          exfalso; first | omega | (rw [hbt] at h4; simp at h4)
      | false =>
        have h3 := of_decide_eq_false h3
        exfalso; first | omega | (rw [hbt] at h3; simp at h3)
    | false =>
      have h2 := of_decide_eq_false h2
      refine c_if false rfl ?_
      refine c_exit ?_
      refine q_then_exit (q_then_exit (q_block_hit (q_then_normal ?_)))
      refine c_seq ?_
      refine c_region ?_
      refine JL_run 1 [] [4] 0 ⟨[(4, vB true)], []⟩ [] [] (by kernel_rfl) on wn ?_
      refine l_nil (q_then_normal ?_)
      refine c_ret ?_
      refine q_ret (.inl rfl) [vB true] rfl (fun bs w hS => ?_)
      exact ⟨rfl, hS.kp⟩
  | false =>
    have h1 := of_decide_eq_false h1
    exfalso; first | omega | (rw [hbt] at h1; simp at h1)

theorem law_kept {B : Nat → Prop} (s : Sl CSession) (w : World) (hs : s.rd B w) (hsm : Rds.small s) : Calls Try.prog 21 #[.slice s.A s.n s.c] w fun e w' => ∃ y : Sl CSession, e = .returned y.val ∧ y.xs.map CSession.abs = s.xs.map CSession.abs ∧ FreshS w w' y := by
  have oks := Sl.rd.ok hs
  have ncs := Sl.ok.nc oks
  have hns : s.n = s.xs.length := rfl
  refine calls_J0 5 Try.func21 rfl rfl [.slice s.A s.n s.c] rfl ?_
  refine c_seq ?_
  refine c_region ?_
  refine JL_run 1 [] [0] 0 ⟨[(0, .v (.slice s.A s.n s.c))], []⟩ [] [] (by kernel_rfl) on wn ?_
  refine l_nil (q_then_normal ?_)
  refine c_seq ?_
  refine c_region ?_
  refine JL_run 1 [] [3] 0 ⟨[(3, .v (.slice s.A s.n s.c))], []⟩ [] [] (by kernel_rfl) on wn ?_
  refine l_sub_call (σ := Sl CSession) 58 [] [.v (.slice s.A s.n s.c)] (fun y1 => .slice y1.A y1.n y1.c) (fun y1 => y1.xs.map CSession.abs = s.xs.map CSession.abs) Try.call58 rfl rfl rfl rfl (fun bs w hS => ref_SessionsCopyS s w (Sl.rd.kp hs hS.kp) hsm) ?_
  rintro fp1 y1 hF1 hok1
  refine JL_run 1 [] [2] 0 ⟨[(2, .v (.slice y1.A y1.n y1.c))], []⟩ [] [] (by kernel_rfl) on wn ?_
  refine l_nil (q_then_normal ?_)
  refine c_ret ?_
  refine q_ret (.inl rfl) [.v (.slice y1.A y1.n y1.c)] rfl (fun bs w hS => ?_)
  exact ⟨y1, rfl, hF1, hS.outS (allR_sub (.head _) (hS.res _ (.head _)))⟩

theorem session_find_1 (x : CSession) (t : Int) (w : World) : Calls Try.prog 101 #[.agg #[.int .i64 x.client, .int .i64 x.id, .int .i64 x.acked, .int .i64 x.last, .slice x.replies.A x.replies.n x.replies.c], .int .i64 t] w fun e w' => e = .returned (.int .i64 (IntKind.i64.wrap (x.client - t))) ∧ Kp [] w w' := by
  refine calls_J0 9 Try.func101 rfl rfl [.agg #[.int .i64 x.client, .int .i64 x.id, .int .i64 x.acked, .int .i64 x.last, .slice x.replies.A x.replies.n x.replies.c], .int .i64 t] rfl ?_
  refine c_seq ?_
  refine c_region ?_
  refine JL_run 2 [] [2, 1] 1 ⟨[(2, .p 0 0), (1, vI t)], [⟨98, [vI x.client, vI x.id, vI x.acked, vI x.last, .v (.slice x.replies.A x.replies.n x.replies.c)]⟩]⟩ [] [] (by kernel_rfl) on wn ?_
  refine l_nil (q_then_normal ?_)
  refine c_seq ?_
  refine c_region ?_
  refine JL_run 5 [(3, .val (.int .i64 (IntKind.i64.wrap (x.client - t))))] [4] 0 ⟨[(4, vI (IntKind.i64.wrap (x.client - t)))], []⟩ [∀ w, (do eqGuard .sub 3 (.tmp 6) (.tmp 7) (.int .i64 x.client) (.int .i64 t); binOp .sub 3 (.int .i64 x.client) (.int .i64 t) : Sem Value).run Try.prog w = .ok (.int .i64 (IntKind.i64.wrap (x.client - t))) w] [] (by kernel_rfl) (oc sub_wrap on) wn ?_
  refine l_nil (q_then_normal ?_)
  refine c_ret ?_
  refine q_ret (.inl rfl) [vI (IntKind.i64.wrap (x.client - t))] rfl (fun bs w hS => ?_)
  exact ⟨rfl, hS.kp⟩

theorem bs_session_find_1 {B : Nat → Prop} (s : Sl CSession) (t : Int) (w : World) (hs : s.rd B w) (hn : s.n ≤ 1048576) : Calls Try.prog 100 #[.slice s.A s.n s.c, .int .i64 t, .func (.func 101) #[] #[]] w fun e w' => e = .returned (.tuple #[.int .i64 (mBS (fun x : CSession => IntKind.i64.wrap (x.client - t)) s.xs : Nat), .bool (mBSf (fun x : CSession => IntKind.i64.wrap (x.client - t)) s.xs)]) ∧ Kp [] w w' := by
  have oks := Sl.rd.ok hs
  have ncs := Sl.ok.nc oks
  have hns : s.n = s.xs.length := rfl
  refine calls_J 49 [] Try.func100 rfl rfl [] [] [] [.v (.slice s.A s.n s.c), vI t, .fn 101 []] [.slice s.A s.n s.c, .int .i64 t, .func (.func 101) #[] #[]] rfl rfl (WS.start w) ?_
  refine c_seq ?_
  refine c_region ?_
  refine JL_run 2 [] [0, 1, 2] 0 ⟨[(0, .v (.slice s.A s.n s.c)), (1, vI t), (2, .fn 101 [])], []⟩ [] [] (by kernel_rfl) on wn ?_
  refine l_nil (q_then_normal ?_)
  refine c_seq ?_
  refine c_region ?_
  refine JL_run 3 [] [8, 0, 1, 2] 0 ⟨[(8, vI ((s.n : Nat) : Int)), (0, .v (.slice s.A s.n s.c)), (1, vI t), (2, .fn 101 [])], []⟩ [] [] (by kernel_rfl) on wn ?_
  refine l_nil (q_then_normal ?_)
  refine c_seq ?_
  refine c_region ?_
  refine JL_run 3 [] [10, 9, 8, 0, 1, 2] 0 ⟨[(10, vI ((s.n : Nat) : Int)), (9, vI 0), (8, vI ((s.n : Nat) : Int)), (0, .v (.slice s.A s.n s.c)), (1, vI t), (2, .fn 101 [])], []⟩ [] [] (by kernel_rfl) on wn ?_
  refine l_nil (q_then_normal ?_)
  refine c_seq ?_
  refine c_block ?_
  refine c_loop (σ := Nat × Nat × Nat) (fun ⟨i, j, f⟩ => i ≤ j ∧ j ≤ s.n ∧ j - i ≤ f ∧ mBS (fun x : CSession => IntKind.i64.wrap (x.client - t)) s.xs = bsGo (fun j => decide (IntKind.i64.wrap ((s.at j).client - t) < 0)) f i j) (fun ⟨i, j, f⟩ => f) (fun ⟨i, j, f⟩ => []) (fun ⟨i, j, f⟩ => ⟨[(10, vI ((j : Nat) : Int)), (9, vI ((i : Nat) : Int)), (8, vI ((s.n : Nat) : Int)), (0, .v (.slice s.A s.n s.c)), (1, vI t), (2, .fn 101 [])], []⟩) ⟨0, s.n, s.n⟩ ⟨Nat.zero_le _, Nat.le_refl _, Nat.le_refl _, rfl⟩ (s_start [10, 9, 8, 0, 1, 2] 0 (by kernel_rfl) rfl) ?_
  rintro ⟨i, j, f⟩ ⟨h1, h2, h3, hI⟩
  have hdiv : ((i : Int) + (j : Int)) / 2 = (((i + j) / 2 : Nat) : Int) := by omega
  refine c_seq ?_
  refine c_seq ?_
  refine c_region ?_
  refine JL_run 3 [] [17, 10, 9, 8, 0, 1, 2] 0 ⟨[(17, vB (decide (((i : Nat) : Int) < ((j : Nat) : Int)))), (10, vI ((j : Nat) : Int)), (9, vI ((i : Nat) : Int)), (8, vI ((s.n : Nat) : Int)), (0, .v (.slice s.A s.n s.c)), (1, vI t), (2, .fn 101 [])], []⟩ [] [] (by kernel_rfl) on wn ?_
  refine l_nil (q_then_normal ?_)
  cases h1 : decide (((i : Nat) : Int) < ((j : Nat) : Int)) with
  | true =>
    have h1 := of_decide_eq_true h1
    refine c_if true rfl ?_
    refine c_skip ?_
    refine q_then_normal ?_
    refine c_block ?_
    refine c_seq ?_
    refine c_region ?_
    refine JL_run 7 [(3, .val (.int .u64 (((i : Nat) : Int) + ((j : Nat) : Int)))), (4, .val (.int .u64 ((((i : Nat) : Int) + ((j : Nat) : Int)) / 2))), (5, .val (.int .i64 ((((i : Nat) : Int) + ((j : Nat) : Int)) / 2)))] [11, 10, 9, 8, 0, 1, 2] 0 ⟨[(11, vI ((((i : Nat) : Int) + ((j : Nat) : Int)) / 2)), (10, vI ((j : Nat) : Int)), (9, vI ((i : Nat) : Int)), (8, vI ((s.n : Nat) : Int)), (0, .v (.slice s.A s.n s.c)), (1, vI t), (2, .fn 101 [])], []⟩ [inR (((i : Nat) : Int) + ((j : Nat) : Int)), ∀ w, (convert 3 131 (.int .i64 (((i : Nat) : Int) + ((j : Nat) : Int))) : Sem Value).run Try.prog w = .ok (.int .u64 (((i : Nat) : Int) + ((j : Nat) : Int))) w, ∀ w, (do eqGuard .shr 131 (.tmp 21) (.const (.int .u64 1)) (.int .u64 (((i : Nat) : Int) + ((j : Nat) : Int))) (.int .u64 1); binOp .shr 131 (.int .u64 (((i : Nat) : Int) + ((j : Nat) : Int))) (.int .u64 1) : Sem Value).run Try.prog w = .ok (.int .u64 ((((i : Nat) : Int) + ((j : Nat) : Int)) / 2)) w, ∀ w, (convert 131 3 (.int .u64 ((((i : Nat) : Int) + ((j : Nat) : Int)) / 2)) : Sem Value).run Try.prog w = .ok (.int .i64 ((((i : Nat) : Int) + ((j : Nat) : Int)) / 2)) w] [] (by kernel_rfl) (oc (by unfold inR; omega) (oc (conv_i64_u64 Try.underlying3 Try.underlying131 (by omega) (by omega)) (oc shr_u64 (oc (conv_u64_i64 Try.underlying131 Try.underlying3 (by omega) (by omega)) on)))) wn ?_
    refine l_nil (q_then_normal ?_)
    refine c_seq ?_
    refine c_region ?_
    refine JL_run 6 [(3, .idx s.ad ((((i : Nat) : Int) + ((j : Nat) : Int)) / 2).toNat), (4, .ext [.int .i64 (s.at ((((i : Nat) : Int) + ((j : Nat) : Int)) / 2).toNat).client, .int .i64 (s.at ((((i : Nat) : Int) + ((j : Nat) : Int)) / 2).toNat).id, .int .i64 (s.at ((((i : Nat) : Int) + ((j : Nat) : Int)) / 2).toNat).acked, .int .i64 (s.at ((((i : Nat) : Int) + ((j : Nat) : Int)) / 2).toNat).last, .slice (s.at ((((i : Nat) : Int) + ((j : Nat) : Int)) / 2).toNat).replies.A (s.at ((((i : Nat) : Int) + ((j : Nat) : Int)) / 2).toNat).replies.n (s.at ((((i : Nat) : Int) + ((j : Nat) : Int)) / 2).toNat).replies.c])] [29, 28, 24, 11, 10, 9, 8, 0, 1, 2] 0 ⟨[(29, vI t), (28, .v (.agg #[.int .i64 (s.at ((((i : Nat) : Int) + ((j : Nat) : Int)) / 2).toNat).client, .int .i64 (s.at ((((i : Nat) : Int) + ((j : Nat) : Int)) / 2).toNat).id, .int .i64 (s.at ((((i : Nat) : Int) + ((j : Nat) : Int)) / 2).toNat).acked, .int .i64 (s.at ((((i : Nat) : Int) + ((j : Nat) : Int)) / 2).toNat).last, .slice (s.at ((((i : Nat) : Int) + ((j : Nat) : Int)) / 2).toNat).replies.A (s.at ((((i : Nat) : Int) + ((j : Nat) : Int)) / 2).toNat).replies.n (s.at ((((i : Nat) : Int) + ((j : Nat) : Int)) / 2).toNat).replies.c])), (24, .fn 101 []), (11, vI ((((i : Nat) : Int) + ((j : Nat) : Int)) / 2)), (10, vI ((j : Nat) : Int)), (9, vI ((i : Nat) : Int)), (8, vI ((s.n : Nat) : Int)), (0, .v (.slice s.A s.n s.c)), (1, vI t), (2, .fn 101 [])], []⟩ [s.A = some s.ad, (((i : Nat) : Int) + ((j : Nat) : Int)) / 2 = ((((((i : Nat) : Int) + ((j : Nat) : Int)) / 2).toNat : Nat) : Int), ((((i : Nat) : Int) + ((j : Nat) : Int)) / 2).toNat < s.n] [(s.ad.add (((((i : Nat) : Int) + ((j : Nat) : Int)) / 2).toNat * 5), [.int .i64 (s.at ((((i : Nat) : Int) + ((j : Nat) : Int)) / 2).toNat).client, .int .i64 (s.at ((((i : Nat) : Int) + ((j : Nat) : Int)) / 2).toNat).id, .int .i64 (s.at ((((i : Nat) : Int) + ((j : Nat) : Int)) / 2).toNat).acked, .int .i64 (s.at ((((i : Nat) : Int) + ((j : Nat) : Int)) / 2).toNat).last, .slice (s.at ((((i : Nat) : Int) + ((j : Nat) : Int)) / 2).toNat).replies.A (s.at ((((i : Nat) : Int) + ((j : Nat) : Int)) / 2).toNat).replies.n (s.at ((((i : Nat) : Int) + ((j : Nat) : Int)) / 2).toNat).replies.c])] (by kernel_rfl) (oc (Sl.ok.own (s := s) (i := ((((i : Nat) : Int) + ((j : Nat) : Int)) / 2).toNat) oks (by omega)) (oc (by omega) (oc (by omega) on))) (fun w hk hr => ⟨(Sl.rd.all (s := s) (i := ((((i : Nat) : Int) + ((j : Nat) : Int)) / 2).toNat) (Sl.rd.kp hs hk) (by omega) rfl), trivial⟩) ?_
    refine l_pure 101 [] [.v (.agg #[.int .i64 (s.at ((((i : Nat) : Int) + ((j : Nat) : Int)) / 2).toNat).client, .int .i64 (s.at ((((i : Nat) : Int) + ((j : Nat) : Int)) / 2).toNat).id, .int .i64 (s.at ((((i : Nat) : Int) + ((j : Nat) : Int)) / 2).toNat).acked, .int .i64 (s.at ((((i : Nat) : Int) + ((j : Nat) : Int)) / 2).toNat).last, .slice (s.at ((((i : Nat) : Int) + ((j : Nat) : Int)) / 2).toNat).replies.A (s.at ((((i : Nat) : Int) + ((j : Nat) : Int)) / 2).toNat).replies.n (s.at ((((i : Nat) : Int) + ((j : Nat) : Int)) / 2).toNat).replies.c]), vI t] (.int .i64 (IntKind.i64.wrap ((s.at ((((i : Nat) : Int) + ((j : Nat) : Int)) / 2).toNat).client - t))) Try.call101 rfl rfl rfl rfl (fun bs w hS => session_find_1 (s.at ((((i : Nat) : Int) + ((j : Nat) : Int)) / 2).toNat) t w) ?_
    refine JL_run 1 [] [31, 11, 10, 9, 8, 0, 1, 2] 0 ⟨[(31, vB (decide (IntKind.i64.wrap ((s.at ((((i : Nat) : Int) + ((j : Nat) : Int)) / 2).toNat).client - t) < 0))), (11, vI ((((i : Nat) : Int) + ((j : Nat) : Int)) / 2)), (10, vI ((j : Nat) : Int)), (9, vI ((i : Nat) : Int)), (8, vI ((s.n : Nat) : Int)), (0, .v (.slice s.A s.n s.c)), (1, vI t), (2, .fn 101 [])], []⟩ [] [] (by kernel_rfl) on wn ?_
    refine l_nil (q_then_normal ?_)
    cases h2 : decide (IntKind.i64.wrap ((s.at ((((i : Nat) : Int) + ((j : Nat) : Int)) / 2).toNat).client - t) < 0) with
    | true =>
      have h2 := of_decide_eq_true h2
      refine c_if true rfl ?_
      refine c_region ?_
      refine JL_run 3 [] [9, 10, 8, 0, 1, 2] 0 ⟨[(9, vI (((((i : Nat) : Int) + ((j : Nat) : Int)) / 2) + 1)), (10, vI ((j : Nat) : Int)), (8, vI ((s.n : Nat) : Int)), (0, .v (.slice s.A s.n s.c)), (1, vI t), (2, .fn 101 [])], []⟩ [inR (((((i : Nat) : Int) + ((j : Nat) : Int)) / 2) + 1)] [] (by kernel_rfl) (oc (by unfold inR; omega) on) wn ?_
      have hf1 : f = (f - 1) + 1 := by omega
      rw [hf1] at hI
      have hI2 := hI.trans (bsGo_up (by omega) (decide_eq_true (by assumption)))
      refine l_nil (q_block_normal (q_loop (x := (⟨i, j, f⟩ : Nat × Nat × Nat)) (⟨(i + j) / 2 + 1, j, f - 1⟩ : Nat × Nat × Nat) ⟨by omega, by omega, by omega, hI2⟩ (by show f - 1 < f; omega) (s_start [10, 9, 8, 0, 1, 2] 0 (by kernel_rfl) rfl)))
    | false =>
      have h2 := of_decide_eq_false h2
      refine c_if false rfl ?_
      refine c_region ?_
      refine JL_run 2 [] [10, 9, 8, 0, 1, 2] 0 ⟨[(10, vI ((((i : Nat) : Int) + ((j : Nat) : Int)) / 2)), (9, vI ((i : Nat) : Int)), (8, vI ((s.n : Nat) : Int)), (0, .v (.slice s.A s.n s.c)), (1, vI t), (2, .fn 101 [])], []⟩ [] [] (by kernel_rfl) on wn ?_
      have hf1 : f = (f - 1) + 1 := by omega
      rw [hf1] at hI
      have hI2 := hI.trans (bsGo_down (by omega) (decide_eq_false (by assumption)))
      refine l_nil (q_block_normal (q_loop (x := (⟨i, j, f⟩ : Nat × Nat × Nat)) (⟨i, (i + j) / 2, f - 1⟩ : Nat × Nat × Nat) ⟨by omega, by omega, by omega, hI2⟩ (by show f - 1 < f; omega) (s_start [10, 9, 8, 0, 1, 2] 0 (by kernel_rfl) rfl)))
  | false =>
    have h1 := of_decide_eq_false h1
    refine c_if false rfl ?_
    refine c_exit ?_
    refine q_then_exit (q_then_exit (q_block_hit (q_then_normal ?_)))
    refine c_seq ?_
    refine c_region ?_
    refine JL_run 5 [] [39, 35, 9, 0, 1, 2] 0 ⟨[(39, vB (decide (((i : Nat) : Int) < ((s.n : Nat) : Int)))), (35, vI ((i : Nat) : Int)), (9, vI ((i : Nat) : Int)), (0, .v (.slice s.A s.n s.c)), (1, vI t), (2, .fn 101 [])], []⟩ [] [] (by kernel_rfl) on wn ?_
    cases h3 : decide (((i : Nat) : Int) < ((s.n : Nat) : Int)) with
    | true =>
      have h3 := of_decide_eq_true h3
      refine JL_run 6 [(3, .idx s.ad i), (4, .ext [.int .i64 (s.at i).client, .int .i64 (s.at i).id, .int .i64 (s.at i).acked, .int .i64 (s.at i).last, .slice (s.at i).replies.A (s.at i).replies.n (s.at i).replies.c])] [45, 44, 40, 39, 35] 0 ⟨[(45, vI t), (44, .v (.agg #[.int .i64 (s.at i).client, .int .i64 (s.at i).id, .int .i64 (s.at i).acked, .int .i64 (s.at i).last, .slice (s.at i).replies.A (s.at i).replies.n (s.at i).replies.c])), (40, .fn 101 []), (39, vB true), (35, vI ((i : Nat) : Int))], []⟩ [s.A = some s.ad, ((i : Nat) : Int) = ((i : Nat) : Int), i < s.n] [(s.ad.add (i * 5), [.int .i64 (s.at i).client, .int .i64 (s.at i).id, .int .i64 (s.at i).acked, .int .i64 (s.at i).last, .slice (s.at i).replies.A (s.at i).replies.n (s.at i).replies.c])] (by kernel_rfl) (oc (Sl.ok.own (s := s) (i := i) oks (by omega)) (oc rfl (oc (by omega) on))) (fun w hk hr => ⟨(Sl.rd.all (s := s) (i := i) (Sl.rd.kp hs hk) (by omega) rfl), trivial⟩) ?_
      refine l_pure 101 [] [.v (.agg #[.int .i64 (s.at i).client, .int .i64 (s.at i).id, .int .i64 (s.at i).acked, .int .i64 (s.at i).last, .slice (s.at i).replies.A (s.at i).replies.n (s.at i).replies.c]), vI t] (.int .i64 (IntKind.i64.wrap ((s.at i).client - t))) Try.call101 rfl rfl rfl rfl (fun bs w hS => session_find_1 (s.at i) t w) ?_
      refine JL_run 4 [] [7, 6] 0 ⟨[(7, vB (decide (IntKind.i64.wrap ((s.at i).client - t) = 0))), (6, vI ((i : Nat) : Int))], []⟩ [] [] (by kernel_rfl) on wn ?_
      refine l_nil (q_then_normal ?_)
      refine c_ret ?_
      refine q_ret (.inl rfl) [vI ((i : Nat) : Int), vB (decide (IntKind.i64.wrap ((s.at i).client - t) = 0))] rfl (fun bs w hS => ?_)
      have hij : i = j := by omega
      subst hij
      have hr : mBS (fun x : CSession => IntKind.i64.wrap (x.client - t)) s.xs = i := by rw [hI]; exact bsGo_end _ _ _ _ (Nat.le_refl _)
      refine ⟨?_, hS.kp⟩
      have hr2 : mBSf (fun x : CSession => IntKind.i64.wrap (x.client - t)) s.xs = (decide (IntKind.i64.wrap ((s.at i).client - t) = 0)) := by
        unfold mBSf; rw [hr]
        rw [decide_eq_true (show i < s.xs.length by omega)]; rfl
      rw [hr, hr2]
      rfl
    | false =>
      have h3 := of_decide_eq_false h3
      refine JL_run 11 [] [7, 6] 0 ⟨[(7, vB false), (6, vI ((i : Nat) : Int))], []⟩ [] [] (by kernel_rfl) on wn ?_
      refine l_nil (q_then_normal ?_)
      refine c_ret ?_
      refine q_ret (.inl rfl) [vI ((i : Nat) : Int), vB false] rfl (fun bs w hS => ?_)
      have hij : i = j := by omega
      subst hij
      have hr : mBS (fun x : CSession => IntKind.i64.wrap (x.client - t)) s.xs = i := by rw [hI]; exact bsGo_end _ _ _ _ (Nat.le_refl _)
      refine ⟨?_, hS.kp⟩
      have hr2 : mBSf (fun x : CSession => IntKind.i64.wrap (x.client - t)) s.xs = false := by
        unfold mBSf; rw [hr]
        rw [decide_eq_false (show ¬ i < s.xs.length by omega)]; rfl
      rw [hr, hr2]
      rfl

theorem session_find {B : Nat → Prop} (s : Sl CSession) (t : Int) (w : World) (hs : s.rd B w) (hn : s.n ≤ 1048576) : Calls Try.prog 61 #[.slice s.A s.n s.c, .int .i64 t] w fun e w' => e = .returned (.tuple #[.int .i64 (mBS (fun x : CSession => IntKind.i64.wrap (x.client - t)) s.xs : Nat), .bool (mBSf (fun x : CSession => IntKind.i64.wrap (x.client - t)) s.xs)]) ∧ Kp [] w w' := by
  have oks := Sl.rd.ok hs
  have ncs := Sl.ok.nc oks
  have hns : s.n = s.xs.length := rfl
  refine calls_J0 11 Try.func61 rfl rfl [.slice s.A s.n s.c, .int .i64 t] rfl ?_
  refine c_seq ?_
  refine c_region ?_
  refine JL_run 2 [] [0, 1] 0 ⟨[(0, .v (.slice s.A s.n s.c)), (1, vI t)], []⟩ [] [] (by kernel_rfl) on wn ?_
  refine l_nil (q_then_normal ?_)
  refine c_seq ?_
  refine c_region ?_
  refine JL_run 2 [] [7, 6] 0 ⟨[(7, vI t), (6, .v (.slice s.A s.n s.c))], []⟩ [] [] (by kernel_rfl) on wn ?_
  refine l_pure 100 [] [.v (.slice s.A s.n s.c), vI t, .fn 101 []] (.tuple #[.int .i64 ((mBS (fun x : CSession => IntKind.i64.wrap (x.client - t)) s.xs : Nat) : Int), .bool (mBSf (fun x : CSession => IntKind.i64.wrap (x.client - t)) s.xs)]) Try.call100 rfl rfl rfl rfl (fun bs w hS => bs_session_find_1 s t w (Sl.rd.kp hs hS.kp) (by omega)) ?_
  refine JL_run 4 [] [5, 4] 0 ⟨[(5, vB (mBSf (fun x : CSession => IntKind.i64.wrap (x.client - t)) s.xs)), (4, vI ((mBS (fun x : CSession => IntKind.i64.wrap (x.client - t)) s.xs : Nat) : Int))], []⟩ [] [] (by kernel_rfl) on wn ?_
  refine l_nil (q_then_normal ?_)
  refine c_ret ?_
  refine q_ret (.inl rfl) [vI ((mBS (fun x : CSession => IntKind.i64.wrap (x.client - t)) s.xs : Nat) : Int), vB (mBSf (fun x : CSession => IntKind.i64.wrap (x.client - t)) s.xs)] rfl (fun bs w hS => ?_)
  exact ⟨rfl, hS.kp⟩

theorem tackroomref_sessionAt {B : Nat → Prop} (s : Sl CSession) (t : Int) (w : World) (hs : s.rd B w) : Calls Try.prog 64 #[.slice s.A s.n s.c, .int .i64 t] w fun e w' => e = .returned (.int .i64 (mIdx (fun x : CSession => decide (x.client = t)) s.xs)) ∧ Kp [] w w' := by
  have oks := Sl.rd.ok hs
  have ncs := Sl.ok.nc oks
  have hns : s.n = s.xs.length := rfl
  refine calls_J0 20 Try.func64 rfl rfl [.slice s.A s.n s.c, .int .i64 t] rfl ?_
  refine c_seq ?_
  refine c_region ?_
  refine JL_run 1 [] [0, 1] 0 ⟨[(0, .v (.slice s.A s.n s.c)), (1, vI t)], []⟩ [] [] (by kernel_rfl) on wn ?_
  refine l_nil (q_then_normal ?_)
  refine c_seq ?_
  refine c_seq ?_
  refine c_region ?_
  refine JL_run 1 [] [5, 0, 1] 0 ⟨[(5, vI 0), (0, .v (.slice s.A s.n s.c)), (1, vI t)], []⟩ [] [] (by kernel_rfl) on wn ?_
  refine l_nil (q_then_normal ?_)
  refine c_block ?_
  refine c_loop (σ := Nat) (fun i => i ≤ s.n ∧ ∀ j, j < i → decide ((s.at j).client = t) = false) (fun i => s.n - i) (fun i => []) (fun i => ⟨[(5, vI ((i : Nat) : Int)), (0, .v (.slice s.A s.n s.c)), (1, vI t)], []⟩) 0 ⟨Nat.zero_le _, fun j hj => absurd hj (Nat.not_lt_zero _)⟩ (s_start [5, 0, 1] 0 (by kernel_rfl) rfl) ?_
  rintro i ⟨hi, hI⟩
  refine c_seq ?_
  refine c_seq ?_
  refine c_region ?_
  refine JL_run 4 [] [9, 5, 0, 1] 0 ⟨[(9, vB (decide (((i : Nat) : Int) < ((s.n : Nat) : Int)))), (5, vI ((i : Nat) : Int)), (0, .v (.slice s.A s.n s.c)), (1, vI t)], []⟩ [] [] (by kernel_rfl) on wn ?_
  refine l_nil (q_then_normal ?_)
  cases h1 : decide (((i : Nat) : Int) < ((s.n : Nat) : Int)) with
  | true =>
    have h1 := of_decide_eq_true h1
    refine c_if true rfl ?_
    refine c_skip ?_
    refine q_then_normal ?_
    refine c_seq ?_
    refine c_block ?_
    refine c_seq ?_
    refine c_region ?_
    refine JL_run 7 [(2, .idx s.ad i), (4, .ext [.int .i64 (s.at i).client])] [18, 5, 0, 1] 0 ⟨[(18, vB (decide ((s.at i).client = t))), (5, vI ((i : Nat) : Int)), (0, .v (.slice s.A s.n s.c)), (1, vI t)], []⟩ [s.A = some s.ad, ((i : Nat) : Int) = ((i : Nat) : Int), i < s.n] [((s.ad.add (i * 5)).add 0, [.int .i64 (s.at i).client])] (by kernel_rfl) (oc (Sl.ok.own (s := s) (i := i) oks (by omega)) (oc rfl (oc (by omega) on))) (fun w hk hr => ⟨(Sl.rd.fld (s := s) (i := i) (Sl.rd.kp hs hk) (by omega) 0 1 rfl), trivial⟩) ?_
    refine l_nil (q_then_normal ?_)
    cases h2 : decide ((s.at i).client = t) with
    | true =>
      have h2 := of_decide_eq_true h2
      refine c_if true rfl ?_
      refine c_seq ?_
      refine c_region ?_
      refine JL_run 2 [] [4] 0 ⟨[(4, vI ((i : Nat) : Int))], []⟩ [] [] (by kernel_rfl) on wn ?_
      refine l_nil (q_then_normal ?_)
      refine c_ret ?_
      refine q_block_ret (q_then_ret (q_then_ret (q_block_ret (q_then_ret (q_ret (.inl rfl) [vI ((i : Nat) : Int)] rfl (fun bs w hS => ?_))))))
      refine ⟨?_, hS.kp⟩
      rw [mIdx_here (p := (fun x : CSession => decide (x.client = t))) (i := i) (by omega) (decide_eq_true (by assumption)) hI]
      rfl
    | false =>
      have h2 := of_decide_eq_false h2
      refine c_if false rfl ?_
      refine c_skip ?_
      refine q_block_normal (q_then_normal ?_)
      refine c_region ?_
      refine JL_run 3 [] [5, 0, 1] 0 ⟨[(5, vI (((i : Nat) : Int) + 1)), (0, .v (.slice s.A s.n s.c)), (1, vI t)], []⟩ [inR (((i : Nat) : Int) + 1)] [] (by kernel_rfl) (oc (by unfold inR; omega) on) wn ?_
      refine l_nil (q_loop (x := (i : Nat)) ((i + 1) : Nat) ⟨by omega, fun j hj => by rcases Nat.lt_succ_iff_lt_or_eq.1 hj with h | h; exact hI j h; subst h; exact decide_eq_false (by assumption)⟩ (by omega) (s_start [5, 0, 1] 0 (by kernel_rfl) rfl))
  | false =>
    have h1 := of_decide_eq_false h1
    refine c_if false rfl ?_
    refine c_exit ?_
    refine q_then_exit (q_then_exit (q_block_hit (q_then_normal ?_)))
    refine c_seq ?_
    refine c_region ?_
    refine JL_run 1 [] [4] 0 ⟨[(4, vI (-1))], []⟩ [] [] (by kernel_rfl) on wn ?_
    refine l_nil (q_then_normal ?_)
    refine c_ret ?_
    refine q_ret (.inl rfl) [vI (-1)] rfl (fun bs w hS => ?_)
    refine ⟨?_, hS.kp⟩
    rw [mIdx_none (p := (fun x : CSession => decide (x.client = t))) fun j hj => hI j (by omega)]
    rfl

theorem delR_Session (A : Option Addr) (c : Nat) (L : List CSession) (i j : Nat) (ii jj : Int) (w : World) (hrow : (rowA 98 A c L).p w) (hlt : ∀ b, b ∈ (rowA 98 A c L).fp → b < w.heap.size) (ei : ii = (i : Int)) (ej : jj = (j : Int)) (hij : i ≤ j) (hj : j ≤ L.length) :
    Calls Try.prog 62 #[.slice A L.length c, .int .i64 ii, .int .i64 jj] w fun e w' => e = .returned (.slice A (L.take i ++ L.drop j).length c) ∧ Turned (rowA 98 A c L) w w' (rowA 98 A c (L.take i ++ L.drop j)) := by
  subst ei ej
  have hrok := rowA_rok hrow
  have nc := hrok.2
  refine calls_J 33 (rowA 98 A c L).fp Try.func62 rfl rfl [] [] [rowA 98 A c L] [.v (.slice A L.length c), vI ((i : Nat) : Int), vI ((j : Nat) : Int)] [.slice A L.length c, .int .i64 ((i : Nat) : Int), .int .i64 ((j : Nat) : Int)] rfl rfl (WS.start1 w _ hrow (by cases A <;> simp [rowA, rowR]) hlt) ?_
  refine c_seq ?_
  refine c_region ?_
  refine JL_run 1 [] [0, 1, 2] 0 ⟨[(0, .v (.slice A L.length c)), (1, vI ((i : Nat) : Int)), (2, vI ((j : Nat) : Int))], []⟩ [] [] (by kernel_rfl) on wn ?_
  refine l_nil (q_then_normal ?_)
  refine c_seq ?_
  refine c_region ?_
  refine JL_run 5 [] [12, 10, 9, 8, 0, 1, 2] 0 ⟨[(12, vI ((L.length : Nat) : Int)), (10, vI ((j : Nat) : Int)), (9, vI ((i : Nat) : Int)), (8, .v (.slice A L.length c)), (0, .v (.slice A L.length c)), (1, vI ((i : Nat) : Int)), (2, vI ((j : Nat) : Int))], []⟩ [] [] (by kernel_rfl) on wn ?_
  refine l_slice3 98 A L.length c i j L.length ((i : Nat) : Int) ((j : Nat) : Int) ((L.length : Nat) : Int) Try.underlying37 (by kernel_rfl) rfl rfl rfl rfl rfl rfl rfl rfl rfl (by omega) (by omega) (by omega) ?_
  refine l_nil (q_then_normal ?_)
  refine c_seq ?_
  refine c_seq ?_
  refine c_region ?_
  refine JL_run 3 [] [16, 0, 1, 2] 0 ⟨[(16, vB (decide (((i : Nat) : Int) = ((j : Nat) : Int)))), (0, .v (.slice A L.length c)), (1, vI ((i : Nat) : Int)), (2, vI ((j : Nat) : Int))], []⟩ [] [] (by kernel_rfl) on wn ?_
  refine l_nil (q_then_normal ?_)
  cases h1 : decide (((i : Nat) : Int) = ((j : Nat) : Int)) with
  | true =>
    have h1 := of_decide_eq_true h1
    refine c_if true rfl ?_
    refine c_seq ?_
    refine c_region ?_
    refine JL_run 2 [] [6] 0 ⟨[(6, .v (.slice A L.length c))], []⟩ [] [] (by kernel_rfl) on wn ?_
    refine l_nil (q_then_normal ?_)
    refine c_ret ?_
    refine q_then_ret (q_ret (.inl rfl) [.v (.slice A L.length c)] rfl (fun bs w hS => ?_))
    have hij2 : i = j := by omega
    subst hij2
    rw [List.take_append_drop]
    exact ⟨rfl, hS.turned⟩
  | false =>
    have h1 := of_decide_eq_false h1
    refine c_if false rfl ?_
    refine c_skip ?_
    refine q_then_normal ?_
    refine c_seq ?_
    refine c_region ?_
    refine JL_run 3 [] [7, 0, 1, 2] 0 ⟨[(7, vI ((L.length : Nat) : Int)), (0, .v (.slice A L.length c)), (1, vI ((i : Nat) : Int)), (2, vI ((j : Nat) : Int))], []⟩ [] [] (by kernel_rfl) on wn ?_
    refine l_nil (q_then_normal ?_)
    refine c_seq ?_
    refine c_draw 6 [(0, false), (1, false), (2, false), (3, false), (4, false), (5, false)] [] [rowA 98 A c (L : List CSession)] Try_mixed (by kernel_rfl) (pq_then pq_body) (List.Sublist.refl _) ?_
    refine h_quiet [(2, .sl 0 i), (5, .sl j L.length)] 6 [(25, .v (.slice (if c = j then A else A.map (·.add (j * 5))) (L.length - j) (c - j))), (24, vI ((j : Nat) : Int)), (23, .v (.slice A L.length c)), (22, .v (.slice A i c)), (21, vI ((i : Nat) : Int)), (20, .v (.slice A L.length c)), (7, vI ((L.length : Nat) : Int)), (0, .v (.slice A L.length c)), (1, vI ((i : Nat) : Int)), (2, vI ((j : Nat) : Int))] [0 = 0, ((i : Nat) : Int) = ((i : Nat) : Int), i ≤ c, ((j : Nat) : Int) = ((j : Nat) : Int), L.length = L.length, j ≤ L.length] [] rfl rfl (by kernel_rfl) (oc rfl (oc rfl (oc (by omega) (oc rfl (oc rfl (oc (by omega) on)))))) wn ?_
    refine h_nil ?_
    refine l_appdel (α := CSession) 98 56 A c L i j (.v (.slice (if c = j then A else A.map (·.add (j * 5))) (L.length - j) (c - j))) Try.underlying37 (by kernel_rfl) rfl rfl rfl rfl rfl hij hj ?_
    refine JL_run 1 [] [0, 7] 0 ⟨[(0, .v (.slice A (i + (L.length - j)) c)), (7, vI ((L.length : Nat) : Int))], []⟩ [] [] (by kernel_rfl) on wn ?_
    refine l_nil (q_then_normal ?_)
    refine c_seq ?_
    refine c_region ?_
    refine JL_run 5 [(4, .sl (i + (L.length - j)) L.length)] [31, 0] 0 ⟨[(31, .v (.slice (if c = (i + (L.length - j)) then A else A.map (·.add ((i + (L.length - j)) * 5))) (L.length - (i + (L.length - j))) (c - (i + (L.length - j))))), (0, .v (.slice A (i + (L.length - j)) c))], []⟩ [((i + (L.length - j) : Nat) : Int) = (((i + (L.length - j)) : Nat) : Int), ((L.length : Nat) : Int) = ((L.length : Nat) : Int), (i + (L.length - j)) ≤ L.length, L.length ≤ c] [] (by kernel_rfl) (oc rfl (oc rfl (oc (by omega) (oc (by omega) on)))) wn ?_
    refine l_clear (α := CSession) 98 A c (L.take i ++ L.drop j) (i + (L.length - j)) (L.length - (i + (L.length - j))) (.v (.slice (if c = (i + (L.length - j)) then A else A.map (·.add ((i + (L.length - j)) * 5))) (L.length - (i + (L.length - j))) (c - (i + (L.length - j))))) Try.underlying37 (by kernel_rfl) rfl rfl rfl rfl (by simp only [List.length_append, List.length_take, List.length_drop]; omega) (by omega) ?_
    refine l_nil (q_then_normal ?_)
    refine c_seq ?_
    refine c_region ?_
    refine JL_run 2 [] [6] 0 ⟨[(6, .v (.slice A (i + (L.length - j)) c))], []⟩ [] [] (by kernel_rfl) on wn ?_
    refine l_nil (q_then_normal ?_)
    refine c_ret ?_
    refine q_ret (.inl rfl) [.v (.slice A (i + (L.length - j)) c)] rfl (fun bs w hS => ?_)
    have hlen : (L.take i ++ L.drop j).length = i + (L.length - j) := by simp only [List.length_append, List.length_take, List.length_drop]; omega
    have hS2 := hS
    rw [← hlen, List.take_length] at hS2
    refine ⟨?_, hS2.turned⟩
    rw [hlen]
    rfl

theorem session_Leave {B : Nat → Prop} (s : Sl CSession) (n t : Int) (w : World) (hs : s.rd B w) (ht : inR t) : Calls Try.prog 22 #[.slice s.A s.n s.c, .int .i64 n, .int .i64 t] w fun e w' => ∃ y : Sl CSession, e = .returned (.tuple #[.slice y.A y.n y.c, .agg #[.int .i64 ((mLeave (s.xs.map CSession.abs) n t).2.1).code, .int .i64 ((mLeave (s.xs.map CSession.abs) n t).2.1).n, .string ((mLeave (s.xs.map CSession.abs) n t).2.1).text], .int .i64 ((mLeave (s.xs.map CSession.abs) n t).2.2)]) ∧ y.xs.map CSession.abs = (mLeave (s.xs.map CSession.abs) n t).1 ∧ FreshS w w' y := by
  have oks := Sl.rd.ok hs
  have ncs := Sl.ok.nc oks
  have hns : s.n = s.xs.length := rfl
  have hml : (s.xs.map CSession.abs).length = s.n := by simp
  refine calls_J0 37 Try.func22 rfl rfl [.slice s.A s.n s.c, .int .i64 n, .int .i64 t] rfl ?_
  refine c_seq ?_
  refine c_region ?_
  refine JL_run 3 [] [7, 0, 1, 2] 1 ⟨[(7, .p 0 0), (0, .v (.slice s.A s.n s.c)), (1, vI n), (2, vI t)], [⟨40, [vI 0, vI 0, vS emp]⟩]⟩ [] [] (by kernel_rfl) on wn ?_
  refine l_nil (q_then_normal ?_)
  refine c_seq ?_
  refine c_seq ?_
  refine c_region ?_
  refine JL_run 2 [] [13, 12, 7, 0, 2] 1 ⟨[(13, vI n), (12, .v (.slice s.A s.n s.c)), (7, .p 0 0), (0, .v (.slice s.A s.n s.c)), (2, vI t)], [⟨40, [vI 0, vI 0, vS emp]⟩]⟩ [] [] (by kernel_rfl) on wn ?_
  refine l_pure 59 [] [.v (.slice s.A s.n s.c), vI n] (.int .i64 (mSess (s.xs.map CSession.abs) n)) Try.call59 rfl rfl rfl rfl (fun bs w hS => session_Check s n w (Sl.rd.kp hs hS.kp)) ?_
  refine JL_run 1 [] [9, 7, 0, 2] 1 ⟨[(9, vI (mSess (s.xs.map CSession.abs) n)), (7, .p 0 0), (0, .v (.slice s.A s.n s.c)), (2, vI t)], [⟨40, [vI 0, vI 0, vS emp]⟩]⟩ [] [] (by kernel_rfl) on wn ?_
  refine l_nil (q_then_normal ?_)
  refine c_seq ?_
  refine c_region ?_
  refine JL_run 2 [] [16, 9, 7, 0, 2] 1 ⟨[(16, vB (!(decide (mSess (s.xs.map CSession.abs) n = 0)))), (9, vI (mSess (s.xs.map CSession.abs) n)), (7, .p 0 0), (0, .v (.slice s.A s.n s.c)), (2, vI t)], [⟨40, [vI 0, vI 0, vS emp]⟩]⟩ [] [] (by kernel_rfl) on wn ?_
  refine l_nil (q_then_normal ?_)
  cases h1 : decide (mSess (s.xs.map CSession.abs) n = 0) with
  | true =>
    have h1 := of_decide_eq_true h1
    obtain ⟨hi0, hi1, hln, hall⟩ := mSess_bd h1
    refine c_if false rfl ?_
    refine c_skip ?_
    refine q_then_normal ?_
    refine c_seq ?_
    refine c_region ?_
    refine JL_run 1 [] [19, 7, 2] 1 ⟨[(19, .v (.slice s.A s.n s.c)), (7, .p 0 0), (2, vI t)], [⟨40, [vI 0, vI 0, vS emp]⟩]⟩ [] [] (by kernel_rfl) on wn ?_
    refine l_freshF (σ := Sl CSession) 60 [] [.v (.slice s.A s.n s.c)] (fun y1 => .slice y1.A y1.n y1.c) (fun y1 => y1.xs.map CSession.abs = s.xs.map CSession.abs) (fun y1 => sessR 98 101 y1) Try.call60 rfl rfl rfl rfl (fun bs w hS => session_Copy s w (Sl.rd.kp hs hS.kp) (small_sess (by assumption))) ?_
    rintro y1 hF1
    refine l_split2 ?_
    have hnm1 := sess_texts (hs) hF1
    refine l_know (F := ∀ i, i < y1.n → Rds.ok (y1.at i)) (fun bs w hS i hi => Rds.okof (Sl.rd.sub (own_sess (A := y1.A) (c := y1.c) (L := y1.xs) (hS.res _ (.head _)) (hS.res _ (.tail _ (.head _))) hnm1) hi)) fun okown1 => ?_
    refine l_know (F := RowOk y1.A y1.c (y1.xs : List CSession)) (fun bs w hS => rowA_rok (hS.res _ (.tail _ (.head _)))) fun hrow1 => ?_
    have nchrow1 := hrow1.2
    have hnn := map_n hF1
    have hnx : y1.n = y1.xs.length := rfl
    have hok1 : Sl.ok y1 := ⟨nchrow1.1, by unfold maxLen; exact nchrow1.2, fun i hi => ⟨hrow1.1 i hi, okown1 i hi⟩⟩
    refine JL_run 1 [] [0, 7, 2] 1 ⟨[(0, .v (.slice y1.A y1.n y1.c)), (7, .p 0 0), (2, vI t)], [⟨40, [vI 0, vI 0, vS emp]⟩]⟩ [] [] (by kernel_rfl) on wn ?_
    refine l_nil (q_then_normal ?_)
    refine c_seq ?_
    refine c_region ?_
    refine JL_run 2 [] [23, 22, 0, 7] 1 ⟨[(23, vI t), (22, .v (.slice y1.A y1.n y1.c)), (0, .v (.slice y1.A y1.n y1.c)), (7, .p 0 0)], [⟨40, [vI 0, vI 0, vS emp]⟩]⟩ [] [] (by kernel_rfl) on wn ?_
    refine l_pure 61 [] [.v (.slice y1.A y1.n y1.c), vI t] (.tuple #[.int .i64 ((mBS (fun x : CSession => IntKind.i64.wrap (x.client - t)) y1.xs : Nat) : Int), .bool (mBSf (fun x : CSession => IntKind.i64.wrap (x.client - t)) y1.xs)]) Try.call61 rfl rfl rfl rfl (fun bs w hS => session_find y1 t w (own_sess (A := y1.A) (c := y1.c) (L := y1.xs) (hS.res _ (.head _)) (hS.res _ (.tail _ (.head _))) hnm1) (by omega)) ?_
    refine JL_run 5 [] [11, 10, 0, 7] 1 ⟨[(11, vB (mBSf (fun x : CSession => IntKind.i64.wrap (x.client - t)) y1.xs)), (10, vI ((mBS (fun x : CSession => IntKind.i64.wrap (x.client - t)) y1.xs : Nat) : Int)), (0, .v (.slice y1.A y1.n y1.c)), (7, .p 0 0)], [⟨40, [vI 0, vI 0, vS emp]⟩]⟩ [] [] (by kernel_rfl) on wn ?_
    refine l_nil (q_then_normal ?_)
    refine c_seq ?_
    refine c_seq ?_
    refine c_region ?_
    refine JL_run 2 [] [28, 10, 0, 7] 1 ⟨[(28, vB (!(mBSf (fun x : CSession => IntKind.i64.wrap (x.client - t)) y1.xs))), (10, vI ((mBS (fun x : CSession => IntKind.i64.wrap (x.client - t)) y1.xs : Nat) : Int)), (0, .v (.slice y1.A y1.n y1.c)), (7, .p 0 0)], [⟨40, [vI 0, vI 0, vS emp]⟩]⟩ [] [] (by kernel_rfl) on wn ?_
    refine l_nil (q_then_normal ?_)
    cases h2 : mBSf (fun x : CSession => IntKind.i64.wrap (x.client - t)) y1.xs with
    | true =>
      have hlt := mBSf_lt h2
      refine c_if false rfl ?_
      refine c_skip ?_
      refine q_then_normal ?_
      refine c_seq ?_
      refine c_region ?_
      refine JL_run 4 [] [34, 32, 31, 7] 1 ⟨[(34, vI (((mBS (fun x : CSession => IntKind.i64.wrap (x.client - t)) y1.xs : Nat) : Int) + 1)), (32, vI ((mBS (fun x : CSession => IntKind.i64.wrap (x.client - t)) y1.xs : Nat) : Int)), (31, .v (.slice y1.A y1.n y1.c)), (7, .p 0 0)], [⟨40, [vI 0, vI 0, vS emp]⟩]⟩ [inR (((mBS (fun x : CSession => IntKind.i64.wrap (x.client - t)) y1.xs : Nat) : Int) + 1)] [] (by kernel_rfl) (oc (by unfold inR; omega) on) wn ?_
      refine l_perm (R' := [rowA 98 y1.A y1.c (y1.xs : List CSession), ownL (keptR 101) y1.xs]) (permfront 1 rfl) ?_
      refine l_turn (σ := Unit) 62 [] [.v (.slice y1.A y1.n y1.c), vI ((mBS (fun x : CSession => IntKind.i64.wrap (x.client - t)) y1.xs : Nat) : Int), vI (((mBS (fun x : CSession => IntKind.i64.wrap (x.client - t)) y1.xs : Nat) : Int) + 1)] (fun _ => .slice y1.A (y1.xs.take (((mBS (fun x : CSession => IntKind.i64.wrap (x.client - t)) y1.xs : Nat) : Int)).toNat ++ y1.xs.drop ((((mBS (fun x : CSession => IntKind.i64.wrap (x.client - t)) y1.xs : Nat) : Int)).toNat + 1)).length y1.c) (fun _ => True) (fun _ => rowA 98 y1.A y1.c (y1.xs.take (((mBS (fun x : CSession => IntKind.i64.wrap (x.client - t)) y1.xs : Nat) : Int)).toNat ++ y1.xs.drop ((((mBS (fun x : CSession => IntKind.i64.wrap (x.client - t)) y1.xs : Nat) : Int)).toNat + 1) : List CSession)) Try.call62 rfl rfl rfl rfl (fun bs w hS => (delR_Session y1.A y1.c y1.xs (((mBS (fun x : CSession => IntKind.i64.wrap (x.client - t)) y1.xs : Nat) : Int)).toNat ((((mBS (fun x : CSession => IntKind.i64.wrap (x.client - t)) y1.xs : Nat) : Int)).toNat + 1) _ _ w (hS.res _ (.head _)) hS.head1.2.2 (by omega) (by omega) (by omega) (by omega)).mono (fun e w' ⟨h1, h2⟩ => ⟨(), h1, trivial, h2⟩)) ?_
      rintro _ _
      refine JL_run 4 [] [8, 6, 7] 1 ⟨[(8, vI 0), (6, .v (.slice y1.A (y1.xs.take (((mBS (fun x : CSession => IntKind.i64.wrap (x.client - t)) y1.xs : Nat) : Int)).toNat ++ y1.xs.drop ((((mBS (fun x : CSession => IntKind.i64.wrap (x.client - t)) y1.xs : Nat) : Int)).toNat + 1)).length y1.c)), (7, .p 0 0)], [⟨40, [vI 0, vI 0, vS emp]⟩]⟩ [] [] (by kernel_rfl) on wn ?_
      refine l_nil (q_then_normal ?_)
      refine c_ret ?_
      refine q_ret (.inl rfl) [.v (.slice y1.A (y1.xs.take (((mBS (fun x : CSession => IntKind.i64.wrap (x.client - t)) y1.xs : Nat) : Int)).toNat ++ y1.xs.drop ((((mBS (fun x : CSession => IntKind.i64.wrap (x.client - t)) y1.xs : Nat) : Int)).toNat + 1)).length y1.c), .v (.agg #[.int .i64 0, .int .i64 0, .string emp]), vI 0] rfl (fun bs w hS => ?_)
      have hmi : mIdx (fun x : DSession => decide (x.client = t)) (y1.xs.map CSession.abs) = mIdx (fun x : DSession => decide (x.client = t)) (s.xs.map CSession.abs) := by rw [hF1]
      have hb := bsf_sess (L := y1.xs) (index := n) (t := t) (by rw [hF1]; assumption) ht
      have hb1 := hb.1
      rw [h2, hmi] at hb1
      have hb3 := of_decide_eq_true hb1.symm
      have hb2 := hb.2 h2
      rw [hmi] at hb2
      have hm : mLeave (s.xs.map CSession.abs) n t = ((s.xs.map CSession.abs).take (mIdx (fun x : DSession => decide (x.client = t)) (s.xs.map CSession.abs)).toNat ++ (s.xs.map CSession.abs).drop ((mIdx (fun x : DSession => decide (x.client = t)) (s.xs.map CSession.abs)).toNat + 1), zRep, 0) := by unfold mLeave; rw [if_neg (by simpa using (by assumption : mSess _ _ = 0)), if_neg (by omega)]
      refine ⟨⟨y1.A, y1.c, y1.xs.take (((mBS (fun x : CSession => IntKind.i64.wrap (x.client - t)) y1.xs : Nat) : Int)).toNat ++ y1.xs.drop ((((mBS (fun x : CSession => IntKind.i64.wrap (x.client - t)) y1.xs : Nat) : Int)).toNat + 1)⟩, ?_, ?_, hS.outS (y := (⟨y1.A, y1.c, y1.xs.take (((mBS (fun x : CSession => IntKind.i64.wrap (x.client - t)) y1.xs : Nat) : Int)).toNat ++ y1.xs.drop ((((mBS (fun x : CSession => IntKind.i64.wrap (x.client - t)) y1.xs : Nat) : Int)).toNat + 1)⟩ : Sl CSession)) (out_sess (L0 := y1.xs) (.head _) (.tail _ (.head _)) hS.res (fun x hx => ?_) hnm1)⟩
      · rw [hm]; rfl
      · rw [hm, ← hb2, Int.toNat_natCast, ← hF1]; simp [List.map_append, List.map_take, List.map_drop]
      · simp only [List.nil_append, List.mem_append] at hx; rcases hx with hx | hx
        · exact List.mem_of_mem_take hx
        · exact List.mem_of_mem_drop hx
    | false =>
      refine c_if true rfl ?_
      refine c_seq ?_
      refine c_region ?_
      refine JL_run 5 [] [8, 6, 7] 1 ⟨[(8, vI 0), (6, .v (.slice y1.A y1.n y1.c)), (7, .p 0 0)], [⟨40, [vI 11, vI 0, vS emp]⟩]⟩ [] [] (by kernel_rfl) on wn ?_
      refine l_nil (q_then_normal ?_)
      refine c_ret ?_
      refine q_then_ret (q_ret (.inl rfl) [.v (.slice y1.A y1.n y1.c), .v (.agg #[.int .i64 11, .int .i64 0, .string emp]), vI 0] rfl (fun bs w hS => ?_))
      have hmi : mIdx (fun x : DSession => decide (x.client = t)) (y1.xs.map CSession.abs) = mIdx (fun x : DSession => decide (x.client = t)) (s.xs.map CSession.abs) := by rw [hF1]
      have hb := bsf_sess (L := y1.xs) (index := n) (t := t) (by rw [hF1]; assumption) ht
      have hb1 := hb.1
      rw [h2, hmi] at hb1
      have hb3 := of_decide_eq_false hb1.symm
      have hm : mLeave (s.xs.map CSession.abs) n t = (s.xs.map CSession.abs, ⟨11, 0, emp⟩, 0) := by unfold mLeave; rw [if_neg (by simpa using (by assumption : mSess _ _ = 0)), if_pos (by omega)]
      refine ⟨y1, ?_, ?_, hS.outS (y := y1) (out_sess (L0 := y1.xs) (.tail _ (.head _)) (.head _) hS.res (fun x hx => hx) hnm1)⟩
      · rw [hm]; rfl
      · rw [hm]; exact hF1
  | false =>
    have h1 := of_decide_eq_false h1
    refine c_if true rfl ?_
    refine c_seq ?_
    refine c_region ?_
    refine JL_run 5 [] [8, 6, 7] 1 ⟨[(8, vI (mSess (s.xs.map CSession.abs) n)), (6, .v (.slice none 0 0)), (7, .p 0 0)], [⟨40, [vI 0, vI 0, vS emp]⟩]⟩ [] [] (by kernel_rfl) on wn ?_
    refine l_nil (q_then_normal ?_)
    refine c_ret ?_
    refine q_then_ret (q_ret (.inl rfl) [.v (.slice none 0 0), .v (.agg #[.int .i64 0, .int .i64 0, .string emp]), vI (mSess (s.xs.map CSession.abs) n)] rfl (fun bs w hS => ?_))
    have hm : mLeave (s.xs.map CSession.abs) n t = ([], zRep, mSess (s.xs.map CSession.abs) n) := by unfold mLeave; rw [if_pos h1]
    refine ⟨Sl.nil, ?_, ?_, hS.outS (Sl.rd_nil _ _)⟩
    · rw [hm]; rfl
    · rw [hm]; rfl

theorem ref_LeftOf {B : Nat → Prop} (s : Sl CSession) (n t : Int) (w : World) (hs : s.rd B w) (ht : inR t) : Calls Try.prog 23 #[.slice s.A s.n s.c, .int .i64 n, .int .i64 t] w fun e w' => ∃ y : Sl CSession, e = .returned (.tuple #[.slice y.A y.n y.c, .agg #[.int .i64 ((mLeave (s.xs.map CSession.abs) n t).2.1).code, .int .i64 ((mLeave (s.xs.map CSession.abs) n t).2.1).n, .string ((mLeave (s.xs.map CSession.abs) n t).2.1).text], .int .i64 ((mLeave (s.xs.map CSession.abs) n t).2.2)]) ∧ y.xs.map CSession.abs = (mLeave (s.xs.map CSession.abs) n t).1 ∧ FreshS w w' y := by
  have oks := Sl.rd.ok hs
  have ncs := Sl.ok.nc oks
  have hns : s.n = s.xs.length := rfl
  have hml : (s.xs.map CSession.abs).length = s.n := by simp
  refine calls_J0 40 Try.func23 rfl rfl [.slice s.A s.n s.c, .int .i64 n, .int .i64 t] rfl ?_
  refine c_seq ?_
  refine c_region ?_
  refine JL_run 3 [] [7, 0, 1, 2] 1 ⟨[(7, .p 0 0), (0, .v (.slice s.A s.n s.c)), (1, vI n), (2, vI t)], [⟨40, [vI 0, vI 0, vS emp]⟩]⟩ [] [] (by kernel_rfl) on wn ?_
  refine l_nil (q_then_normal ?_)
  refine c_seq ?_
  refine c_region ?_
  refine JL_run 2 [] [14, 13, 7, 0, 2] 1 ⟨[(14, vI n), (13, .v (.slice s.A s.n s.c)), (7, .p 0 0), (0, .v (.slice s.A s.n s.c)), (2, vI t)], [⟨40, [vI 0, vI 0, vS emp]⟩]⟩ [] [] (by kernel_rfl) on wn ?_
  refine l_pure 63 [] [.v (.slice s.A s.n s.c), vI n] (.int .i64 (mSess (s.xs.map CSession.abs) n)) Try.call63 rfl rfl rfl rfl (fun bs w hS => ref_SessionsFault s n w (Sl.rd.kp hs hS.kp)) ?_
  refine JL_run 1 [] [9, 7, 0, 2] 1 ⟨[(9, vI (mSess (s.xs.map CSession.abs) n)), (7, .p 0 0), (0, .v (.slice s.A s.n s.c)), (2, vI t)], [⟨40, [vI 0, vI 0, vS emp]⟩]⟩ [] [] (by kernel_rfl) on wn ?_
  refine l_nil (q_then_normal ?_)
  refine c_seq ?_
  refine c_seq ?_
  refine c_region ?_
  refine JL_run 2 [] [17, 9, 7, 0, 2] 1 ⟨[(17, vB (!(decide (mSess (s.xs.map CSession.abs) n = 0)))), (9, vI (mSess (s.xs.map CSession.abs) n)), (7, .p 0 0), (0, .v (.slice s.A s.n s.c)), (2, vI t)], [⟨40, [vI 0, vI 0, vS emp]⟩]⟩ [] [] (by kernel_rfl) on wn ?_
  refine l_nil (q_then_normal ?_)
  cases h1 : decide (mSess (s.xs.map CSession.abs) n = 0) with
  | true =>
    have h1 := of_decide_eq_true h1
    obtain ⟨hi0, hi1, hln, hall⟩ := mSess_bd h1
    refine c_if false rfl ?_
    refine c_skip ?_
    refine q_then_normal ?_
    refine c_seq ?_
    refine c_region ?_
    refine JL_run 1 [] [20, 7, 2] 1 ⟨[(20, .v (.slice s.A s.n s.c)), (7, .p 0 0), (2, vI t)], [⟨40, [vI 0, vI 0, vS emp]⟩]⟩ [] [] (by kernel_rfl) on wn ?_
    refine l_freshF (σ := Sl CSession) 58 [] [.v (.slice s.A s.n s.c)] (fun y1 => .slice y1.A y1.n y1.c) (fun y1 => y1.xs.map CSession.abs = s.xs.map CSession.abs) (fun y1 => sessR 98 101 y1) Try.call58 rfl rfl rfl rfl (fun bs w hS => ref_SessionsCopy s w (Sl.rd.kp hs hS.kp) (small_sess (by assumption))) ?_
    rintro y1 hF1
    refine l_split2 ?_
    have hnm1 := sess_texts (hs) hF1
    refine l_know (F := ∀ i, i < y1.n → Rds.ok (y1.at i)) (fun bs w hS i hi => Rds.okof (Sl.rd.sub (own_sess (A := y1.A) (c := y1.c) (L := y1.xs) (hS.res _ (.head _)) (hS.res _ (.tail _ (.head _))) hnm1) hi)) fun okown1 => ?_
    refine l_know (F := RowOk y1.A y1.c (y1.xs : List CSession)) (fun bs w hS => rowA_rok (hS.res _ (.tail _ (.head _)))) fun hrow1 => ?_
    have nchrow1 := hrow1.2
    have hnn := map_n hF1
    have hnx : y1.n = y1.xs.length := rfl
    have hbdi := mIdx_bd (fun x : CSession => decide (x.client = t)) y1.xs
    have hok1 : Sl.ok y1 := ⟨nchrow1.1, by unfold maxLen; exact nchrow1.2, fun i hi => ⟨hrow1.1 i hi, okown1 i hi⟩⟩
    refine JL_run 1 [] [10, 7, 2] 1 ⟨[(10, .v (.slice y1.A y1.n y1.c)), (7, .p 0 0), (2, vI t)], [⟨40, [vI 0, vI 0, vS emp]⟩]⟩ [] [] (by kernel_rfl) on wn ?_
    refine l_nil (q_then_normal ?_)
    refine c_seq ?_
    refine c_region ?_
    refine JL_run 2 [] [23, 22, 10, 7] 1 ⟨[(23, vI t), (22, .v (.slice y1.A y1.n y1.c)), (10, .v (.slice y1.A y1.n y1.c)), (7, .p 0 0)], [⟨40, [vI 0, vI 0, vS emp]⟩]⟩ [] [] (by kernel_rfl) on wn ?_
    refine l_pure 64 [] [.v (.slice y1.A y1.n y1.c), vI t] (.int .i64 (mIdx (fun x : CSession => decide (x.client = t)) y1.xs)) Try.call64 rfl rfl rfl rfl (fun bs w hS => tackroomref_sessionAt y1 t w (own_sess (A := y1.A) (c := y1.c) (L := y1.xs) (hS.res _ (.head _)) (hS.res _ (.tail _ (.head _))) hnm1)) ?_
    refine JL_run 1 [] [11, 10, 7] 1 ⟨[(11, vI (mIdx (fun x : CSession => decide (x.client = t)) y1.xs)), (10, .v (.slice y1.A y1.n y1.c)), (7, .p 0 0)], [⟨40, [vI 0, vI 0, vS emp]⟩]⟩ [] [] (by kernel_rfl) on wn ?_
    refine l_nil (q_then_normal ?_)
    refine c_seq ?_
    refine c_seq ?_
    refine c_region ?_
    refine JL_run 2 [] [26, 11, 10, 7] 1 ⟨[(26, vB (decide (mIdx (fun x : CSession => decide (x.client = t)) y1.xs < 0))), (11, vI (mIdx (fun x : CSession => decide (x.client = t)) y1.xs)), (10, .v (.slice y1.A y1.n y1.c)), (7, .p 0 0)], [⟨40, [vI 0, vI 0, vS emp]⟩]⟩ [] [] (by kernel_rfl) on wn ?_
    refine l_nil (q_then_normal ?_)
    cases h2 : decide (mIdx (fun x : CSession => decide (x.client = t)) y1.xs < 0) with
    | true =>
      have h2 := of_decide_eq_true h2
      refine c_if true rfl ?_
      refine c_seq ?_
      refine c_region ?_
      refine JL_run 5 [] [8, 6, 7] 1 ⟨[(8, vI 0), (6, .v (.slice y1.A y1.n y1.c)), (7, .p 0 0)], [⟨40, [vI 11, vI 0, vS emp]⟩]⟩ [] [] (by kernel_rfl) on wn ?_
      refine l_nil (q_then_normal ?_)
      refine c_ret ?_
      refine q_then_ret (q_ret (.inl rfl) [.v (.slice y1.A y1.n y1.c), .v (.agg #[.int .i64 11, .int .i64 0, .string emp]), vI 0] rfl (fun bs w hS => ?_))
      have hmi : mIdx (fun x : DSession => decide (x.client = t)) (y1.xs.map CSession.abs) = mIdx (fun x : DSession => decide (x.client = t)) (s.xs.map CSession.abs) := by rw [hF1]
      have hie : mIdx (fun x : CSession => decide (x.client = t)) y1.xs = mIdx (fun x : DSession => decide (x.client = t)) (s.xs.map CSession.abs) := (mIdx_map CSession.abs (fun x : DSession => decide (x.client = t)) y1.xs).trans hmi
      have hm : mLeave (s.xs.map CSession.abs) n t = (s.xs.map CSession.abs, ⟨11, 0, emp⟩, 0) := by unfold mLeave; rw [if_neg (by simpa using (by assumption : mSess _ _ = 0)), if_pos (by omega)]
      refine ⟨y1, ?_, ?_, hS.outS (y := y1) (out_sess (L0 := y1.xs) (.tail _ (.head _)) (.head _) hS.res (fun x hx => hx) hnm1)⟩
      · rw [hm]; rfl
      · rw [hm]; exact hF1
    | false =>
      have h2 := of_decide_eq_false h2
      refine c_if false rfl ?_
      refine c_skip ?_
      refine q_then_normal ?_
      refine c_seq ?_
      refine c_region ?_
      refine JL_run 3 [(2, .sl 0 (mIdx (fun x : CSession => decide (x.client = t)) y1.xs).toNat)] [31, 11, 10, 7] 1 ⟨[(31, .v (.slice y1.A (mIdx (fun x : CSession => decide (x.client = t)) y1.xs).toNat y1.c)), (11, vI (mIdx (fun x : CSession => decide (x.client = t)) y1.xs)), (10, .v (.slice y1.A y1.n y1.c)), (7, .p 0 0)], [⟨40, [vI 0, vI 0, vS emp]⟩]⟩ [0 = 0, mIdx (fun x : CSession => decide (x.client = t)) y1.xs = (((mIdx (fun x : CSession => decide (x.client = t)) y1.xs).toNat : Nat) : Int), (mIdx (fun x : CSession => decide (x.client = t)) y1.xs).toNat ≤ y1.c] [] (by kernel_rfl) (oc rfl (oc (by omega) (oc (by omega) on))) wn ?_
      refine l_rowA (α := CSession) 98 ?_
      refine l_appendA (α := CSession) 98 56 none 0 ([]) (.v (.slice y1.A (mIdx (fun x : CSession => decide (x.client = t)) y1.xs).toNat y1.c)) (y1.xs.take (mIdx (fun x : CSession => decide (x.client = t)) y1.xs).toNat) Try.underlying37 (by kernel_rfl) rfl rfl rfl (fun bs w hS => ⟨y1.A, y1.c, by rw [(show (y1.xs.take (mIdx (fun x : CSession => decide (x.client = t)) y1.xs).toNat).length = (mIdx (fun x : CSession => decide (x.client = t)) y1.xs).toNat by rw [List.length_take]; exact Nat.min_eq_left (show (mIdx (fun x : CSession => decide (x.client = t)) y1.xs).toNat ≤ y1.n by omega))]; rfl, by rw [(show (y1.xs.take (mIdx (fun x : CSession => decide (x.client = t)) y1.xs).toNat).length = (mIdx (fun x : CSession => decide (x.client = t)) y1.xs).toNat by rw [List.length_take]; exact Nat.min_eq_left (show (mIdx (fun x : CSession => decide (x.client = t)) y1.xs).toNat ≤ y1.n by omega))]; exact Sl.rd.srcTake (s := y1) (own_sess (A := y1.A) (c := y1.c) (L := y1.xs) (hS.res _ (.tail _ (.head _))) (hS.res _ (.tail _ (.tail _ (.head _)))) hnm1) (by omega)⟩) (by simp only [List.length_append, List.length_nil, List.length_take, List.length_drop]; omega) (by simp only [List.length_append, List.length_nil, List.length_take, List.length_drop]; omega) ?_
      intro A3 c3
      refine JL_run 1 [] [12, 11, 10, 7] 1 ⟨[(12, .v (.slice A3 ([] ++ y1.xs.take (mIdx (fun x : CSession => decide (x.client = t)) y1.xs).toNat).length c3)), (11, vI (mIdx (fun x : CSession => decide (x.client = t)) y1.xs)), (10, .v (.slice y1.A y1.n y1.c)), (7, .p 0 0)], [⟨40, [vI 0, vI 0, vS emp]⟩]⟩ [] [] (by kernel_rfl) on wn ?_
      refine l_nil (q_then_normal ?_)
      refine c_seq ?_
      refine c_region ?_
      refine JL_run 5 [(4, .sl ((mIdx (fun x : CSession => decide (x.client = t)) y1.xs) + 1).toNat y1.n)] [37, 33, 7] 1 ⟨[(37, .v (.slice (if y1.c = ((mIdx (fun x : CSession => decide (x.client = t)) y1.xs) + 1).toNat then y1.A else y1.A.map (·.add (((mIdx (fun x : CSession => decide (x.client = t)) y1.xs) + 1).toNat * 5))) (y1.n - ((mIdx (fun x : CSession => decide (x.client = t)) y1.xs) + 1).toNat) (y1.c - ((mIdx (fun x : CSession => decide (x.client = t)) y1.xs) + 1).toNat))), (33, .v (.slice A3 ([] ++ y1.xs.take (mIdx (fun x : CSession => decide (x.client = t)) y1.xs).toNat).length c3)), (7, .p 0 0)], [⟨40, [vI 0, vI 0, vS emp]⟩]⟩ [inR ((mIdx (fun x : CSession => decide (x.client = t)) y1.xs) + 1), (mIdx (fun x : CSession => decide (x.client = t)) y1.xs) + 1 = ((((mIdx (fun x : CSession => decide (x.client = t)) y1.xs) + 1).toNat : Nat) : Int), y1.n = y1.n, ((mIdx (fun x : CSession => decide (x.client = t)) y1.xs) + 1).toNat ≤ y1.n] [] (by kernel_rfl) (oc (by unfold inR; omega) (oc (by omega) (oc rfl (oc (by omega) on)))) wn ?_
      refine l_appendA (α := CSession) 98 56 A3 c3 ([] ++ y1.xs.take (mIdx (fun x : CSession => decide (x.client = t)) y1.xs).toNat) (.v (.slice (if y1.c = ((mIdx (fun x : CSession => decide (x.client = t)) y1.xs) + 1).toNat then y1.A else y1.A.map (·.add (((mIdx (fun x : CSession => decide (x.client = t)) y1.xs) + 1).toNat * 5))) (y1.n - ((mIdx (fun x : CSession => decide (x.client = t)) y1.xs) + 1).toNat) (y1.c - ((mIdx (fun x : CSession => decide (x.client = t)) y1.xs) + 1).toNat))) (y1.xs.drop ((mIdx (fun x : CSession => decide (x.client = t)) y1.xs) + 1).toNat) Try.underlying37 (by kernel_rfl) rfl rfl rfl (fun bs w hS => ⟨_, _, by rw [(show (y1.xs.drop ((mIdx (fun x : CSession => decide (x.client = t)) y1.xs) + 1).toNat).length = y1.n - ((mIdx (fun x : CSession => decide (x.client = t)) y1.xs) + 1).toNat from List.length_drop ..)]; rfl, by rw [(show (y1.xs.drop ((mIdx (fun x : CSession => decide (x.client = t)) y1.xs) + 1).toNat).length = y1.n - ((mIdx (fun x : CSession => decide (x.client = t)) y1.xs) + 1).toNat from List.length_drop ..)]; exact Sl.rd.srcDrop (s := y1) (own_sess (A := y1.A) (c := y1.c) (L := y1.xs) (hS.res _ (.tail _ (.head _))) (hS.res _ (.tail _ (.tail _ (.head _)))) hnm1) (by omega)⟩) (by simp only [List.length_append, List.length_nil, List.length_take, List.length_drop]; omega) (by simp only [List.length_append, List.length_nil, List.length_take, List.length_drop]; omega) ?_
      intro A4 c4
      refine JL_run 4 [] [8, 6, 7] 1 ⟨[(8, vI 0), (6, .v (.slice A4 ([] ++ y1.xs.take (mIdx (fun x : CSession => decide (x.client = t)) y1.xs).toNat ++ y1.xs.drop ((mIdx (fun x : CSession => decide (x.client = t)) y1.xs) + 1).toNat).length c4)), (7, .p 0 0)], [⟨40, [vI 0, vI 0, vS emp]⟩]⟩ [] [] (by kernel_rfl) on wn ?_
      refine l_nil (q_then_normal ?_)
      refine c_ret ?_
      refine q_ret (.inl rfl) [.v (.slice A4 ([] ++ y1.xs.take (mIdx (fun x : CSession => decide (x.client = t)) y1.xs).toNat ++ y1.xs.drop ((mIdx (fun x : CSession => decide (x.client = t)) y1.xs) + 1).toNat).length c4), .v (.agg #[.int .i64 0, .int .i64 0, .string emp]), vI 0] rfl (fun bs w hS => ?_)
      have hmi : mIdx (fun x : DSession => decide (x.client = t)) (y1.xs.map CSession.abs) = mIdx (fun x : DSession => decide (x.client = t)) (s.xs.map CSession.abs) := by rw [hF1]
      have hie : mIdx (fun x : CSession => decide (x.client = t)) y1.xs = mIdx (fun x : DSession => decide (x.client = t)) (s.xs.map CSession.abs) := (mIdx_map CSession.abs (fun x : DSession => decide (x.client = t)) y1.xs).trans hmi
      have hm : mLeave (s.xs.map CSession.abs) n t = ((s.xs.map CSession.abs).take (mIdx (fun x : DSession => decide (x.client = t)) (s.xs.map CSession.abs)).toNat ++ (s.xs.map CSession.abs).drop ((mIdx (fun x : DSession => decide (x.client = t)) (s.xs.map CSession.abs)).toNat + 1), zRep, 0) := by unfold mLeave; rw [if_neg (by simpa using (by assumption : mSess _ _ = 0)), if_neg (by omega)]
      refine ⟨⟨A4, c4, [] ++ y1.xs.take (mIdx (fun x : CSession => decide (x.client = t)) y1.xs).toNat ++ y1.xs.drop ((mIdx (fun x : CSession => decide (x.client = t)) y1.xs) + 1).toNat⟩, ?_, ?_, hS.outS (y := (⟨A4, c4, [] ++ y1.xs.take (mIdx (fun x : CSession => decide (x.client = t)) y1.xs).toNat ++ y1.xs.drop ((mIdx (fun x : CSession => decide (x.client = t)) y1.xs) + 1).toNat⟩ : Sl CSession)) (out_sess (L0 := y1.xs) (.head _) (.tail _ (.head _)) hS.res (fun x hx => ?_) hnm1)⟩
      · rw [hm]; rfl
      · have hto : (mIdx (fun x : CSession => decide (x.client = t)) y1.xs + 1).toNat = (mIdx (fun x : CSession => decide (x.client = t)) y1.xs).toNat + 1 := by omega
        rw [hm, ← hie, ← hF1]; simp [List.map_append, List.map_take, List.map_drop, hto]
      · simp only [List.nil_append, List.mem_append] at hx; rcases hx with hx | hx
        · exact List.mem_of_mem_take hx
        · exact List.mem_of_mem_drop hx
  | false =>
    have h1 := of_decide_eq_false h1
    refine c_if true rfl ?_
    refine c_seq ?_
    refine c_region ?_
    refine JL_run 5 [] [8, 6, 7] 1 ⟨[(8, vI (mSess (s.xs.map CSession.abs) n)), (6, .v (.slice none 0 0)), (7, .p 0 0)], [⟨40, [vI 0, vI 0, vS emp]⟩]⟩ [] [] (by kernel_rfl) on wn ?_
    refine l_nil (q_then_normal ?_)
    refine c_ret ?_
    refine q_then_ret (q_ret (.inl rfl) [.v (.slice none 0 0), .v (.agg #[.int .i64 0, .int .i64 0, .string emp]), vI (mSess (s.xs.map CSession.abs) n)] rfl (fun bs w hS => ?_))
    have hm : mLeave (s.xs.map CSession.abs) n t = ([], zRep, mSess (s.xs.map CSession.abs) n) := by unfold mLeave; rw [if_pos h1]
    refine ⟨Sl.nil, ?_, ?_, hS.outS (Sl.rd_nil _ _)⟩
    · rw [hm]; rfl
    · rw [hm]; rfl

theorem law_SessionLeaves {B : Nat → Prop} (s : Sl CSession) (n t : Int) (w : World) (hs : s.rd B w) (hsm : Rds.small s) (ht : inR t) : Calls Try.prog 5 #[.slice s.A s.n s.c, .int .i64 n, .int .i64 t] w fun e w' => e = .returned (.bool true) ∧ Kp [] w w' := by
  have oks := Sl.rd.ok hs
  have ncs := Sl.ok.nc oks
  have hns : s.n = s.xs.length := rfl
  refine calls_J0 50 Try.func5 rfl rfl [.slice s.A s.n s.c, .int .i64 n, .int .i64 t] rfl ?_
  refine c_seq ?_
  refine c_region ?_
  refine JL_run 1 [] [0, 1, 2] 0 ⟨[(0, .v (.slice s.A s.n s.c)), (1, vI n), (2, vI t)], []⟩ [] [] (by kernel_rfl) on wn ?_
  refine l_nil (q_then_normal ?_)
  refine c_seq ?_
  refine c_region ?_
  refine JL_run 1 [] [14, 0, 1, 2] 0 ⟨[(14, .v (.slice s.A s.n s.c)), (0, .v (.slice s.A s.n s.c)), (1, vI n), (2, vI t)], []⟩ [] [] (by kernel_rfl) on wn ?_
  refine l_sub_call (σ := Sl CSession) 21 [] [.v (.slice s.A s.n s.c)] (fun y1 => .slice y1.A y1.n y1.c) (fun y1 => y1.xs.map CSession.abs = s.xs.map CSession.abs) Try.call21 rfl rfl rfl rfl (fun bs w hS => law_kept s w (Sl.rd.kp hs hS.kp) hsm) ?_
  rintro fp1 y1 hF1 hok1
  refine JL_run 1 [] [7, 0, 1, 2] 0 ⟨[(7, .v (.slice y1.A y1.n y1.c)), (0, .v (.slice s.A s.n s.c)), (1, vI n), (2, vI t)], []⟩ [] [] (by kernel_rfl) on wn ?_
  refine l_nil (q_then_normal ?_)
  refine c_seq ?_
  refine c_region ?_
  refine JL_run 3 [] [19, 18, 17, 7, 0, 1, 2] 0 ⟨[(19, vI t), (18, vI n), (17, .v (.slice y1.A y1.n y1.c)), (7, .v (.slice y1.A y1.n y1.c)), (0, .v (.slice s.A s.n s.c)), (1, vI n), (2, vI t)], []⟩ [] [] (by kernel_rfl) on wn ?_
  refine l_sub_call (σ := Sl CSession) 22 [] [.v (.slice y1.A y1.n y1.c), vI n, vI t] (fun y2 => .tuple #[.slice y2.A y2.n y2.c, .agg #[.int .i64 ((mLeave (y1.xs.map CSession.abs) n t).2.1).code, .int .i64 ((mLeave (y1.xs.map CSession.abs) n t).2.1).n, .string ((mLeave (y1.xs.map CSession.abs) n t).2.1).text], .int .i64 ((mLeave (y1.xs.map CSession.abs) n t).2.2)]) (fun y2 => y2.xs.map CSession.abs = (mLeave (y1.xs.map CSession.abs) n t).1) Try.call22 rfl rfl rfl rfl (fun bs w hS => session_Leave y1 n t w (hS.res _ (.head _)) ht) ?_
  rintro fp2 y2 hF2 hok2
  refine JL_run 8 [] [10, 8, 9, 7, 0, 1, 2] 1 ⟨[(10, vI ((mLeave (y1.xs.map CSession.abs) n t).2.2)), (8, .v (.slice y2.A y2.n y2.c)), (9, .p 0 0), (7, .v (.slice y1.A y1.n y1.c)), (0, .v (.slice s.A s.n s.c)), (1, vI n), (2, vI t)], [⟨40, [vI ((mLeave (y1.xs.map CSession.abs) n t).2.1).code, vI ((mLeave (y1.xs.map CSession.abs) n t).2.1).n, vS ((mLeave (y1.xs.map CSession.abs) n t).2.1).text]⟩]⟩ [] [] (by kernel_rfl) on wn ?_
  refine l_nil (q_then_normal ?_)
  refine c_seq ?_
  refine c_region ?_
  refine JL_run 3 [] [27, 26, 25, 10, 8, 9, 7, 0] 1 ⟨[(27, vI t), (26, vI n), (25, .v (.slice s.A s.n s.c)), (10, vI ((mLeave (y1.xs.map CSession.abs) n t).2.2)), (8, .v (.slice y2.A y2.n y2.c)), (9, .p 0 0), (7, .v (.slice y1.A y1.n y1.c)), (0, .v (.slice s.A s.n s.c))], [⟨40, [vI ((mLeave (y1.xs.map CSession.abs) n t).2.1).code, vI ((mLeave (y1.xs.map CSession.abs) n t).2.1).n, vS ((mLeave (y1.xs.map CSession.abs) n t).2.1).text]⟩]⟩ [] [] (by kernel_rfl) on wn ?_
  refine l_sub_call (σ := Sl CSession) 23 [] [.v (.slice s.A s.n s.c), vI n, vI t] (fun y3 => .tuple #[.slice y3.A y3.n y3.c, .agg #[.int .i64 ((mLeave (s.xs.map CSession.abs) n t).2.1).code, .int .i64 ((mLeave (s.xs.map CSession.abs) n t).2.1).n, .string ((mLeave (s.xs.map CSession.abs) n t).2.1).text], .int .i64 ((mLeave (s.xs.map CSession.abs) n t).2.2)]) (fun y3 => y3.xs.map CSession.abs = (mLeave (s.xs.map CSession.abs) n t).1) Try.call23 rfl rfl rfl rfl (fun bs w hS => ref_LeftOf s n t w (Sl.rd.kp hs hS.kp) ht) ?_
  rintro fp3 y3 hF3 hok3
  refine JL_run 8 [] [13, 11, 12, 10, 8, 9, 7, 0] 2 ⟨[(13, vI ((mLeave (s.xs.map CSession.abs) n t).2.2)), (11, .v (.slice y3.A y3.n y3.c)), (12, .p 1 0), (10, vI ((mLeave (y1.xs.map CSession.abs) n t).2.2)), (8, .v (.slice y2.A y2.n y2.c)), (9, .p 0 0), (7, .v (.slice y1.A y1.n y1.c)), (0, .v (.slice s.A s.n s.c))], [⟨40, [vI ((mLeave (y1.xs.map CSession.abs) n t).2.1).code, vI ((mLeave (y1.xs.map CSession.abs) n t).2.1).n, vS ((mLeave (y1.xs.map CSession.abs) n t).2.1).text]⟩, ⟨40, [vI ((mLeave (s.xs.map CSession.abs) n t).2.1).code, vI ((mLeave (s.xs.map CSession.abs) n t).2.1).n, vS ((mLeave (s.xs.map CSession.abs) n t).2.1).text]⟩]⟩ [] [] (by kernel_rfl) on wn ?_
  refine l_nil (q_then_normal ?_)
  refine c_seq ?_
  refine c_region ?_
  refine JL_run 4 [(2, .val (.bool ((decide (((mLeave (y1.xs.map CSession.abs) n t).2.1).code = ((mLeave (s.xs.map CSession.abs) n t).2.1).code)) && ((decide (((mLeave (y1.xs.map CSession.abs) n t).2.1).n = ((mLeave (s.xs.map CSession.abs) n t).2.1).n)) && ((decide (((mLeave (y1.xs.map CSession.abs) n t).2.1).text = ((mLeave (s.xs.map CSession.abs) n t).2.1).text)) && true)))))] [35, 13, 11, 10, 8, 7, 0] 0 ⟨[(35, vB ((decide (((mLeave (y1.xs.map CSession.abs) n t).2.1).code = ((mLeave (s.xs.map CSession.abs) n t).2.1).code)) && ((decide (((mLeave (y1.xs.map CSession.abs) n t).2.1).n = ((mLeave (s.xs.map CSession.abs) n t).2.1).n)) && ((decide (((mLeave (y1.xs.map CSession.abs) n t).2.1).text = ((mLeave (s.xs.map CSession.abs) n t).2.1).text)) && true)))), (13, vI ((mLeave (s.xs.map CSession.abs) n t).2.2)), (11, .v (.slice y3.A y3.n y3.c)), (10, vI ((mLeave (y1.xs.map CSession.abs) n t).2.2)), (8, .v (.slice y2.A y2.n y2.c)), (7, .v (.slice y1.A y1.n y1.c)), (0, .v (.slice s.A s.n s.c))], []⟩ [∀ w, (do eqGuard .eql 40 (.tmp 32) (.tmp 33) (.agg #[.int .i64 ((mLeave (y1.xs.map CSession.abs) n t).2.1).code, .int .i64 ((mLeave (y1.xs.map CSession.abs) n t).2.1).n, .string ((mLeave (y1.xs.map CSession.abs) n t).2.1).text]) (.agg #[.int .i64 ((mLeave (s.xs.map CSession.abs) n t).2.1).code, .int .i64 ((mLeave (s.xs.map CSession.abs) n t).2.1).n, .string ((mLeave (s.xs.map CSession.abs) n t).2.1).text]); binOp .eql 40 (.agg #[.int .i64 ((mLeave (y1.xs.map CSession.abs) n t).2.1).code, .int .i64 ((mLeave (y1.xs.map CSession.abs) n t).2.1).n, .string ((mLeave (y1.xs.map CSession.abs) n t).2.1).text]) (.agg #[.int .i64 ((mLeave (s.xs.map CSession.abs) n t).2.1).code, .int .i64 ((mLeave (s.xs.map CSession.abs) n t).2.1).n, .string ((mLeave (s.xs.map CSession.abs) n t).2.1).text]) : Sem Value).run Try.prog w = .ok (.bool ((decide (((mLeave (y1.xs.map CSession.abs) n t).2.1).code = ((mLeave (s.xs.map CSession.abs) n t).2.1).code)) && ((decide (((mLeave (y1.xs.map CSession.abs) n t).2.1).n = ((mLeave (s.xs.map CSession.abs) n t).2.1).n)) && ((decide (((mLeave (y1.xs.map CSession.abs) n t).2.1).text = ((mLeave (s.xs.map CSession.abs) n t).2.1).text)) && true)))) w] [] (by kernel_rfl) (oc (eq_agg (by kernel_rfl) (by kernel_rfl)) on) wn ?_
  cases h1 : (decide (((mLeave (y1.xs.map CSession.abs) n t).2.1).code = ((mLeave (s.xs.map CSession.abs) n t).2.1).code)) && ((decide (((mLeave (y1.xs.map CSession.abs) n t).2.1).n = ((mLeave (s.xs.map CSession.abs) n t).2.1).n)) && ((decide (((mLeave (y1.xs.map CSession.abs) n t).2.1).text = ((mLeave (s.xs.map CSession.abs) n t).2.1).text)) && true)) with
  | true =>
    refine JL_run 5 [] [40, 11, 8, 7, 0] 0 ⟨[(40, vB (decide ((mLeave (y1.xs.map CSession.abs) n t).2.2 = (mLeave (s.xs.map CSession.abs) n t).2.2))), (11, .v (.slice y3.A y3.n y3.c)), (8, .v (.slice y2.A y2.n y2.c)), (7, .v (.slice y1.A y1.n y1.c)), (0, .v (.slice s.A s.n s.c))], []⟩ [] [] (by kernel_rfl) on wn ?_
    cases h2 : decide ((mLeave (y1.xs.map CSession.abs) n t).2.2 = (mLeave (s.xs.map CSession.abs) n t).2.2) with
    | true =>
      have h2 := of_decide_eq_true h2
      refine JL_run 2 [] [42, 41, 40, 7, 0] 0 ⟨[(42, .v (.slice y3.A y3.n y3.c)), (41, .v (.slice y2.A y2.n y2.c)), (40, vB true), (7, .v (.slice y1.A y1.n y1.c)), (0, .v (.slice s.A s.n s.c))], []⟩ [] [] (by kernel_rfl) on wn ?_
      refine l_pure 24 [] [.v (.slice y2.A y2.n y2.c), .v (.slice y3.A y3.n y3.c)] (.bool true) Try.call24 rfl rfl rfl rfl (fun bs w hS => same_sessions _ _ w (hS.res _ (.tail _ (.head _))) (hS.res _ (.head _)) (by rw [hF2, hF3, hF1])) ?_
      refine JL_run 4 [] [47, 46, 45] 0 ⟨[(47, .v (.slice s.A s.n s.c)), (46, .v (.slice y1.A y1.n y1.c)), (45, vB true)], []⟩ [] [] (by kernel_rfl) on wn ?_
      refine l_pure 24 [] [.v (.slice y1.A y1.n y1.c), .v (.slice s.A s.n s.c)] (.bool true) Try.call24 rfl rfl rfl rfl (fun bs w hS => same_sessions _ _ w (hS.res _ (.tail _ (.tail _ (.head _)))) (Sl.rd.kp hs hS.kp) hF1) ?_
      refine JL_run 2 [] [6] 0 ⟨[(6, vB true)], []⟩ [] [] (by kernel_rfl) on wn ?_
      refine l_nil (q_then_normal ?_)
      refine c_ret ?_
      refine q_ret (.inl rfl) [vB true] rfl (fun bs w hS => ?_)
      refine ⟨?_, hS.kp⟩
      simp [retOf, den]
    | false =>
      have h2 := of_decide_eq_false h2
      exfalso; first | (simp at h2; done) | (rw [hF1] at h2; simp at h2; done)
  | false =>
    exfalso; first | (simp at h1; done) | (rw [hF1] at h1; simp at h1; done)

end Go.Proofs.Ytececkgjacccmac.W
