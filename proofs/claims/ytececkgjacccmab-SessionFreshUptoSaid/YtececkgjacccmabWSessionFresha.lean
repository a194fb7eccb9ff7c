/-
  The functions that the law SessionFresh reaches, walked: each returns what its model says.
  Conditions: those that each theorem states.
-/
import Derived.Test.YtececkgjacccmabMc
import Derived.Test.YtececkgjacccmabChecked
set_option linter.unusedVariables false
set_option linter.unusedSimpArgs false
set_option maxRecDepth 100000
namespace Go.Proofs.Ytececkgjacccmab.W
open Go.Proofs.Ytececkgjacccmab.Fw Go.RowKit

theorem Try_mixed : Try.prog.follows .mixedOrders = true := by kernel_rfl
theorem laid : laidOutB Try.prog = true := by kernel_rfl

theorem ref_In (n lo hi : Int) (w : World) : Calls Try.prog 47 #[.int .i64 n, .int .i64 lo, .int .i64 hi] w fun e w' => e = .returned (.bool (inB n lo hi)) ∧ Kp [] w w' := by
  refine calls_J0 15 Try.func47 rfl rfl [.int .i64 n, .int .i64 lo, .int .i64 hi] rfl ?_
  refine c_seq ?_
  refine c_region ?_
  refine JL_run 1 [] [0, 1, 2] 0 ⟨[(0, vI n), (1, vI lo), (2, vI hi)], []⟩ [] [] (by kernel_rfl) on wn ?_
  refine l_nil (q_then_normal ?_)
  refine c_seq ?_
  refine c_region ?_
  refine JL_run 4 [] [10, 0, 2] 0 ⟨[(10, vB (decide (lo ≤ n))), (0, vI n), (2, vI hi)], []⟩ [] [] (by kernel_rfl) on wn ?_
  cases h1 : decide (lo ≤ n) with
  | true =>
    have h1 := of_decide_eq_true h1
    refine JL_run 5 [] [6] 0 ⟨[(6, vB (decide (n ≤ hi)))], []⟩ [] [] (by kernel_rfl) on wn ?_
    refine l_nil (q_then_normal ?_)
    refine c_ret ?_
    refine q_ret (.inl rfl) [vB (decide (n ≤ hi))] rfl (fun bs w hS => ?_)
    exact ⟨by simp [retOf, den, inB, h1], hS.kp⟩
  | false =>
    have h1 := of_decide_eq_false h1
    refine JL_run 5 [] [6] 0 ⟨[(6, vB false)], []⟩ [] [] (by kernel_rfl) on wn ?_
    refine l_nil (q_then_normal ?_)
    refine c_ret ?_
    refine q_ret (.inl rfl) [vB false] rfl (fun bs w hS => ?_)
    exact ⟨by simp [retOf, den, inB, h1], hS.kp⟩

theorem session_replies {B : Nat → Prop} (x : CSession) (w : World) (hx : Rds.sub B w x) (hb : 0 ≤ x.acked ∧ x.acked ≤ 1048576) : Calls Try.prog 51 #[.agg #[.int .i64 x.client, .int .i64 x.id, .int .i64 x.acked, .int .i64 x.last, .slice x.replies.A x.replies.n x.replies.c]] w fun e w' => e = .returned (.bool (mReplies x.abs)) ∧ Kp [] w w' := by
  have okx := Rds.okof hx
  have ncx := Sl.ok.nc okx
  have hns : x.replies.n = x.replies.xs.length := rfl
  have hat : ∀ q, x.abs.replies.getD q default = x.replies.at q := fun _ => rfl
  have hac : x.abs.acked = x.acked := rfl
  have hln : x.abs.replies.length = x.replies.n := rfl
  refine calls_J0 70 Try.func51 rfl rfl [.agg #[.int .i64 x.client, .int .i64 x.id, .int .i64 x.acked, .int .i64 x.last, .slice x.replies.A x.replies.n x.replies.c]] rfl ?_
  refine c_seq ?_
  refine c_region ?_
  refine JL_run 2 [] [1] 1 ⟨[(1, .p 0 0)], [⟨83, [vI x.client, vI x.id, vI x.acked, vI x.last, .v (.slice x.replies.A x.replies.n x.replies.c)]⟩]⟩ [] [] (by kernel_rfl) on wn ?_
  refine l_nil (q_then_normal ?_)
  refine c_seq ?_
  refine c_seq ?_
  refine c_region ?_
  refine JL_run 4 [] [9, 8, 7, 1] 1 ⟨[(9, vI 0), (8, vI ((x.replies.n : Nat) : Int)), (7, .v (.slice x.replies.A x.replies.n x.replies.c)), (1, .p 0 0)], [⟨83, [vI x.client, vI x.id, vI x.acked, vI x.last, .v (.slice x.replies.A x.replies.n x.replies.c)]⟩]⟩ [] [] (by kernel_rfl) on wn ?_
  refine l_nil (q_then_normal ?_)
  refine c_block ?_
  refine c_loop (σ := Nat) (fun i => i ≤ x.replies.n ∧ allTo (keptOk x.abs) i = true) (fun i => x.replies.n - i) (fun i => []) (fun i => ⟨[(9, vI ((i : Nat) : Int)), (8, vI ((x.replies.n : Nat) : Int)), (7, .v (.slice x.replies.A x.replies.n x.replies.c)), (1, .p 0 0)], [⟨83, [vI x.client, vI x.id, vI x.acked, vI x.last, .v (.slice x.replies.A x.replies.n x.replies.c)]⟩]⟩) 0 ⟨Nat.zero_le _, rfl⟩ (s_start [9, 8, 7, 1] 1 (by kernel_rfl) rfl) ?_
  rintro i ⟨hi, hI⟩
  refine c_seq ?_
  refine c_region ?_
  refine JL_run 1 [] [10, 9, 8, 7, 1] 1 ⟨[(10, vB (decide (((i : Nat) : Int) < ((x.replies.n : Nat) : Int)))), (9, vI ((i : Nat) : Int)), (8, vI ((x.replies.n : Nat) : Int)), (7, .v (.slice x.replies.A x.replies.n x.replies.c)), (1, .p 0 0)], [⟨83, [vI x.client, vI x.id, vI x.acked, vI x.last, .v (.slice x.replies.A x.replies.n x.replies.c)]⟩]⟩ [] [] (by kernel_rfl) on wn ?_
  refine l_nil (q_then_normal ?_)
  refine c_seq ?_
  cases h1 : decide (((i : Nat) : Int) < ((x.replies.n : Nat) : Int)) with
  | true =>
    have h1 := of_decide_eq_true h1
    refine c_if true rfl ?_
    refine c_skip ?_
    refine q_then_normal ?_
    refine c_seq ?_
    refine c_block ?_
    refine c_seq ?_
    refine c_region ?_
    refine JL_run 6 [(1, .idx x.replies.ad i), (2, .ext [.int .i64 (x.replies.at i).seq, .int .i64 (x.replies.at i).reply.code, .int .i64 (x.replies.at i).reply.n, .string (x.replies.at i).reply.text])] [3, 4, 9, 8, 7, 1] 2 ⟨[(3, vI ((i : Nat) : Int)), (4, .p 1 0), (9, vI ((i : Nat) : Int)), (8, vI ((x.replies.n : Nat) : Int)), (7, .v (.slice x.replies.A x.replies.n x.replies.c)), (1, .p 0 0)], [⟨83, [vI x.client, vI x.id, vI x.acked, vI x.last, .v (.slice x.replies.A x.replies.n x.replies.c)]⟩, ⟨100, [vI (x.replies.at i).seq, vI (x.replies.at i).reply.code, vI (x.replies.at i).reply.n, vS (x.replies.at i).reply.text]⟩]⟩ [x.replies.A = some x.replies.ad, ((i : Nat) : Int) = ((i : Nat) : Int), i < x.replies.n] [(x.replies.ad.add (i * 4), [.int .i64 (x.replies.at i).seq, .int .i64 (x.replies.at i).reply.code, .int .i64 (x.replies.at i).reply.n, .string (x.replies.at i).reply.text])] (by kernel_rfl) (oc (Sl.ok.own (s := x.replies) (i := i) okx (by omega)) (oc rfl (oc (by omega) on))) (fun w hk hr => ⟨(Sl.rd.all (s := x.replies) (i := i) (Rds.kp hx hk) (by omega) rfl), trivial⟩) ?_
    refine l_nil (q_then_normal ?_)
    refine c_seq ?_
    refine c_seq ?_
    refine c_draw 29 [(0, false), (1, false), (2, false), (3, false), (4, false), (5, false), (6, false), (7, false), (8, false), (9, false), (10, false), (11, false), (12, false), (13, false), (14, false), (15, false), (16, false), (17, false), (18, false), (19, false), (20, false), (21, false), (22, false), (23, false), (24, false), (25, false), (26, false), (27, false), (28, false)] [] [] Try_mixed (by kernel_rfl) (pq_then (pq_then (pq_block (pq_then (pq_then (pq_block (pq_then pq_body))))))) (List.Sublist.refl _) ?_
    refine h_quiet [] 6 [(19, vB (decide ((x.replies.at i).seq ≤ x.acked))), (18, vB (decide ((x.replies.at i).seq ≤ x.acked))), (17, vI x.acked), (16, .p 0 2), (15, vI (x.replies.at i).seq), (14, .p 1 0), (3, vI ((i : Nat) : Int)), (4, .p 1 0), (9, vI ((i : Nat) : Int)), (8, vI ((x.replies.n : Nat) : Int)), (7, .v (.slice x.replies.A x.replies.n x.replies.c)), (1, .p 0 0)] [] [] rfl rfl (by kernel_rfl) on wn ?_
    cases h2 : decide ((x.replies.at i).seq ≤ x.acked) with
    | true =>
      have h2 := of_decide_eq_true h2
      refine h_quiet [] 23 [(42, vB true), (41, .v (undef)), (40, .v (undef)), (39, .v (undef)), (38, .v (undef)), (37, .v (undef)), (36, .v (undef)), (35, .v (undef)), (34, .v (undef)), (33, .v (undef)), (32, .v (undef)), (31, .v (undef)), (30, .v (undef)), (29, .v (undef)), (28, .v (undef)), (27, vB true), (26, vB true), (25, .v (undef)), (24, .v (undef)), (23, .v (undef)), (22, .v (undef)), (21, .v (undef)), (20, .v (undef)), (19, vB true), (18, vB true), (17, vI x.acked), (16, .p 0 2), (15, vI (x.replies.at i).seq), (14, .p 1 0), (3, vI ((i : Nat) : Int)), (4, .p 1 0), (9, vI ((i : Nat) : Int)), (8, vI ((x.replies.n : Nat) : Int)), (7, .v (.slice x.replies.A x.replies.n x.replies.c)), (1, .p 0 0)] [] [] rfl rfl (by kernel_rfl) on wn ?_
      refine h_nil ?_
      refine l_nil (q_then_normal ?_)
      refine c_if true rfl ?_
      refine c_seq ?_
      refine c_region ?_
      refine JL_run 1 [] [2] 0 ⟨[(2, vB false)], []⟩ [] [] (by kernel_rfl) on wn ?_
      refine l_nil (q_then_normal ?_)
      refine c_ret ?_
      refine q_then_ret (q_block_ret (q_then_ret (q_then_ret (q_block_ret (q_then_ret (q_ret (.inl rfl) [vB false] rfl (fun bs w hS => ?_)))))))
      refine ⟨?_, hS.kp⟩
      have hm : mReplies x.abs = false := allTo_bad (j := i) (decide_eq_false (fun hk => by simp only [hat, hac] at hk; omega)) (show i < x.abs.replies.length by rw [hln]; omega)
      rw [hm]
      rfl
    | false =>
      have h2 := of_decide_eq_false h2
      refine h_quiet [] 8 [(27, vB (decide (x.acked + 4 < (x.replies.at i).seq))), (26, vB (decide (x.acked + 4 < (x.replies.at i).seq))), (25, vB (decide (x.acked + 4 < (x.replies.at i).seq))), (24, vI (x.acked + 4)), (23, vI x.acked), (22, .p 0 2), (21, vI (x.replies.at i).seq), (20, .p 1 0), (19, vB false), (18, vB false), (17, vI x.acked), (16, .p 0 2), (15, vI (x.replies.at i).seq), (14, .p 1 0), (3, vI ((i : Nat) : Int)), (4, .p 1 0), (9, vI ((i : Nat) : Int)), (8, vI ((x.replies.n : Nat) : Int)), (7, .v (.slice x.replies.A x.replies.n x.replies.c)), (1, .p 0 0)] [inR (x.acked + 4)] [] rfl rfl (by kernel_rfl) (oc (by unfold inR; omega) on) wn ?_
      cases h3 : decide (x.acked + 4 < (x.replies.at i).seq) with
      | true =>
        have h3 := of_decide_eq_true h3
        refine h_quiet [] 15 [(42, vB true), (41, .v (undef)), (40, .v (undef)), (39, .v (undef)), (38, .v (undef)), (37, .v (undef)), (36, .v (undef)), (35, .v (undef)), (34, .v (undef)), (33, .v (undef)), (32, .v (undef)), (31, .v (undef)), (30, .v (undef)), (29, .v (undef)), (28, .v (undef)), (27, vB true), (26, vB true), (25, vB true), (24, vI (x.acked + 4)), (23, vI x.acked), (22, .p 0 2), (21, vI (x.replies.at i).seq), (20, .p 1 0), (19, vB false), (18, vB false), (17, vI x.acked), (16, .p 0 2), (15, vI (x.replies.at i).seq), (14, .p 1 0), (3, vI ((i : Nat) : Int)), (4, .p 1 0), (9, vI ((i : Nat) : Int)), (8, vI ((x.replies.n : Nat) : Int)), (7, .v (.slice x.replies.A x.replies.n x.replies.c)), (1, .p 0 0)] [] [] rfl rfl (by kernel_rfl) on wn ?_
        refine h_nil ?_
        refine l_nil (q_then_normal ?_)
        refine c_if true rfl ?_
        refine c_seq ?_
        refine c_region ?_
        refine JL_run 1 [] [2] 0 ⟨[(2, vB false)], []⟩ [] [] (by kernel_rfl) on wn ?_
        refine l_nil (q_then_normal ?_)
        refine c_ret ?_
        refine q_then_ret (q_block_ret (q_then_ret (q_then_ret (q_block_ret (q_then_ret (q_ret (.inl rfl) [vB false] rfl (fun bs w hS => ?_)))))))
        refine ⟨?_, hS.kp⟩
        have hm : mReplies x.abs = false := allTo_bad (j := i) (decide_eq_false (fun hk => by simp only [hat, hac] at hk; omega)) (show i < x.abs.replies.length by rw [hln]; omega)
        rw [hm]
        rfl
      | false =>
        have h3 := of_decide_eq_false h3
        refine h_quiet [] 3 [(30, vB (decide ((0 : Int) < ((i : Nat) : Int)))), (29, vB (decide ((0 : Int) < ((i : Nat) : Int)))), (28, vI ((i : Nat) : Int)), (27, vB false), (26, vB false), (25, vB false), (24, vI (x.acked + 4)), (23, vI x.acked), (22, .p 0 2), (21, vI (x.replies.at i).seq), (20, .p 1 0), (19, vB false), (18, vB false), (17, vI x.acked), (16, .p 0 2), (15, vI (x.replies.at i).seq), (14, .p 1 0), (3, vI ((i : Nat) : Int)), (4, .p 1 0), (9, vI ((i : Nat) : Int)), (8, vI ((x.replies.n : Nat) : Int)), (7, .v (.slice x.replies.A x.replies.n x.replies.c)), (1, .p 0 0)] [] [] rfl rfl (by kernel_rfl) on wn ?_
        cases h4 : decide ((0 : Int) < ((i : Nat) : Int)) with
        | true =>
          have h4 := of_decide_eq_true h4
          refine h_quiet [(21, .idx x.replies.ad (i - 1)), (23, .ext [.int .i64 (x.replies.at (i - 1)).seq])] 12 [(42, vB (decide ((x.replies.at i).seq ≤ (x.replies.at (i - 1)).seq))), (41, vB (decide ((x.replies.at i).seq ≤ (x.replies.at (i - 1)).seq))), (40, vB (decide ((x.replies.at i).seq ≤ (x.replies.at (i - 1)).seq))), (39, vI (x.replies.at i).seq), (38, .p 1 0), (37, vI (x.replies.at (i - 1)).seq), (36, .v (.pointer (some ((x.replies.ad.add ((i - 1) * 4)).add 0)))), (35, .v (.pointer (some (x.replies.ad.add ((i - 1) * 4))))), (34, vI (((i : Nat) : Int) - 1)), (33, vI ((i : Nat) : Int)), (32, .v (.slice x.replies.A x.replies.n x.replies.c)), (31, .p 0 4), (30, vB true), (29, vB true), (28, vI ((i : Nat) : Int)), (27, vB false), (26, vB false), (25, vB false), (24, vI (x.acked + 4)), (23, vI x.acked), (22, .p 0 2), (21, vI (x.replies.at i).seq), (20, .p 1 0), (19, vB false), (18, vB false), (17, vI x.acked), (16, .p 0 2), (15, vI (x.replies.at i).seq), (14, .p 1 0), (3, vI ((i : Nat) : Int)), (4, .p 1 0), (9, vI ((i : Nat) : Int)), (8, vI ((x.replies.n : Nat) : Int)), (7, .v (.slice x.replies.A x.replies.n x.replies.c)), (1, .p 0 0)] [inR (((i : Nat) : Int) - 1), x.replies.A = some x.replies.ad, ((i : Nat) : Int) - 1 = (((i - 1) : Nat) : Int), (i - 1) < x.replies.n] [((x.replies.ad.add ((i - 1) * 4)).add 0, [.int .i64 (x.replies.at (i - 1)).seq])] rfl rfl (by kernel_rfl) (oc (by unfold inR; omega) (oc (Sl.ok.own (s := x.replies) (i := (i - 1)) okx (by omega)) (oc (by omega) (oc (by omega) on)))) (fun w hk hr => ⟨(Sl.rd.fld (s := x.replies) (i := (i - 1)) (Rds.kp hx hk) (by omega) 0 1 rfl), trivial⟩) ?_
          refine h_nil ?_
          refine l_nil (q_then_normal ?_)
          cases h5 : decide ((x.replies.at i).seq ≤ (x.replies.at (i - 1)).seq) with
          | true =>
            have h5 := of_decide_eq_true h5
            refine c_if true rfl ?_
            refine c_seq ?_
            refine c_region ?_
            refine JL_run 1 [] [2] 0 ⟨[(2, vB false)], []⟩ [] [] (by kernel_rfl) on wn ?_
            refine l_nil (q_then_normal ?_)
            refine c_ret ?_
            refine q_then_ret (q_block_ret (q_then_ret (q_then_ret (q_block_ret (q_then_ret (q_ret (.inl rfl) [vB false] rfl (fun bs w hS => ?_)))))))
            refine ⟨?_, hS.kp⟩
            have hm : mReplies x.abs = false := allTo_bad (j := i) (decide_eq_false (fun hk => by simp only [hat, hac] at hk; omega)) (show i < x.abs.replies.length by rw [hln]; omega)
            rw [hm]
            rfl
          | false =>
            have h5 := of_decide_eq_false h5
            refine c_if false rfl ?_
            refine c_skip ?_
            refine q_then_normal ?_
            refine c_seq ?_
            refine c_region ?_
            refine JL_run 4 [] [5, 9, 8, 7, 1] 3 ⟨[(5, .p 2 0), (9, vI ((i : Nat) : Int)), (8, vI ((x.replies.n : Nat) : Int)), (7, .v (.slice x.replies.A x.replies.n x.replies.c)), (1, .p 0 0)], [⟨83, [vI x.client, vI x.id, vI x.acked, vI x.last, .v (.slice x.replies.A x.replies.n x.replies.c)]⟩, ⟨100, [vI (x.replies.at i).seq, vI (x.replies.at i).reply.code, vI (x.replies.at i).reply.n, vS (x.replies.at i).reply.text]⟩, ⟨62, [vI (x.replies.at i).reply.code, vI (x.replies.at i).reply.n, vS (x.replies.at i).reply.text]⟩]⟩ [] [] (by kernel_rfl) on wn ?_
            refine l_nil (q_then_normal ?_)
            refine c_seq ?_
            refine c_region ?_
            refine JL_run 4 [] [48, 5, 9, 8, 7, 1] 3 ⟨[(48, vB (decide ((x.replies.at i).reply.code < 0))), (5, .p 2 0), (9, vI ((i : Nat) : Int)), (8, vI ((x.replies.n : Nat) : Int)), (7, .v (.slice x.replies.A x.replies.n x.replies.c)), (1, .p 0 0)], [⟨83, [vI x.client, vI x.id, vI x.acked, vI x.last, .v (.slice x.replies.A x.replies.n x.replies.c)]⟩, ⟨100, [vI (x.replies.at i).seq, vI (x.replies.at i).reply.code, vI (x.replies.at i).reply.n, vS (x.replies.at i).reply.text]⟩, ⟨62, [vI (x.replies.at i).reply.code, vI (x.replies.at i).reply.n, vS (x.replies.at i).reply.text]⟩]⟩ [] [] (by kernel_rfl) on wn ?_
            cases h6 : decide ((x.replies.at i).reply.code < 0) with
            | true =>
              have h6 := of_decide_eq_true h6
              refine JL_run 20 [] [68, 9, 8, 7, 1] 1 ⟨[(68, vB true), (9, vI ((i : Nat) : Int)), (8, vI ((x.replies.n : Nat) : Int)), (7, .v (.slice x.replies.A x.replies.n x.replies.c)), (1, .p 0 0)], [⟨83, [vI x.client, vI x.id, vI x.acked, vI x.last, .v (.slice x.replies.A x.replies.n x.replies.c)]⟩]⟩ [] [] (by kernel_rfl) on wn ?_
              refine l_nil (q_then_normal ?_)
              refine c_if true rfl ?_
              refine c_seq ?_
              refine c_region ?_
              refine JL_run 1 [] [2] 0 ⟨[(2, vB false)], []⟩ [] [] (by kernel_rfl) on wn ?_
              refine l_nil (q_then_normal ?_)
              refine c_ret ?_
              refine q_block_ret (q_then_ret (q_then_ret (q_block_ret (q_then_ret (q_ret (.inl rfl) [vB false] rfl (fun bs w hS => ?_))))))
              refine ⟨?_, hS.kp⟩
              have hm : mReplies x.abs = false := allTo_bad (j := i) (decide_eq_false (fun hk => by simp only [hat, hac] at hk; omega)) (show i < x.abs.replies.length by rw [hln]; omega)
              rw [hm]
              rfl
            | false =>
              have h6 := of_decide_eq_false h6
              refine JL_run 5 [] [53, 5, 9, 8, 7, 1] 3 ⟨[(53, vB (decide ((15 : Int) < (x.replies.at i).reply.code))), (5, .p 2 0), (9, vI ((i : Nat) : Int)), (8, vI ((x.replies.n : Nat) : Int)), (7, .v (.slice x.replies.A x.replies.n x.replies.c)), (1, .p 0 0)], [⟨83, [vI x.client, vI x.id, vI x.acked, vI x.last, .v (.slice x.replies.A x.replies.n x.replies.c)]⟩, ⟨100, [vI (x.replies.at i).seq, vI (x.replies.at i).reply.code, vI (x.replies.at i).reply.n, vS (x.replies.at i).reply.text]⟩, ⟨62, [vI (x.replies.at i).reply.code, vI (x.replies.at i).reply.n, vS (x.replies.at i).reply.text]⟩]⟩ [] [] (by kernel_rfl) on wn ?_
              cases h7 : decide ((15 : Int) < (x.replies.at i).reply.code) with
              | true =>
                have h7 := of_decide_eq_true h7
                refine JL_run 15 [] [68, 9, 8, 7, 1] 1 ⟨[(68, vB true), (9, vI ((i : Nat) : Int)), (8, vI ((x.replies.n : Nat) : Int)), (7, .v (.slice x.replies.A x.replies.n x.replies.c)), (1, .p 0 0)], [⟨83, [vI x.client, vI x.id, vI x.acked, vI x.last, .v (.slice x.replies.A x.replies.n x.replies.c)]⟩]⟩ [] [] (by kernel_rfl) on wn ?_
                refine l_nil (q_then_normal ?_)
                refine c_if true rfl ?_
                refine c_seq ?_
                refine c_region ?_
                refine JL_run 1 [] [2] 0 ⟨[(2, vB false)], []⟩ [] [] (by kernel_rfl) on wn ?_
                refine l_nil (q_then_normal ?_)
                refine c_ret ?_
                refine q_block_ret (q_then_ret (q_then_ret (q_block_ret (q_then_ret (q_ret (.inl rfl) [vB false] rfl (fun bs w hS => ?_))))))
                refine ⟨?_, hS.kp⟩
                have hm : mReplies x.abs = false := allTo_bad (j := i) (decide_eq_false (fun hk => by simp only [hat, hac] at hk; omega)) (show i < x.abs.replies.length by rw [hln]; omega)
                rw [hm]
                rfl
              | false =>
                have h7 := of_decide_eq_false h7
                refine JL_run 5 [] [58, 5, 9, 8, 7, 1] 3 ⟨[(58, vB (decide ((x.replies.at i).reply.n < 0))), (5, .p 2 0), (9, vI ((i : Nat) : Int)), (8, vI ((x.replies.n : Nat) : Int)), (7, .v (.slice x.replies.A x.replies.n x.replies.c)), (1, .p 0 0)], [⟨83, [vI x.client, vI x.id, vI x.acked, vI x.last, .v (.slice x.replies.A x.replies.n x.replies.c)]⟩, ⟨100, [vI (x.replies.at i).seq, vI (x.replies.at i).reply.code, vI (x.replies.at i).reply.n, vS (x.replies.at i).reply.text]⟩, ⟨62, [vI (x.replies.at i).reply.code, vI (x.replies.at i).reply.n, vS (x.replies.at i).reply.text]⟩]⟩ [] [] (by kernel_rfl) on wn ?_
                cases h8 : decide ((x.replies.at i).reply.n < 0) with
                | true =>
                  have h8 := of_decide_eq_true h8
                  refine JL_run 10 [] [68, 9, 8, 7, 1] 1 ⟨[(68, vB true), (9, vI ((i : Nat) : Int)), (8, vI ((x.replies.n : Nat) : Int)), (7, .v (.slice x.replies.A x.replies.n x.replies.c)), (1, .p 0 0)], [⟨83, [vI x.client, vI x.id, vI x.acked, vI x.last, .v (.slice x.replies.A x.replies.n x.replies.c)]⟩]⟩ [] [] (by kernel_rfl) on wn ?_
                  refine l_nil (q_then_normal ?_)
                  refine c_if true rfl ?_
                  refine c_seq ?_
                  refine c_region ?_
                  refine JL_run 1 [] [2] 0 ⟨[(2, vB false)], []⟩ [] [] (by kernel_rfl) on wn ?_
                  refine l_nil (q_then_normal ?_)
                  refine c_ret ?_
                  refine q_block_ret (q_then_ret (q_then_ret (q_block_ret (q_then_ret (q_ret (.inl rfl) [vB false] rfl (fun bs w hS => ?_))))))
                  refine ⟨?_, hS.kp⟩
                  have hm : mReplies x.abs = false := allTo_bad (j := i) (decide_eq_false (fun hk => by simp only [hat, hac] at hk; omega)) (show i < x.abs.replies.length by rw [hln]; omega)
                  rw [hm]
                  rfl
                | false =>
                  have h8 := of_decide_eq_false h8
                  refine JL_run 5 [] [63, 5, 9, 8, 7, 1] 3 ⟨[(63, vB (decide ((1073741824 : Int) < (x.replies.at i).reply.n))), (5, .p 2 0), (9, vI ((i : Nat) : Int)), (8, vI ((x.replies.n : Nat) : Int)), (7, .v (.slice x.replies.A x.replies.n x.replies.c)), (1, .p 0 0)], [⟨83, [vI x.client, vI x.id, vI x.acked, vI x.last, .v (.slice x.replies.A x.replies.n x.replies.c)]⟩, ⟨100, [vI (x.replies.at i).seq, vI (x.replies.at i).reply.code, vI (x.replies.at i).reply.n, vS (x.replies.at i).reply.text]⟩, ⟨62, [vI (x.replies.at i).reply.code, vI (x.replies.at i).reply.n, vS (x.replies.at i).reply.text]⟩]⟩ [] [] (by kernel_rfl) on wn ?_
                  cases h9 : decide ((1073741824 : Int) < (x.replies.at i).reply.n) with
                  | true =>
                    have h9 := of_decide_eq_true h9
                    refine JL_run 5 [] [68, 9, 8, 7, 1] 1 ⟨[(68, vB true), (9, vI ((i : Nat) : Int)), (8, vI ((x.replies.n : Nat) : Int)), (7, .v (.slice x.replies.A x.replies.n x.replies.c)), (1, .p 0 0)], [⟨83, [vI x.client, vI x.id, vI x.acked, vI x.last, .v (.slice x.replies.A x.replies.n x.replies.c)]⟩]⟩ [] [] (by kernel_rfl) on wn ?_
                    refine l_nil (q_then_normal ?_)
                    refine c_if true rfl ?_
                    refine c_seq ?_
                    refine c_region ?_
                    refine JL_run 1 [] [2] 0 ⟨[(2, vB false)], []⟩ [] [] (by kernel_rfl) on wn ?_
                    refine l_nil (q_then_normal ?_)
                    refine c_ret ?_
                    refine q_block_ret (q_then_ret (q_then_ret (q_block_ret (q_then_ret (q_ret (.inl rfl) [vB false] rfl (fun bs w hS => ?_))))))
                    refine ⟨?_, hS.kp⟩
                    have hm : mReplies x.abs = false := allTo_bad (j := i) (decide_eq_false (fun hk => by simp only [hat, hac] at hk; omega)) (show i < x.abs.replies.length by rw [hln]; omega)
                    rw [hm]
                    rfl
                  | false =>
                    have h9 := of_decide_eq_false h9
                    refine JL_run 5 [] [68, 9, 8, 7, 1] 1 ⟨[(68, vB (decide ((12 : Int) < ((x.replies.at i).reply.text.size : Int)))), (9, vI ((i : Nat) : Int)), (8, vI ((x.replies.n : Nat) : Int)), (7, .v (.slice x.replies.A x.replies.n x.replies.c)), (1, .p 0 0)], [⟨83, [vI x.client, vI x.id, vI x.acked, vI x.last, .v (.slice x.replies.A x.replies.n x.replies.c)]⟩]⟩ [] [] (by kernel_rfl) on wn ?_
                    refine l_nil (q_then_normal ?_)
                    cases h10 : decide ((12 : Int) < ((x.replies.at i).reply.text.size : Int)) with
                    | true =>
                      have h10 := of_decide_eq_true h10
                      refine c_if true rfl ?_
                      refine c_seq ?_
                      refine c_region ?_
                      refine JL_run 1 [] [2] 0 ⟨[(2, vB false)], []⟩ [] [] (by kernel_rfl) on wn ?_
                      refine l_nil (q_then_normal ?_)
                      refine c_ret ?_
                      refine q_block_ret (q_then_ret (q_then_ret (q_block_ret (q_then_ret (q_ret (.inl rfl) [vB false] rfl (fun bs w hS => ?_))))))
                      refine ⟨?_, hS.kp⟩
                      have hm : mReplies x.abs = false := allTo_bad (j := i) (decide_eq_false (fun hk => by simp only [hat, hac] at hk; omega)) (show i < x.abs.replies.length by rw [hln]; omega)
                      rw [hm]
                      rfl
                    | false =>
                      have h10 := of_decide_eq_false h10
                      refine c_if false rfl ?_
                      refine c_skip ?_
                      refine q_block_normal (q_then_normal ?_)
                      refine c_region ?_
                      refine JL_run 2 [] [9, 8, 7, 1] 1 ⟨[(9, vI (((i : Nat) : Int) + 1)), (8, vI ((x.replies.n : Nat) : Int)), (7, .v (.slice x.replies.A x.replies.n x.replies.c)), (1, .p 0 0)], [⟨83, [vI x.client, vI x.id, vI x.acked, vI x.last, .v (.slice x.replies.A x.replies.n x.replies.c)]⟩]⟩ [inR (((i : Nat) : Int) + 1)] [] (by kernel_rfl) (oc (by unfold inR; omega) on) wn ?_
                      refine l_nil (q_loop (x := (i : Nat)) ((i + 1) : Nat) ⟨by omega, allTo_step hI (decide_eq_true (by simp only [hat, hac]; exact ⟨by omega, by omega, by omega, by omega, by omega, by omega, by omega, by omega⟩))⟩ (by omega) (s_start [9, 8, 7, 1] 1 (by kernel_rfl) rfl))
        | false =>
          have h4 := of_decide_eq_false h4
          refine h_quiet [] 12 [(42, vB false), (41, vB false), (40, .v (undef)), (39, .v (undef)), (38, .v (undef)), (37, .v (undef)), (36, .v (undef)), (35, .v (undef)), (34, .v (undef)), (33, .v (undef)), (32, .v (undef)), (31, .v (undef)), (30, vB false), (29, vB false), (28, vI ((i : Nat) : Int)), (27, vB false), (26, vB false), (25, vB false), (24, vI (x.acked + 4)), (23, vI x.acked), (22, .p 0 2), (21, vI (x.replies.at i).seq), (20, .p 1 0), (19, vB false), (18, vB false), (17, vI x.acked), (16, .p 0 2), (15, vI (x.replies.at i).seq), (14, .p 1 0), (3, vI ((i : Nat) : Int)), (4, .p 1 0), (9, vI ((i : Nat) : Int)), (8, vI ((x.replies.n : Nat) : Int)), (7, .v (.slice x.replies.A x.replies.n x.replies.c)), (1, .p 0 0)] [] [] rfl rfl (by kernel_rfl) on wn ?_
          refine h_nil ?_
          refine l_nil (q_then_normal ?_)
          refine c_if false rfl ?_
          refine c_skip ?_
          refine q_then_normal ?_
          refine c_seq ?_
          refine c_region ?_
          refine JL_run 4 [] [5, 9, 8, 7, 1] 3 ⟨[(5, .p 2 0), (9, vI ((i : Nat) : Int)), (8, vI ((x.replies.n : Nat) : Int)), (7, .v (.slice x.replies.A x.replies.n x.replies.c)), (1, .p 0 0)], [⟨83, [vI x.client, vI x.id, vI x.acked, vI x.last, .v (.slice x.replies.A x.replies.n x.replies.c)]⟩, ⟨100, [vI (x.replies.at i).seq, vI (x.replies.at i).reply.code, vI (x.replies.at i).reply.n, vS (x.replies.at i).reply.text]⟩, ⟨62, [vI (x.replies.at i).reply.code, vI (x.replies.at i).reply.n, vS (x.replies.at i).reply.text]⟩]⟩ [] [] (by kernel_rfl) on wn ?_
          refine l_nil (q_then_normal ?_)
          refine c_seq ?_
          refine c_region ?_
          refine JL_run 4 [] [48, 5, 9, 8, 7, 1] 3 ⟨[(48, vB (decide ((x.replies.at i).reply.code < 0))), (5, .p 2 0), (9, vI ((i : Nat) : Int)), (8, vI ((x.replies.n : Nat) : Int)), (7, .v (.slice x.replies.A x.replies.n x.replies.c)), (1, .p 0 0)], [⟨83, [vI x.client, vI x.id, vI x.acked, vI x.last, .v (.slice x.replies.A x.replies.n x.replies.c)]⟩, ⟨100, [vI (x.replies.at i).seq, vI (x.replies.at i).reply.code, vI (x.replies.at i).reply.n, vS (x.replies.at i).reply.text]⟩, ⟨62, [vI (x.replies.at i).reply.code, vI (x.replies.at i).reply.n, vS (x.replies.at i).reply.text]⟩]⟩ [] [] (by kernel_rfl) on wn ?_
          cases h11 : decide ((x.replies.at i).reply.code < 0) with
          | true =>
            have h11 := of_decide_eq_true h11
            refine JL_run 20 [] [68, 9, 8, 7, 1] 1 ⟨[(68, vB true), (9, vI ((i : Nat) : Int)), (8, vI ((x.replies.n : Nat) : Int)), (7, .v (.slice x.replies.A x.replies.n x.replies.c)), (1, .p 0 0)], [⟨83, [vI x.client, vI x.id, vI x.acked, vI x.last, .v (.slice x.replies.A x.replies.n x.replies.c)]⟩]⟩ [] [] (by kernel_rfl) on wn ?_
            refine l_nil (q_then_normal ?_)
            refine c_if true rfl ?_
            refine c_seq ?_
            refine c_region ?_
            refine JL_run 1 [] [2] 0 ⟨[(2, vB false)], []⟩ [] [] (by kernel_rfl) on wn ?_
            refine l_nil (q_then_normal ?_)
            refine c_ret ?_
            refine q_block_ret (q_then_ret (q_then_ret (q_block_ret (q_then_ret (q_ret (.inl rfl) [vB false] rfl (fun bs w hS => ?_))))))
            refine ⟨?_, hS.kp⟩
            have hm : mReplies x.abs = false := allTo_bad (j := i) (decide_eq_false (fun hk => by simp only [hat, hac] at hk; omega)) (show i < x.abs.replies.length by rw [hln]; omega)
            rw [hm]
            rfl
          | false =>
            have h11 := of_decide_eq_false h11
            refine JL_run 5 [] [53, 5, 9, 8, 7, 1] 3 ⟨[(53, vB (decide ((15 : Int) < (x.replies.at i).reply.code))), (5, .p 2 0), (9, vI ((i : Nat) : Int)), (8, vI ((x.replies.n : Nat) : Int)), (7, .v (.slice x.replies.A x.replies.n x.replies.c)), (1, .p 0 0)], [⟨83, [vI x.client, vI x.id, vI x.acked, vI x.last, .v (.slice x.replies.A x.replies.n x.replies.c)]⟩, ⟨100, [vI (x.replies.at i).seq, vI (x.replies.at i).reply.code, vI (x.replies.at i).reply.n, vS (x.replies.at i).reply.text]⟩, ⟨62, [vI (x.replies.at i).reply.code, vI (x.replies.at i).reply.n, vS (x.replies.at i).reply.text]⟩]⟩ [] [] (by kernel_rfl) on wn ?_
            cases h12 : decide ((15 : Int) < (x.replies.at i).reply.code) with
            | true =>
              have h12 := of_decide_eq_true h12
              refine JL_run 15 [] [68, 9, 8, 7, 1] 1 ⟨[(68, vB true), (9, vI ((i : Nat) : Int)), (8, vI ((x.replies.n : Nat) : Int)), (7, .v (.slice x.replies.A x.replies.n x.replies.c)), (1, .p 0 0)], [⟨83, [vI x.client, vI x.id, vI x.acked, vI x.last, .v (.slice x.replies.A x.replies.n x.replies.c)]⟩]⟩ [] [] (by kernel_rfl) on wn ?_
              refine l_nil (q_then_normal ?_)
              refine c_if true rfl ?_
              refine c_seq ?_
              refine c_region ?_
              refine JL_run 1 [] [2] 0 ⟨[(2, vB false)], []⟩ [] [] (by kernel_rfl) on wn ?_
              refine l_nil (q_then_normal ?_)
              refine c_ret ?_
              refine q_block_ret (q_then_ret (q_then_ret (q_block_ret (q_then_ret (q_ret (.inl rfl) [vB false] rfl (fun bs w hS => ?_))))))
              refine ⟨?_, hS.kp⟩
              have hm : mReplies x.abs = false := allTo_bad (j := i) (decide_eq_false (fun hk => by simp only [hat, hac] at hk; omega)) (show i < x.abs.replies.length by rw [hln]; omega)
              rw [hm]
              rfl
            | false =>
              have h12 := of_decide_eq_false h12
              refine JL_run 5 [] [58, 5, 9, 8, 7, 1] 3 ⟨[(58, vB (decide ((x.replies.at i).reply.n < 0))), (5, .p 2 0), (9, vI ((i : Nat) : Int)), (8, vI ((x.replies.n : Nat) : Int)), (7, .v (.slice x.replies.A x.replies.n x.replies.c)), (1, .p 0 0)], [⟨83, [vI x.client, vI x.id, vI x.acked, vI x.last, .v (.slice x.replies.A x.replies.n x.replies.c)]⟩, ⟨100, [vI (x.replies.at i).seq, vI (x.replies.at i).reply.code, vI (x.replies.at i).reply.n, vS (x.replies.at i).reply.text]⟩, ⟨62, [vI (x.replies.at i).reply.code, vI (x.replies.at i).reply.n, vS (x.replies.at i).reply.text]⟩]⟩ [] [] (by kernel_rfl) on wn ?_
              cases h13 : decide ((x.replies.at i).reply.n < 0) with
              | true =>
                have h13 := of_decide_eq_true h13
                refine JL_run 10 [] [68, 9, 8, 7, 1] 1 ⟨[(68, vB true), (9, vI ((i : Nat) : Int)), (8, vI ((x.replies.n : Nat) : Int)), (7, .v (.slice x.replies.A x.replies.n x.replies.c)), (1, .p 0 0)], [⟨83, [vI x.client, vI x.id, vI x.acked, vI x.last, .v (.slice x.replies.A x.replies.n x.replies.c)]⟩]⟩ [] [] (by kernel_rfl) on wn ?_
                refine l_nil (q_then_normal ?_)
                refine c_if true rfl ?_
                refine c_seq ?_
                refine c_region ?_
                refine JL_run 1 [] [2] 0 ⟨[(2, vB false)], []⟩ [] [] (by kernel_rfl) on wn ?_
                refine l_nil (q_then_normal ?_)
                refine c_ret ?_
                refine q_block_ret (q_then_ret (q_then_ret (q_block_ret (q_then_ret (q_ret (.inl rfl) [vB false] rfl (fun bs w hS => ?_))))))
                refine ⟨?_, hS.kp⟩
                have hm : mReplies x.abs = false := allTo_bad (j := i) (decide_eq_false (fun hk => by simp only [hat, hac] at hk; omega)) (show i < x.abs.replies.length by rw [hln]; omega)
                rw [hm]
                rfl
              | false =>
                have h13 := of_decide_eq_false h13
                refine JL_run 5 [] [63, 5, 9, 8, 7, 1] 3 ⟨[(63, vB (decide ((1073741824 : Int) < (x.replies.at i).reply.n))), (5, .p 2 0), (9, vI ((i : Nat) : Int)), (8, vI ((x.replies.n : Nat) : Int)), (7, .v (.slice x.replies.A x.replies.n x.replies.c)), (1, .p 0 0)], [⟨83, [vI x.client, vI x.id, vI x.acked, vI x.last, .v (.slice x.replies.A x.replies.n x.replies.c)]⟩, ⟨100, [vI (x.replies.at i).seq, vI (x.replies.at i).reply.code, vI (x.replies.at i).reply.n, vS (x.replies.at i).reply.text]⟩, ⟨62, [vI (x.replies.at i).reply.code, vI (x.replies.at i).reply.n, vS (x.replies.at i).reply.text]⟩]⟩ [] [] (by kernel_rfl) on wn ?_
                cases h14 : decide ((1073741824 : Int) < (x.replies.at i).reply.n) with
                | true =>
                  have h14 := of_decide_eq_true h14
                  refine JL_run 5 [] [68, 9, 8, 7, 1] 1 ⟨[(68, vB true), (9, vI ((i : Nat) : Int)), (8, vI ((x.replies.n : Nat) : Int)), (7, .v (.slice x.replies.A x.replies.n x.replies.c)), (1, .p 0 0)], [⟨83, [vI x.client, vI x.id, vI x.acked, vI x.last, .v (.slice x.replies.A x.replies.n x.replies.c)]⟩]⟩ [] [] (by kernel_rfl) on wn ?_
                  refine l_nil (q_then_normal ?_)
                  refine c_if true rfl ?_
                  refine c_seq ?_
                  refine c_region ?_
                  refine JL_run 1 [] [2] 0 ⟨[(2, vB false)], []⟩ [] [] (by kernel_rfl) on wn ?_
                  refine l_nil (q_then_normal ?_)
                  refine c_ret ?_
                  refine q_block_ret (q_then_ret (q_then_ret (q_block_ret (q_then_ret (q_ret (.inl rfl) [vB false] rfl (fun bs w hS => ?_))))))
                  refine ⟨?_, hS.kp⟩
                  have hm : mReplies x.abs = false := allTo_bad (j := i) (decide_eq_false (fun hk => by simp only [hat, hac] at hk; omega)) (show i < x.abs.replies.length by rw [hln]; omega)
                  rw [hm]
                  rfl
                | false =>
                  have h14 := of_decide_eq_false h14
                  refine JL_run 5 [] [68, 9, 8, 7, 1] 1 ⟨[(68, vB (decide ((12 : Int) < ((x.replies.at i).reply.text.size : Int)))), (9, vI ((i : Nat) : Int)), (8, vI ((x.replies.n : Nat) : Int)), (7, .v (.slice x.replies.A x.replies.n x.replies.c)), (1, .p 0 0)], [⟨83, [vI x.client, vI x.id, vI x.acked, vI x.last, .v (.slice x.replies.A x.replies.n x.replies.c)]⟩]⟩ [] [] (by kernel_rfl) on wn ?_
                  refine l_nil (q_then_normal ?_)
                  cases h15 : decide ((12 : Int) < ((x.replies.at i).reply.text.size : Int)) with
                  | true =>
                    have h15 := of_decide_eq_true h15
                    refine c_if true rfl ?_
                    refine c_seq ?_
                    refine c_region ?_
                    refine JL_run 1 [] [2] 0 ⟨[(2, vB false)], []⟩ [] [] (by kernel_rfl) on wn ?_
                    refine l_nil (q_then_normal ?_)
                    refine c_ret ?_
                    refine q_block_ret (q_then_ret (q_then_ret (q_block_ret (q_then_ret (q_ret (.inl rfl) [vB false] rfl (fun bs w hS => ?_))))))
                    refine ⟨?_, hS.kp⟩
                    have hm : mReplies x.abs = false := allTo_bad (j := i) (decide_eq_false (fun hk => by simp only [hat, hac] at hk; omega)) (show i < x.abs.replies.length by rw [hln]; omega)
                    rw [hm]
                    rfl
                  | false =>
                    have h15 := of_decide_eq_false h15
                    refine c_if false rfl ?_
                    refine c_skip ?_
                    refine q_block_normal (q_then_normal ?_)
                    refine c_region ?_
                    refine JL_run 2 [] [9, 8, 7, 1] 1 ⟨[(9, vI (((i : Nat) : Int) + 1)), (8, vI ((x.replies.n : Nat) : Int)), (7, .v (.slice x.replies.A x.replies.n x.replies.c)), (1, .p 0 0)], [⟨83, [vI x.client, vI x.id, vI x.acked, vI x.last, .v (.slice x.replies.A x.replies.n x.replies.c)]⟩]⟩ [inR (((i : Nat) : Int) + 1)] [] (by kernel_rfl) (oc (by unfold inR; omega) on) wn ?_
                    refine l_nil (q_loop (x := (i : Nat)) ((i + 1) : Nat) ⟨by omega, allTo_step hI (decide_eq_true (by simp only [hat, hac]; exact ⟨by omega, by omega, by omega, by omega, by omega, by omega, by omega, by omega⟩))⟩ (by omega) (s_start [9, 8, 7, 1] 1 (by kernel_rfl) rfl))
  | false =>
    have h1 := of_decide_eq_false h1
    refine c_if false rfl ?_
    refine c_exit ?_
    refine q_then_exit (q_then_exit (q_block_hit (q_then_normal ?_)))
    refine c_seq ?_
    refine c_region ?_
    refine JL_run 1 [] [2] 0 ⟨[(2, vB true)], []⟩ [] [] (by kernel_rfl) on wn ?_
    refine l_nil (q_then_normal ?_)
    refine c_ret ?_
    refine q_ret (.inl rfl) [vB true] rfl (fun bs w hS => ?_)
    refine ⟨?_, hS.kp⟩
    have hm : mReplies x.abs = true := by show allTo _ x.abs.replies.length = true; rw [hln, show x.replies.n = i by omega]; exact hI
    rw [hm]
    rfl

theorem ref_repliesMay {B : Nat → Prop} (x : CSession) (w : World) (hx : Rds.sub B w x) (hb : 0 ≤ x.acked ∧ x.acked ≤ 1048576) : Calls Try.prog 52 #[.agg #[.int .i64 x.client, .int .i64 x.id, .int .i64 x.acked, .int .i64 x.last, .slice x.replies.A x.replies.n x.replies.c]] w fun e w' => e = .returned (.bool (mReplies x.abs)) ∧ Kp [] w w' := by
  have okx := Rds.okof hx
  have ncx := Sl.ok.nc okx
  have hns : x.replies.n = x.replies.xs.length := rfl
  have hat : ∀ q, x.abs.replies.getD q default = x.replies.at q := fun _ => rfl
  have hac : x.abs.acked = x.acked := rfl
  have hln : x.abs.replies.length = x.replies.n := rfl
  refine calls_J0 52 Try.func52 rfl rfl [.agg #[.int .i64 x.client, .int .i64 x.id, .int .i64 x.acked, .int .i64 x.last, .slice x.replies.A x.replies.n x.replies.c]] rfl ?_
  refine c_seq ?_
  refine c_region ?_
  refine JL_run 2 [] [1] 1 ⟨[(1, .p 0 0)], [⟨83, [vI x.client, vI x.id, vI x.acked, vI x.last, .v (.slice x.replies.A x.replies.n x.replies.c)]⟩]⟩ [] [] (by kernel_rfl) on wn ?_
  refine l_nil (q_then_normal ?_)
  refine c_seq ?_
  refine c_region ?_
  refine JL_run 3 [] [3, 1] 1 ⟨[(3, vI x.acked), (1, .p 0 0)], [⟨83, [vI x.client, vI x.id, vI x.acked, vI x.last, .v (.slice x.replies.A x.replies.n x.replies.c)]⟩]⟩ [] [] (by kernel_rfl) on wn ?_
  refine l_nil (q_then_normal ?_)
  refine c_seq ?_
  refine c_seq ?_
  refine c_region ?_
  refine JL_run 1 [] [4, 3, 1] 1 ⟨[(4, vI 0), (3, vI x.acked), (1, .p 0 0)], [⟨83, [vI x.client, vI x.id, vI x.acked, vI x.last, .v (.slice x.replies.A x.replies.n x.replies.c)]⟩]⟩ [] [] (by kernel_rfl) on wn ?_
  refine l_nil (q_then_normal ?_)
  refine c_block ?_
  refine c_loop (σ := Nat × Int) (fun ⟨i, la⟩ => i ≤ x.replies.n ∧ allTo (keptOk x.abs) i = true ∧ x.acked ≤ la ∧ la ≤ x.acked + 4 ∧ (i = 0 → la = x.acked) ∧ (0 < i → la = (x.replies.at (i - 1)).seq)) (fun ⟨i, la⟩ => x.replies.n - i) (fun ⟨i, la⟩ => []) (fun ⟨i, la⟩ => ⟨[(4, vI ((i : Nat) : Int)), (3, vI la), (1, .p 0 0)], [⟨83, [vI x.client, vI x.id, vI x.acked, vI x.last, .v (.slice x.replies.A x.replies.n x.replies.c)]⟩]⟩) ⟨0, x.acked⟩ ⟨Nat.zero_le _, rfl, by omega, by omega, fun _ => rfl, fun h => absurd h (by omega)⟩ (s_start [4, 3, 1] 1 (by kernel_rfl) rfl) ?_
  rintro ⟨i, la⟩ ⟨hi, hI, hl1, hl2, hl3, hl4⟩
  have hz : i = 0 ∧ la = x.acked ∨ 0 < i ∧ la = (x.replies.at (i - 1)).seq := by rcases Nat.eq_zero_or_pos i with h | h; exact .inl ⟨h, hl3 h⟩; exact .inr ⟨h, hl4 h⟩
  refine c_seq ?_
  refine c_seq ?_
  refine c_region ?_
  refine JL_run 5 [] [12, 4, 3, 1] 1 ⟨[(12, vB (decide (((i : Nat) : Int) < ((x.replies.n : Nat) : Int)))), (4, vI ((i : Nat) : Int)), (3, vI la), (1, .p 0 0)], [⟨83, [vI x.client, vI x.id, vI x.acked, vI x.last, .v (.slice x.replies.A x.replies.n x.replies.c)]⟩]⟩ [] [] (by kernel_rfl) on wn ?_
  refine l_nil (q_then_normal ?_)
  cases h1 : decide (((i : Nat) : Int) < ((x.replies.n : Nat) : Int)) with
  | true =>
    have h1 := of_decide_eq_true h1
    refine c_if true rfl ?_
    refine c_skip ?_
    refine q_then_normal ?_
    refine c_seq ?_
    refine c_block ?_
    refine c_seq ?_
    refine c_region ?_
    refine JL_run 7 [(3, .idx x.replies.ad i), (4, .ext [.int .i64 (x.replies.at i).seq, .int .i64 (x.replies.at i).reply.code, .int .i64 (x.replies.at i).reply.n, .string (x.replies.at i).reply.text])] [5, 4, 3, 1] 2 ⟨[(5, .p 1 0), (4, vI ((i : Nat) : Int)), (3, vI la), (1, .p 0 0)], [⟨83, [vI x.client, vI x.id, vI x.acked, vI x.last, .v (.slice x.replies.A x.replies.n x.replies.c)]⟩, ⟨100, [vI (x.replies.at i).seq, vI (x.replies.at i).reply.code, vI (x.replies.at i).reply.n, vS (x.replies.at i).reply.text]⟩]⟩ [x.replies.A = some x.replies.ad, ((i : Nat) : Int) = ((i : Nat) : Int), i < x.replies.n] [(x.replies.ad.add (i * 4), [.int .i64 (x.replies.at i).seq, .int .i64 (x.replies.at i).reply.code, .int .i64 (x.replies.at i).reply.n, .string (x.replies.at i).reply.text])] (by kernel_rfl) (oc (Sl.ok.own (s := x.replies) (i := i) okx (by omega)) (oc rfl (oc (by omega) on))) (fun w hk hr => ⟨(Sl.rd.all (s := x.replies) (i := i) (Rds.kp hx hk) (by omega) rfl), trivial⟩) ?_
    refine l_nil (q_then_normal ?_)
    refine c_seq ?_
    refine c_seq ?_
    refine c_region ?_
    refine JL_run 7 [] [26, 23, 21, 5, 4, 1] 2 ⟨[(26, vI (x.acked + 4)), (23, vI (la + 1)), (21, vI (x.replies.at i).seq), (5, .p 1 0), (4, vI ((i : Nat) : Int)), (1, .p 0 0)], [⟨83, [vI x.client, vI x.id, vI x.acked, vI x.last, .v (.slice x.replies.A x.replies.n x.replies.c)]⟩, ⟨100, [vI (x.replies.at i).seq, vI (x.replies.at i).reply.code, vI (x.replies.at i).reply.n, vS (x.replies.at i).reply.text]⟩]⟩ [inR (la + 1), inR (x.acked + 4)] [] (by kernel_rfl) (oc (by unfold inR; omega) (oc (by unfold inR; omega) on)) wn ?_
    refine l_pure 47 [] [vI (x.replies.at i).seq, vI (la + 1), vI (x.acked + 4)] (.bool (inB (x.replies.at i).seq (la + 1) (x.acked + 4))) Try.call47 rfl rfl rfl rfl (fun bs w hS => ref_In _ _ _ w) ?_
    refine JL_run 2 [] [29, 5, 4, 1] 2 ⟨[(29, vB (!(inB (x.replies.at i).seq (la + 1) (x.acked + 4)))), (5, .p 1 0), (4, vI ((i : Nat) : Int)), (1, .p 0 0)], [⟨83, [vI x.client, vI x.id, vI x.acked, vI x.last, .v (.slice x.replies.A x.replies.n x.replies.c)]⟩, ⟨100, [vI (x.replies.at i).seq, vI (x.replies.at i).reply.code, vI (x.replies.at i).reply.n, vS (x.replies.at i).reply.text]⟩]⟩ [] [] (by kernel_rfl) on wn ?_
    cases h2 : inB (x.replies.at i).seq (la + 1) (x.acked + 4) with
    | true =>
      simp only [inB, Bool.and_eq_true, Bool.and_eq_false_iff, decide_eq_true_eq, decide_eq_false_iff_not] at h2
      refine JL_run 3 [] [32, 29, 5, 4, 1] 2 ⟨[(32, vI (x.replies.at i).reply.code), (29, vB false), (5, .p 1 0), (4, vI ((i : Nat) : Int)), (1, .p 0 0)], [⟨83, [vI x.client, vI x.id, vI x.acked, vI x.last, .v (.slice x.replies.A x.replies.n x.replies.c)]⟩, ⟨100, [vI (x.replies.at i).seq, vI (x.replies.at i).reply.code, vI (x.replies.at i).reply.n, vS (x.replies.at i).reply.text]⟩]⟩ [] [] (by kernel_rfl) on wn ?_
      refine l_pure 47 [] [vI (x.replies.at i).reply.code, vI 0, vI 15] (.bool (inB (x.replies.at i).reply.code 0 15)) Try.call47 rfl rfl rfl rfl (fun bs w hS => ref_In _ _ _ w) ?_
      refine JL_run 3 [] [36, 5, 4, 1] 2 ⟨[(36, vB (!(inB (x.replies.at i).reply.code 0 15))), (5, .p 1 0), (4, vI ((i : Nat) : Int)), (1, .p 0 0)], [⟨83, [vI x.client, vI x.id, vI x.acked, vI x.last, .v (.slice x.replies.A x.replies.n x.replies.c)]⟩, ⟨100, [vI (x.replies.at i).seq, vI (x.replies.at i).reply.code, vI (x.replies.at i).reply.n, vS (x.replies.at i).reply.text]⟩]⟩ [] [] (by kernel_rfl) on wn ?_
      cases h3 : inB (x.replies.at i).reply.code 0 15 with
      | true =>
        simp only [inB, Bool.and_eq_true, Bool.and_eq_false_iff, decide_eq_true_eq, decide_eq_false_iff_not] at h3
        refine JL_run 3 [] [39, 36, 5, 4, 1] 2 ⟨[(39, vI (x.replies.at i).reply.n), (36, vB false), (5, .p 1 0), (4, vI ((i : Nat) : Int)), (1, .p 0 0)], [⟨83, [vI x.client, vI x.id, vI x.acked, vI x.last, .v (.slice x.replies.A x.replies.n x.replies.c)]⟩, ⟨100, [vI (x.replies.at i).seq, vI (x.replies.at i).reply.code, vI (x.replies.at i).reply.n, vS (x.replies.at i).reply.text]⟩]⟩ [] [] (by kernel_rfl) on wn ?_
        refine l_pure 47 [] [vI (x.replies.at i).reply.n, vI 0, vI 1073741824] (.bool (inB (x.replies.at i).reply.n 0 1073741824)) Try.call47 rfl rfl rfl rfl (fun bs w hS => ref_In _ _ _ w) ?_
        refine JL_run 3 [] [43, 5, 4, 1] 2 ⟨[(43, vB (!(inB (x.replies.at i).reply.n 0 1073741824))), (5, .p 1 0), (4, vI ((i : Nat) : Int)), (1, .p 0 0)], [⟨83, [vI x.client, vI x.id, vI x.acked, vI x.last, .v (.slice x.replies.A x.replies.n x.replies.c)]⟩, ⟨100, [vI (x.replies.at i).seq, vI (x.replies.at i).reply.code, vI (x.replies.at i).reply.n, vS (x.replies.at i).reply.text]⟩]⟩ [] [] (by kernel_rfl) on wn ?_
        cases h4 : inB (x.replies.at i).reply.n 0 1073741824 with
        | true =>
          simp only [inB, Bool.and_eq_true, Bool.and_eq_false_iff, decide_eq_true_eq, decide_eq_false_iff_not] at h4
          refine JL_run 6 [] [49, 5, 4, 1] 2 ⟨[(49, vB (decide ((12 : Int) < ((x.replies.at i).reply.text.size : Int)))), (5, .p 1 0), (4, vI ((i : Nat) : Int)), (1, .p 0 0)], [⟨83, [vI x.client, vI x.id, vI x.acked, vI x.last, .v (.slice x.replies.A x.replies.n x.replies.c)]⟩, ⟨100, [vI (x.replies.at i).seq, vI (x.replies.at i).reply.code, vI (x.replies.at i).reply.n, vS (x.replies.at i).reply.text]⟩]⟩ [] [] (by kernel_rfl) on wn ?_
          refine l_nil (q_then_normal ?_)
          cases h5 : decide ((12 : Int) < ((x.replies.at i).reply.text.size : Int)) with
          | true =>
            have h5 := of_decide_eq_true h5
            refine c_if true rfl ?_
            refine c_seq ?_
            refine c_region ?_
            refine JL_run 1 [] [2] 0 ⟨[(2, vB false)], []⟩ [] [] (by kernel_rfl) on wn ?_
            refine l_nil (q_then_normal ?_)
            refine c_ret ?_
            refine q_then_ret (q_block_ret (q_then_ret (q_then_ret (q_block_ret (q_then_ret (q_ret (.inl rfl) [vB false] rfl (fun bs w hS => ?_)))))))
            refine ⟨?_, hS.kp⟩
            have hm : mReplies x.abs = false := allTo_bad (j := i) (decide_eq_false (fun hk => by simp only [hat, hac] at hk; omega)) (show i < x.abs.replies.length by rw [hln]; omega)
            rw [hm]
            rfl
          | false =>
            have h5 := of_decide_eq_false h5
            refine c_if false rfl ?_
            refine c_skip ?_
            refine q_then_normal ?_
            refine c_region ?_
            refine JL_run 3 [] [3, 4, 1] 1 ⟨[(3, vI (x.replies.at i).seq), (4, vI ((i : Nat) : Int)), (1, .p 0 0)], [⟨83, [vI x.client, vI x.id, vI x.acked, vI x.last, .v (.slice x.replies.A x.replies.n x.replies.c)]⟩]⟩ [] [] (by kernel_rfl) on wn ?_
            refine l_nil (q_block_normal (q_then_normal ?_))
            refine c_region ?_
            refine JL_run 3 [] [4, 3, 1] 1 ⟨[(4, vI (((i : Nat) : Int) + 1)), (3, vI (x.replies.at i).seq), (1, .p 0 0)], [⟨83, [vI x.client, vI x.id, vI x.acked, vI x.last, .v (.slice x.replies.A x.replies.n x.replies.c)]⟩]⟩ [inR (((i : Nat) : Int) + 1)] [] (by kernel_rfl) (oc (by unfold inR; omega) on) wn ?_
            refine l_nil (q_loop (x := (⟨i, la⟩ : Nat × Int)) (⟨i + 1, (x.replies.at i).seq⟩ : Nat × Int) ⟨by omega, allTo_step hI (decide_eq_true (by simp only [hat, hac]; exact ⟨by omega, by omega, by omega, by omega, by omega, by omega, by omega, by omega⟩)), by omega, by omega, fun h => absurd h (by omega), fun _ => rfl⟩ (by show x.replies.n - (i + 1) < x.replies.n - i; omega) (s_start [4, 3, 1] 1 (by kernel_rfl) rfl))
        | false =>
          simp only [inB, Bool.and_eq_true, Bool.and_eq_false_iff, decide_eq_true_eq, decide_eq_false_iff_not] at h4
          refine JL_run 6 [] [49, 5, 4, 1] 2 ⟨[(49, vB true), (5, .p 1 0), (4, vI ((i : Nat) : Int)), (1, .p 0 0)], [⟨83, [vI x.client, vI x.id, vI x.acked, vI x.last, .v (.slice x.replies.A x.replies.n x.replies.c)]⟩, ⟨100, [vI (x.replies.at i).seq, vI (x.replies.at i).reply.code, vI (x.replies.at i).reply.n, vS (x.replies.at i).reply.text]⟩]⟩ [] [] (by kernel_rfl) on wn ?_
          refine l_nil (q_then_normal ?_)
          refine c_if true rfl ?_
          refine c_seq ?_
          refine c_region ?_
          refine JL_run 1 [] [2] 0 ⟨[(2, vB false)], []⟩ [] [] (by kernel_rfl) on wn ?_
          refine l_nil (q_then_normal ?_)
          refine c_ret ?_
          refine q_then_ret (q_block_ret (q_then_ret (q_then_ret (q_block_ret (q_then_ret (q_ret (.inl rfl) [vB false] rfl (fun bs w hS => ?_)))))))
          refine ⟨?_, hS.kp⟩
          have hm : mReplies x.abs = false := allTo_bad (j := i) (decide_eq_false (fun hk => by simp only [hat, hac] at hk; omega)) (show i < x.abs.replies.length by rw [hln]; omega)
          rw [hm]
          rfl
      | false =>
        simp only [inB, Bool.and_eq_true, Bool.and_eq_false_iff, decide_eq_true_eq, decide_eq_false_iff_not] at h3
        refine JL_run 13 [] [49, 5, 4, 1] 2 ⟨[(49, vB true), (5, .p 1 0), (4, vI ((i : Nat) : Int)), (1, .p 0 0)], [⟨83, [vI x.client, vI x.id, vI x.acked, vI x.last, .v (.slice x.replies.A x.replies.n x.replies.c)]⟩, ⟨100, [vI (x.replies.at i).seq, vI (x.replies.at i).reply.code, vI (x.replies.at i).reply.n, vS (x.replies.at i).reply.text]⟩]⟩ [] [] (by kernel_rfl) on wn ?_
        refine l_nil (q_then_normal ?_)
        refine c_if true rfl ?_
        refine c_seq ?_
        refine c_region ?_
        refine JL_run 1 [] [2] 0 ⟨[(2, vB false)], []⟩ [] [] (by kernel_rfl) on wn ?_
        refine l_nil (q_then_normal ?_)
        refine c_ret ?_
        refine q_then_ret (q_block_ret (q_then_ret (q_then_ret (q_block_ret (q_then_ret (q_ret (.inl rfl) [vB false] rfl (fun bs w hS => ?_)))))))
        refine ⟨?_, hS.kp⟩
        have hm : mReplies x.abs = false := allTo_bad (j := i) (decide_eq_false (fun hk => by simp only [hat, hac] at hk; omega)) (show i < x.abs.replies.length by rw [hln]; omega)
        rw [hm]
        rfl
    | false =>
      simp only [inB, Bool.and_eq_true, Bool.and_eq_false_iff, decide_eq_true_eq, decide_eq_false_iff_not] at h2
      refine JL_run 20 [] [49, 5, 4, 1] 2 ⟨[(49, vB true), (5, .p 1 0), (4, vI ((i : Nat) : Int)), (1, .p 0 0)], [⟨83, [vI x.client, vI x.id, vI x.acked, vI x.last, .v (.slice x.replies.A x.replies.n x.replies.c)]⟩, ⟨100, [vI (x.replies.at i).seq, vI (x.replies.at i).reply.code, vI (x.replies.at i).reply.n, vS (x.replies.at i).reply.text]⟩]⟩ [] [] (by kernel_rfl) on wn ?_
      refine l_nil (q_then_normal ?_)
      refine c_if true rfl ?_
      refine c_seq ?_
      refine c_region ?_
      refine JL_run 1 [] [2] 0 ⟨[(2, vB false)], []⟩ [] [] (by kernel_rfl) on wn ?_
      refine l_nil (q_then_normal ?_)
      refine c_ret ?_
      refine q_then_ret (q_block_ret (q_then_ret (q_then_ret (q_block_ret (q_then_ret (q_ret (.inl rfl) [vB false] rfl (fun bs w hS => ?_)))))))
      refine ⟨?_, hS.kp⟩
      have hm : mReplies x.abs = false := allTo_bad (j := i) (decide_eq_false (fun hk => by simp only [hat, hac] at hk; omega)) (show i < x.abs.replies.length by rw [hln]; omega)
      rw [hm]
      rfl
  | false =>
    have h1 := of_decide_eq_false h1
    refine c_if false rfl ?_
    refine c_exit ?_
    refine q_then_exit (q_then_exit (q_block_hit (q_then_normal ?_)))
    refine c_seq ?_
    refine c_region ?_
    refine JL_run 1 [] [2] 0 ⟨[(2, vB true)], []⟩ [] [] (by kernel_rfl) on wn ?_
    refine l_nil (q_then_normal ?_)
    refine c_ret ?_
    refine q_ret (.inl rfl) [vB true] rfl (fun bs w hS => ?_)
    refine ⟨?_, hS.kp⟩
    have hm : mReplies x.abs = true := by show allTo _ x.abs.replies.length = true; rw [hln, show x.replies.n = i by omega]; exact hI
    rw [hm]
    rfl

theorem session_Check {B : Nat → Prop} (s : Sl CSession) (n : Int) (w : World) (hs : s.rd B w) : Calls Try.prog 21 #[.slice s.A s.n s.c, .int .i64 n] w fun e w' => e = .returned (.int .i64 (mSess (s.xs.map CSession.abs) n)) ∧ Kp [] w w' := by
  have oks := Sl.rd.ok hs
  have ncs := Sl.ok.nc oks
  have hns : s.n = s.xs.length := rfl
  have hat : ∀ q, (s.xs.map CSession.abs).getD q default = (s.at q).abs := fun q => sabs_at q
  have hq0 : ∀ q, (s.at q).abs.client = (s.at q).client := fun _ => rfl
  have hq1 : ∀ q, (s.at q).abs.id = (s.at q).id := fun _ => rfl
  have hq2 : ∀ q, (s.at q).abs.acked = (s.at q).acked := fun _ => rfl
  have hq3 : ∀ q, (s.at q).abs.last = (s.at q).last := fun _ => rfl
  have hml : (s.xs.map CSession.abs).length = s.n := by simp
  refine calls_J0 76 Try.func21 rfl rfl [.slice s.A s.n s.c, .int .i64 n] rfl ?_
  refine c_seq ?_
  refine c_region ?_
  refine JL_run 1 [] [0, 1] 0 ⟨[(0, .v (.slice s.A s.n s.c)), (1, vI n)], []⟩ [] [] (by kernel_rfl) on wn ?_
  refine l_nil (q_then_normal ?_)
  refine c_seq ?_
  refine c_seq ?_
  refine c_region ?_
  refine JL_run 3 [] [9, 0, 1] 0 ⟨[(9, vB (decide (n < 0))), (0, .v (.slice s.A s.n s.c)), (1, vI n)], []⟩ [] [] (by kernel_rfl) on wn ?_
  cases h1 : decide (n < 0) with
  | true =>
    have h1 := of_decide_eq_true h1
    refine JL_run 3 [] [12, 0, 1] 0 ⟨[(12, vB true), (0, .v (.slice s.A s.n s.c)), (1, vI n)], []⟩ [] [] (by kernel_rfl) on wn ?_
    refine l_nil (q_then_normal ?_)
    refine c_if true rfl ?_
    refine c_seq ?_
    refine c_region ?_
    refine JL_run 1 [] [4] 0 ⟨[(4, vI 2)], []⟩ [] [] (by kernel_rfl) on wn ?_
    refine l_nil (q_then_normal ?_)
    refine c_ret ?_
    refine q_then_ret (q_ret (.inl rfl) [vI 2] rfl (fun bs w hS => ?_))
    refine ⟨?_, hS.kp⟩
    simp only [retOf, den, List.map_cons, List.map_nil]
    have hm : mSess (s.xs.map CSession.abs) n = 2 := by
      unfold mSess; rw [hml]
      first | rw [if_pos (by omega)] | rw [if_neg (by omega), if_pos (by omega)]
    rw [hm]
  | false =>
    have h1 := of_decide_eq_false h1
    refine JL_run 3 [] [12, 0, 1] 0 ⟨[(12, vB (decide ((1073741824 : Int) < n))), (0, .v (.slice s.A s.n s.c)), (1, vI n)], []⟩ [] [] (by kernel_rfl) on wn ?_
    refine l_nil (q_then_normal ?_)
    cases h2 : decide ((1073741824 : Int) < n) with
    | true =>
      have h2 := of_decide_eq_true h2
      refine c_if true rfl ?_
      refine c_seq ?_
      refine c_region ?_
      refine JL_run 1 [] [4] 0 ⟨[(4, vI 2)], []⟩ [] [] (by kernel_rfl) on wn ?_
      refine l_nil (q_then_normal ?_)
      refine c_ret ?_
      refine q_then_ret (q_ret (.inl rfl) [vI 2] rfl (fun bs w hS => ?_))
      refine ⟨?_, hS.kp⟩
      simp only [retOf, den, List.map_cons, List.map_nil]
      have hm : mSess (s.xs.map CSession.abs) n = 2 := by
        unfold mSess; rw [hml]
        first | rw [if_pos (by omega)] | rw [if_neg (by omega), if_pos (by omega)]
      rw [hm]
    | false =>
      have h2 := of_decide_eq_false h2
      refine c_if false rfl ?_
      refine c_skip ?_
      refine q_then_normal ?_
      refine c_seq ?_
      refine c_seq ?_
      refine c_region ?_
      refine JL_run 3 [] [15, 0, 1] 0 ⟨[(15, vB (decide ((4 : Int) < ((s.n : Nat) : Int)))), (0, .v (.slice s.A s.n s.c)), (1, vI n)], []⟩ [] [] (by kernel_rfl) on wn ?_
      refine l_nil (q_then_normal ?_)
      cases h3 : decide ((4 : Int) < ((s.n : Nat) : Int)) with
      | true =>
        have h3 := of_decide_eq_true h3
        refine c_if true rfl ?_
        refine c_seq ?_
        refine c_region ?_
        refine JL_run 1 [] [4] 0 ⟨[(4, vI 1)], []⟩ [] [] (by kernel_rfl) on wn ?_
        refine l_nil (q_then_normal ?_)
        refine c_ret ?_
        refine q_then_ret (q_ret (.inl rfl) [vI 1] rfl (fun bs w hS => ?_))
        refine ⟨?_, hS.kp⟩
        simp only [retOf, den, List.map_cons, List.map_nil]
        have hm : mSess (s.xs.map CSession.abs) n = 1 := by
          unfold mSess; rw [hml]
          first | rw [if_pos (by omega)] | rw [if_neg (by omega), if_pos (by omega)]
        rw [hm]
      | false =>
        have h3 := of_decide_eq_false h3
        refine c_if false rfl ?_
        refine c_skip ?_
        refine q_then_normal ?_
        refine c_seq ?_
        refine c_seq ?_
        refine c_region ?_
        refine JL_run 3 [] [18, 17, 16, 0, 1] 0 ⟨[(18, vI 0), (17, vI ((s.n : Nat) : Int)), (16, .v (.slice s.A s.n s.c)), (0, .v (.slice s.A s.n s.c)), (1, vI n)], []⟩ [] [] (by kernel_rfl) on wn ?_
        refine l_nil (q_then_normal ?_)
        refine c_block ?_
        refine c_loop (σ := Nat) (fun i => i ≤ s.n ∧ mSess (s.xs.map CSession.abs) n = firstF (sessF (s.xs.map CSession.abs) n) (s.n - i) i) (fun i => s.n - i) (fun i => []) (fun i => ⟨[(18, vI ((i : Nat) : Int)), (17, vI ((s.n : Nat) : Int)), (16, .v (.slice s.A s.n s.c)), (0, .v (.slice s.A s.n s.c)), (1, vI n)], []⟩) 0 ⟨Nat.zero_le _, by unfold mSess; rw [hml, if_neg (by omega), if_neg (by omega)]⟩ (s_start [18, 17, 16, 0, 1] 0 (by kernel_rfl) rfl) ?_
        rintro i ⟨hi, hI⟩
        refine c_seq ?_
        refine c_region ?_
        refine JL_run 1 [] [19, 18, 17, 16, 0, 1] 0 ⟨[(19, vB (decide (((i : Nat) : Int) < ((s.n : Nat) : Int)))), (18, vI ((i : Nat) : Int)), (17, vI ((s.n : Nat) : Int)), (16, .v (.slice s.A s.n s.c)), (0, .v (.slice s.A s.n s.c)), (1, vI n)], []⟩ [] [] (by kernel_rfl) on wn ?_
        refine l_nil (q_then_normal ?_)
        refine c_seq ?_
        cases h4 : decide (((i : Nat) : Int) < ((s.n : Nat) : Int)) with
        | true =>
          have h4 := of_decide_eq_true h4
          refine c_if true rfl ?_
          refine c_skip ?_
          refine q_then_normal ?_
          refine c_seq ?_
          refine c_block ?_
          refine c_seq ?_
          refine c_region ?_
          refine JL_run 6 [(1, .idx s.ad i), (2, .ext [.int .i64 (s.at i).client, .int .i64 (s.at i).id, .int .i64 (s.at i).acked, .int .i64 (s.at i).last, .slice (s.at i).replies.A (s.at i).replies.n (s.at i).replies.c])] [5, 6, 18, 17, 16, 0, 1] 1 ⟨[(5, vI ((i : Nat) : Int)), (6, .p 0 0), (18, vI ((i : Nat) : Int)), (17, vI ((s.n : Nat) : Int)), (16, .v (.slice s.A s.n s.c)), (0, .v (.slice s.A s.n s.c)), (1, vI n)], [⟨83, [vI (s.at i).client, vI (s.at i).id, vI (s.at i).acked, vI (s.at i).last, .v (.slice (s.at i).replies.A (s.at i).replies.n (s.at i).replies.c)]⟩]⟩ [s.A = some s.ad, ((i : Nat) : Int) = ((i : Nat) : Int), i < s.n] [(s.ad.add (i * 5), [.int .i64 (s.at i).client, .int .i64 (s.at i).id, .int .i64 (s.at i).acked, .int .i64 (s.at i).last, .slice (s.at i).replies.A (s.at i).replies.n (s.at i).replies.c])] (by kernel_rfl) (oc (Sl.ok.own (s := s) (i := i) oks (by omega)) (oc rfl (oc (by omega) on))) (fun w hk hr => ⟨(Sl.rd.all (s := s) (i := i) (Sl.rd.kp hs hk) (by omega) rfl), trivial⟩) ?_
          refine l_nil (q_then_normal ?_)
          refine c_seq ?_
          refine c_seq ?_
          refine c_region ?_
          refine JL_run 4 [] [26, 5, 6, 18, 17, 16, 0, 1] 1 ⟨[(26, vB (decide ((s.at i).client < 1))), (5, vI ((i : Nat) : Int)), (6, .p 0 0), (18, vI ((i : Nat) : Int)), (17, vI ((s.n : Nat) : Int)), (16, .v (.slice s.A s.n s.c)), (0, .v (.slice s.A s.n s.c)), (1, vI n)], [⟨83, [vI (s.at i).client, vI (s.at i).id, vI (s.at i).acked, vI (s.at i).last, .v (.slice (s.at i).replies.A (s.at i).replies.n (s.at i).replies.c)]⟩]⟩ [] [] (by kernel_rfl) on wn ?_
          cases h5 : decide ((s.at i).client < 1) with
          | true =>
            have h5 := of_decide_eq_true h5
            refine JL_run 32 [] [58, 5, 6, 18, 17, 16, 0, 1] 1 ⟨[(58, vB true), (5, vI ((i : Nat) : Int)), (6, .p 0 0), (18, vI ((i : Nat) : Int)), (17, vI ((s.n : Nat) : Int)), (16, .v (.slice s.A s.n s.c)), (0, .v (.slice s.A s.n s.c)), (1, vI n)], [⟨83, [vI (s.at i).client, vI (s.at i).id, vI (s.at i).acked, vI (s.at i).last, .v (.slice (s.at i).replies.A (s.at i).replies.n (s.at i).replies.c)]⟩]⟩ [] [] (by kernel_rfl) on wn ?_
            refine l_nil (q_then_normal ?_)
            refine c_if true rfl ?_
            refine c_seq ?_
            refine c_region ?_
            refine JL_run 1 [] [4] 0 ⟨[(4, vI 2)], []⟩ [] [] (by kernel_rfl) on wn ?_
            refine l_nil (q_then_normal ?_)
            refine c_ret ?_
            refine q_then_ret (q_block_ret (q_then_ret (q_then_ret (q_block_ret (q_then_ret (q_ret (.inl rfl) [vI 2] rfl (fun bs w hS => ?_)))))))
            refine ⟨?_, hS.kp⟩
            simp only [retOf, den, List.map_cons, List.map_nil]
            have hf : sessF (s.xs.map CSession.abs) n i = 2 := by
              unfold sessF
              simp only [hat, hq0, hq1, hq2, hq3]
              try simp only [h1, h2, h3, h4, h5, emp_size, ne_eq, not_true_eq_false, not_false_eq_true, true_or, or_true, false_or, or_false, and_true, true_and, and_false, false_and, and_self, or_self, if_true, if_false, Bool.true_eq_false, Bool.false_eq_true, reduceIte, Classical.not_not, Bool.and_eq_true, decide_eq_true_eq]
              repeat (first | rw [if_pos (by omega)] | rw [if_neg (by omega)])
              all_goals first | rfl | (exfalso; omega)
            rw [hI, firstF_here (by omega) hf (by omega)]
          | false =>
            have h5 := of_decide_eq_false h5
            refine JL_run 5 [] [31, 5, 6, 18, 17, 16, 0, 1] 1 ⟨[(31, vB (decide ((9 : Int) < (s.at i).client))), (5, vI ((i : Nat) : Int)), (6, .p 0 0), (18, vI ((i : Nat) : Int)), (17, vI ((s.n : Nat) : Int)), (16, .v (.slice s.A s.n s.c)), (0, .v (.slice s.A s.n s.c)), (1, vI n)], [⟨83, [vI (s.at i).client, vI (s.at i).id, vI (s.at i).acked, vI (s.at i).last, .v (.slice (s.at i).replies.A (s.at i).replies.n (s.at i).replies.c)]⟩]⟩ [] [] (by kernel_rfl) on wn ?_
            cases h6 : decide ((9 : Int) < (s.at i).client) with
            | true =>
              have h6 := of_decide_eq_true h6
              refine JL_run 27 [] [58, 5, 6, 18, 17, 16, 0, 1] 1 ⟨[(58, vB true), (5, vI ((i : Nat) : Int)), (6, .p 0 0), (18, vI ((i : Nat) : Int)), (17, vI ((s.n : Nat) : Int)), (16, .v (.slice s.A s.n s.c)), (0, .v (.slice s.A s.n s.c)), (1, vI n)], [⟨83, [vI (s.at i).client, vI (s.at i).id, vI (s.at i).acked, vI (s.at i).last, .v (.slice (s.at i).replies.A (s.at i).replies.n (s.at i).replies.c)]⟩]⟩ [] [] (by kernel_rfl) on wn ?_
              refine l_nil (q_then_normal ?_)
              refine c_if true rfl ?_
              refine c_seq ?_
              refine c_region ?_
              refine JL_run 1 [] [4] 0 ⟨[(4, vI 2)], []⟩ [] [] (by kernel_rfl) on wn ?_
              refine l_nil (q_then_normal ?_)
              refine c_ret ?_
              refine q_then_ret (q_block_ret (q_then_ret (q_then_ret (q_block_ret (q_then_ret (q_ret (.inl rfl) [vI 2] rfl (fun bs w hS => ?_)))))))
              refine ⟨?_, hS.kp⟩
              simp only [retOf, den, List.map_cons, List.map_nil]
              have hf : sessF (s.xs.map CSession.abs) n i = 2 := by
                unfold sessF
                simp only [hat, hq0, hq1, hq2, hq3]
                try simp only [h1, h2, h3, h4, h5, h6, emp_size, ne_eq, not_true_eq_false, not_false_eq_true, true_or, or_true, false_or, or_false, and_true, true_and, and_false, false_and, and_self, or_self, if_true, if_false, Bool.true_eq_false, Bool.false_eq_true, reduceIte, Classical.not_not, Bool.and_eq_true, decide_eq_true_eq]
                repeat (first | rw [if_pos (by omega)] | rw [if_neg (by omega)])
                all_goals first | rfl | (exfalso; omega)
              rw [hI, firstF_here (by omega) hf (by omega)]
            | false =>
              have h6 := of_decide_eq_false h6
              refine JL_run 5 [] [36, 5, 6, 18, 17, 16, 0, 1] 1 ⟨[(36, vB (decide ((s.at i).acked < 0))), (5, vI ((i : Nat) : Int)), (6, .p 0 0), (18, vI ((i : Nat) : Int)), (17, vI ((s.n : Nat) : Int)), (16, .v (.slice s.A s.n s.c)), (0, .v (.slice s.A s.n s.c)), (1, vI n)], [⟨83, [vI (s.at i).client, vI (s.at i).id, vI (s.at i).acked, vI (s.at i).last, .v (.slice (s.at i).replies.A (s.at i).replies.n (s.at i).replies.c)]⟩]⟩ [] [] (by kernel_rfl) on wn ?_
              cases h7 : decide ((s.at i).acked < 0) with
              | true =>
                have h7 := of_decide_eq_true h7
                refine JL_run 22 [] [58, 5, 6, 18, 17, 16, 0, 1] 1 ⟨[(58, vB true), (5, vI ((i : Nat) : Int)), (6, .p 0 0), (18, vI ((i : Nat) : Int)), (17, vI ((s.n : Nat) : Int)), (16, .v (.slice s.A s.n s.c)), (0, .v (.slice s.A s.n s.c)), (1, vI n)], [⟨83, [vI (s.at i).client, vI (s.at i).id, vI (s.at i).acked, vI (s.at i).last, .v (.slice (s.at i).replies.A (s.at i).replies.n (s.at i).replies.c)]⟩]⟩ [] [] (by kernel_rfl) on wn ?_
                refine l_nil (q_then_normal ?_)
                refine c_if true rfl ?_
                refine c_seq ?_
                refine c_region ?_
                refine JL_run 1 [] [4] 0 ⟨[(4, vI 2)], []⟩ [] [] (by kernel_rfl) on wn ?_
                refine l_nil (q_then_normal ?_)
                refine c_ret ?_
                refine q_then_ret (q_block_ret (q_then_ret (q_then_ret (q_block_ret (q_then_ret (q_ret (.inl rfl) [vI 2] rfl (fun bs w hS => ?_)))))))
                refine ⟨?_, hS.kp⟩
                simp only [retOf, den, List.map_cons, List.map_nil]
                have hf : sessF (s.xs.map CSession.abs) n i = 2 := by
                  unfold sessF
                  simp only [hat, hq0, hq1, hq2, hq3]
                  try simp only [h1, h2, h3, h4, h5, h6, h7, emp_size, ne_eq, not_true_eq_false, not_false_eq_true, true_or, or_true, false_or, or_false, and_true, true_and, and_false, false_and, and_self, or_self, if_true, if_false, Bool.true_eq_false, Bool.false_eq_true, reduceIte, Classical.not_not, Bool.and_eq_true, decide_eq_true_eq]
                  repeat (first | rw [if_pos (by omega)] | rw [if_neg (by omega)])
                  all_goals first | rfl | (exfalso; omega)
                rw [hI, firstF_here (by omega) hf (by omega)]
              | false =>
                have h7 := of_decide_eq_false h7
                refine JL_run 5 [] [41, 5, 6, 18, 17, 16, 0, 1] 1 ⟨[(41, vB (decide ((1048576 : Int) < (s.at i).acked))), (5, vI ((i : Nat) : Int)), (6, .p 0 0), (18, vI ((i : Nat) : Int)), (17, vI ((s.n : Nat) : Int)), (16, .v (.slice s.A s.n s.c)), (0, .v (.slice s.A s.n s.c)), (1, vI n)], [⟨83, [vI (s.at i).client, vI (s.at i).id, vI (s.at i).acked, vI (s.at i).last, .v (.slice (s.at i).replies.A (s.at i).replies.n (s.at i).replies.c)]⟩]⟩ [] [] (by kernel_rfl) on wn ?_
                cases h8 : decide ((1048576 : Int) < (s.at i).acked) with
                | true =>
                  have h8 := of_decide_eq_true h8
                  refine JL_run 17 [] [58, 5, 6, 18, 17, 16, 0, 1] 1 ⟨[(58, vB true), (5, vI ((i : Nat) : Int)), (6, .p 0 0), (18, vI ((i : Nat) : Int)), (17, vI ((s.n : Nat) : Int)), (16, .v (.slice s.A s.n s.c)), (0, .v (.slice s.A s.n s.c)), (1, vI n)], [⟨83, [vI (s.at i).client, vI (s.at i).id, vI (s.at i).acked, vI (s.at i).last, .v (.slice (s.at i).replies.A (s.at i).replies.n (s.at i).replies.c)]⟩]⟩ [] [] (by kernel_rfl) on wn ?_
                  refine l_nil (q_then_normal ?_)
                  refine c_if true rfl ?_
                  refine c_seq ?_
                  refine c_region ?_
                  refine JL_run 1 [] [4] 0 ⟨[(4, vI 2)], []⟩ [] [] (by kernel_rfl) on wn ?_
                  refine l_nil (q_then_normal ?_)
                  refine c_ret ?_
                  refine q_then_ret (q_block_ret (q_then_ret (q_then_ret (q_block_ret (q_then_ret (q_ret (.inl rfl) [vI 2] rfl (fun bs w hS => ?_)))))))
                  refine ⟨?_, hS.kp⟩
                  simp only [retOf, den, List.map_cons, List.map_nil]
                  have hf : sessF (s.xs.map CSession.abs) n i = 2 := by
                    unfold sessF
                    simp only [hat, hq0, hq1, hq2, hq3]
                    try simp only [h1, h2, h3, h4, h5, h6, h7, h8, emp_size, ne_eq, not_true_eq_false, not_false_eq_true, true_or, or_true, false_or, or_false, and_true, true_and, and_false, false_and, and_self, or_self, if_true, if_false, Bool.true_eq_false, Bool.false_eq_true, reduceIte, Classical.not_not, Bool.and_eq_true, decide_eq_true_eq]
                    repeat (first | rw [if_pos (by omega)] | rw [if_neg (by omega)])
                    all_goals first | rfl | (exfalso; omega)
                  rw [hI, firstF_here (by omega) hf (by omega)]
                | false =>
                  have h8 := of_decide_eq_false h8
                  refine JL_run 5 [] [46, 5, 6, 18, 17, 16, 0, 1] 1 ⟨[(46, vB (decide ((s.at i).id < 1))), (5, vI ((i : Nat) : Int)), (6, .p 0 0), (18, vI ((i : Nat) : Int)), (17, vI ((s.n : Nat) : Int)), (16, .v (.slice s.A s.n s.c)), (0, .v (.slice s.A s.n s.c)), (1, vI n)], [⟨83, [vI (s.at i).client, vI (s.at i).id, vI (s.at i).acked, vI (s.at i).last, .v (.slice (s.at i).replies.A (s.at i).replies.n (s.at i).replies.c)]⟩]⟩ [] [] (by kernel_rfl) on wn ?_
                  cases h9 : decide ((s.at i).id < 1) with
                  | true =>
                    have h9 := of_decide_eq_true h9
                    refine JL_run 12 [] [58, 5, 6, 18, 17, 16, 0, 1] 1 ⟨[(58, vB true), (5, vI ((i : Nat) : Int)), (6, .p 0 0), (18, vI ((i : Nat) : Int)), (17, vI ((s.n : Nat) : Int)), (16, .v (.slice s.A s.n s.c)), (0, .v (.slice s.A s.n s.c)), (1, vI n)], [⟨83, [vI (s.at i).client, vI (s.at i).id, vI (s.at i).acked, vI (s.at i).last, .v (.slice (s.at i).replies.A (s.at i).replies.n (s.at i).replies.c)]⟩]⟩ [] [] (by kernel_rfl) on wn ?_
                    refine l_nil (q_then_normal ?_)
                    refine c_if true rfl ?_
                    refine c_seq ?_
                    refine c_region ?_
                    refine JL_run 1 [] [4] 0 ⟨[(4, vI 2)], []⟩ [] [] (by kernel_rfl) on wn ?_
                    refine l_nil (q_then_normal ?_)
                    refine c_ret ?_
                    refine q_then_ret (q_block_ret (q_then_ret (q_then_ret (q_block_ret (q_then_ret (q_ret (.inl rfl) [vI 2] rfl (fun bs w hS => ?_)))))))
                    refine ⟨?_, hS.kp⟩
                    simp only [retOf, den, List.map_cons, List.map_nil]
                    have hf : sessF (s.xs.map CSession.abs) n i = 2 := by
                      unfold sessF
                      simp only [hat, hq0, hq1, hq2, hq3]
                      try simp only [h1, h2, h3, h4, h5, h6, h7, h8, h9, emp_size, ne_eq, not_true_eq_false, not_false_eq_true, true_or, or_true, false_or, or_false, and_true, true_and, and_false, false_and, and_self, or_self, if_true, if_false, Bool.true_eq_false, Bool.false_eq_true, reduceIte, Classical.not_not, Bool.and_eq_true, decide_eq_true_eq]
                      repeat (first | rw [if_pos (by omega)] | rw [if_neg (by omega)])
                      all_goals first | rfl | (exfalso; omega)
                    rw [hI, firstF_here (by omega) hf (by omega)]
                  | false =>
                    have h9 := of_decide_eq_false h9
                    refine JL_run 7 [] [53, 5, 6, 18, 17, 16, 0, 1] 1 ⟨[(53, vB (decide ((s.at i).last < (s.at i).id))), (5, vI ((i : Nat) : Int)), (6, .p 0 0), (18, vI ((i : Nat) : Int)), (17, vI ((s.n : Nat) : Int)), (16, .v (.slice s.A s.n s.c)), (0, .v (.slice s.A s.n s.c)), (1, vI n)], [⟨83, [vI (s.at i).client, vI (s.at i).id, vI (s.at i).acked, vI (s.at i).last, .v (.slice (s.at i).replies.A (s.at i).replies.n (s.at i).replies.c)]⟩]⟩ [] [] (by kernel_rfl) on wn ?_
                    cases h10 : decide ((s.at i).last < (s.at i).id) with
                    | true =>
                      have h10 := of_decide_eq_true h10
                      refine JL_run 5 [] [58, 5, 6, 18, 17, 16, 0, 1] 1 ⟨[(58, vB true), (5, vI ((i : Nat) : Int)), (6, .p 0 0), (18, vI ((i : Nat) : Int)), (17, vI ((s.n : Nat) : Int)), (16, .v (.slice s.A s.n s.c)), (0, .v (.slice s.A s.n s.c)), (1, vI n)], [⟨83, [vI (s.at i).client, vI (s.at i).id, vI (s.at i).acked, vI (s.at i).last, .v (.slice (s.at i).replies.A (s.at i).replies.n (s.at i).replies.c)]⟩]⟩ [] [] (by kernel_rfl) on wn ?_
                      refine l_nil (q_then_normal ?_)
                      refine c_if true rfl ?_
                      refine c_seq ?_
                      refine c_region ?_
                      refine JL_run 1 [] [4] 0 ⟨[(4, vI 2)], []⟩ [] [] (by kernel_rfl) on wn ?_
                      refine l_nil (q_then_normal ?_)
                      refine c_ret ?_
                      refine q_then_ret (q_block_ret (q_then_ret (q_then_ret (q_block_ret (q_then_ret (q_ret (.inl rfl) [vI 2] rfl (fun bs w hS => ?_)))))))
                      refine ⟨?_, hS.kp⟩
                      simp only [retOf, den, List.map_cons, List.map_nil]
                      have hf : sessF (s.xs.map CSession.abs) n i = 2 := by
                        unfold sessF
                        simp only [hat, hq0, hq1, hq2, hq3]
                        try simp only [h1, h2, h3, h4, h5, h6, h7, h8, h9, h10, emp_size, ne_eq, not_true_eq_false, not_false_eq_true, true_or, or_true, false_or, or_false, and_true, true_and, and_false, false_and, and_self, or_self, if_true, if_false, Bool.true_eq_false, Bool.false_eq_true, reduceIte, Classical.not_not, Bool.and_eq_true, decide_eq_true_eq]
                        repeat (first | rw [if_pos (by omega)] | rw [if_neg (by omega)])
                        all_goals first | rfl | (exfalso; omega)
                      rw [hI, firstF_here (by omega) hf (by omega)]
                    | false =>
                      have h10 := of_decide_eq_false h10
                      refine JL_run 5 [] [58, 5, 6, 18, 17, 16, 0, 1] 1 ⟨[(58, vB (decide (n < (s.at i).last))), (5, vI ((i : Nat) : Int)), (6, .p 0 0), (18, vI ((i : Nat) : Int)), (17, vI ((s.n : Nat) : Int)), (16, .v (.slice s.A s.n s.c)), (0, .v (.slice s.A s.n s.c)), (1, vI n)], [⟨83, [vI (s.at i).client, vI (s.at i).id, vI (s.at i).acked, vI (s.at i).last, .v (.slice (s.at i).replies.A (s.at i).replies.n (s.at i).replies.c)]⟩]⟩ [] [] (by kernel_rfl) on wn ?_
                      refine l_nil (q_then_normal ?_)
                      cases h11 : decide (n < (s.at i).last) with
                      | true =>
                        have h11 := of_decide_eq_true h11
                        refine c_if true rfl ?_
                        refine c_seq ?_
                        refine c_region ?_
                        refine JL_run 1 [] [4] 0 ⟨[(4, vI 2)], []⟩ [] [] (by kernel_rfl) on wn ?_
                        refine l_nil (q_then_normal ?_)
                        refine c_ret ?_
                        refine q_then_ret (q_block_ret (q_then_ret (q_then_ret (q_block_ret (q_then_ret (q_ret (.inl rfl) [vI 2] rfl (fun bs w hS => ?_)))))))
                        refine ⟨?_, hS.kp⟩
                        simp only [retOf, den, List.map_cons, List.map_nil]
                        have hf : sessF (s.xs.map CSession.abs) n i = 2 := by
                          unfold sessF
                          simp only [hat, hq0, hq1, hq2, hq3]
                          try simp only [h1, h2, h3, h4, h5, h6, h7, h8, h9, h10, h11, emp_size, ne_eq, not_true_eq_false, not_false_eq_true, true_or, or_true, false_or, or_false, and_true, true_and, and_false, false_and, and_self, or_self, if_true, if_false, Bool.true_eq_false, Bool.false_eq_true, reduceIte, Classical.not_not, Bool.and_eq_true, decide_eq_true_eq]
                          repeat (first | rw [if_pos (by omega)] | rw [if_neg (by omega)])
                          all_goals first | rfl | (exfalso; omega)
                        rw [hI, firstF_here (by omega) hf (by omega)]
                      | false =>
                        have h11 := of_decide_eq_false h11
                        refine c_if false rfl ?_
                        refine c_skip ?_
                        refine q_then_normal ?_
                        refine c_seq ?_
                        refine c_seq ?_
                        refine c_region ?_
                        refine JL_run 1 [] [59, 5, 6, 18, 17, 16, 0, 1] 1 ⟨[(59, .v (.agg #[.int .i64 (s.at i).client, .int .i64 (s.at i).id, .int .i64 (s.at i).acked, .int .i64 (s.at i).last, .slice (s.at i).replies.A (s.at i).replies.n (s.at i).replies.c])), (5, vI ((i : Nat) : Int)), (6, .p 0 0), (18, vI ((i : Nat) : Int)), (17, vI ((s.n : Nat) : Int)), (16, .v (.slice s.A s.n s.c)), (0, .v (.slice s.A s.n s.c)), (1, vI n)], [⟨83, [vI (s.at i).client, vI (s.at i).id, vI (s.at i).acked, vI (s.at i).last, .v (.slice (s.at i).replies.A (s.at i).replies.n (s.at i).replies.c)]⟩]⟩ [] [] (by kernel_rfl) on wn ?_
                        refine l_pure 51 [] [.v (.agg #[.int .i64 (s.at i).client, .int .i64 (s.at i).id, .int .i64 (s.at i).acked, .int .i64 (s.at i).last, .slice (s.at i).replies.A (s.at i).replies.n (s.at i).replies.c])] (.bool (mReplies (s.at i).abs)) Try.call51 rfl rfl rfl rfl (fun bs w hS => session_replies (s.at i) w (Sl.rd.sub (s := s) (i := i) (Sl.rd.kp hs hS.kp) (by omega)) (by first | exact ⟨by omega, by omega⟩ | (simp only [] at *; exact ⟨by omega, by omega⟩))) ?_
                        refine JL_run 1 [] [61, 5, 6, 18, 17, 16, 0, 1] 1 ⟨[(61, vB (!(mReplies (s.at i).abs))), (5, vI ((i : Nat) : Int)), (6, .p 0 0), (18, vI ((i : Nat) : Int)), (17, vI ((s.n : Nat) : Int)), (16, .v (.slice s.A s.n s.c)), (0, .v (.slice s.A s.n s.c)), (1, vI n)], [⟨83, [vI (s.at i).client, vI (s.at i).id, vI (s.at i).acked, vI (s.at i).last, .v (.slice (s.at i).replies.A (s.at i).replies.n (s.at i).replies.c)]⟩]⟩ [] [] (by kernel_rfl) on wn ?_
                        refine l_nil (q_then_normal ?_)
                        cases h12 : mReplies (s.at i).abs with
                        | true =>
                          refine c_if false rfl ?_
                          refine c_skip ?_
                          refine q_then_normal ?_
                          refine c_seq ?_
                          refine c_draw 13 [(0, false), (1, false), (2, false), (3, false), (4, false), (5, false), (6, false), (7, false), (8, false), (9, false), (10, false), (11, false), (12, false)] [] [] Try_mixed (by kernel_rfl) (pq_then (pq_block (pq_then (pq_then (pq_block (pq_then pq_body)))))) (List.Sublist.refl _) ?_
                          refine h_quiet [] 3 [(64, vB (decide ((0 : Int) < ((i : Nat) : Int)))), (63, vB (decide ((0 : Int) < ((i : Nat) : Int)))), (62, vI ((i : Nat) : Int)), (61, vB false), (5, vI ((i : Nat) : Int)), (6, .p 0 0), (18, vI ((i : Nat) : Int)), (17, vI ((s.n : Nat) : Int)), (16, .v (.slice s.A s.n s.c)), (0, .v (.slice s.A s.n s.c)), (1, vI n)] [] [] rfl rfl (by kernel_rfl) on wn ?_
                          cases h13 : decide ((0 : Int) < ((i : Nat) : Int)) with
                          | true =>
                            have h13 := of_decide_eq_true h13
                            refine h_quiet [(6, .idx s.ad (i - 1)), (8, .ext [.int .i64 (s.at (i - 1)).client])] 10 [(74, vB (decide ((s.at i).client ≤ (s.at (i - 1)).client))), (73, vB (decide ((s.at i).client ≤ (s.at (i - 1)).client))), (72, vI (s.at i).client), (71, .p 0 0), (70, vI (s.at (i - 1)).client), (69, .v (.pointer (some ((s.ad.add ((i - 1) * 5)).add 0)))), (68, .v (.pointer (some (s.ad.add ((i - 1) * 5))))), (67, vI (((i : Nat) : Int) - 1)), (66, vI ((i : Nat) : Int)), (65, .v (.slice s.A s.n s.c)), (64, vB true), (63, vB true), (62, vI ((i : Nat) : Int)), (61, vB false), (5, vI ((i : Nat) : Int)), (6, .p 0 0), (18, vI ((i : Nat) : Int)), (17, vI ((s.n : Nat) : Int)), (16, .v (.slice s.A s.n s.c)), (0, .v (.slice s.A s.n s.c)), (1, vI n)] [inR (((i : Nat) : Int) - 1), s.A = some s.ad, ((i : Nat) : Int) - 1 = (((i - 1) : Nat) : Int), (i - 1) < s.n] [((s.ad.add ((i - 1) * 5)).add 0, [.int .i64 (s.at (i - 1)).client])] rfl rfl (by kernel_rfl) (oc (by unfold inR; omega) (oc (Sl.ok.own (s := s) (i := (i - 1)) oks (by omega)) (oc (by omega) (oc (by omega) on)))) (fun w hk hr => ⟨(Sl.rd.fld (s := s) (i := (i - 1)) (Sl.rd.kp hs hk) (by omega) 0 1 rfl), trivial⟩) ?_
                            refine h_nil ?_
                            refine l_nil (q_then_normal ?_)
                            cases h14 : decide ((s.at i).client ≤ (s.at (i - 1)).client) with
                            | true =>
                              have h14 := of_decide_eq_true h14
                              refine c_if true rfl ?_
                              refine c_seq ?_
                              refine c_region ?_
                              refine JL_run 1 [] [4] 0 ⟨[(4, vI 14)], []⟩ [] [] (by kernel_rfl) on wn ?_
                              refine l_nil (q_then_normal ?_)
                              refine c_ret ?_
                              refine q_block_ret (q_then_ret (q_then_ret (q_block_ret (q_then_ret (q_ret (.inl rfl) [vI 14] rfl (fun bs w hS => ?_))))))
                              refine ⟨?_, hS.kp⟩
                              simp only [retOf, den, List.map_cons, List.map_nil]
                              have hf : sessF (s.xs.map CSession.abs) n i = 14 := by
                                unfold sessF
                                simp only [hat, hq0, hq1, hq2, hq3]
                                try simp only [h1, h2, h3, h4, h5, h6, h7, h8, h9, h10, h11, h12, h13, h14, emp_size, ne_eq, not_true_eq_false, not_false_eq_true, true_or, or_true, false_or, or_false, and_true, true_and, and_false, false_and, and_self, or_self, if_true, if_false, Bool.true_eq_false, Bool.false_eq_true, reduceIte, Classical.not_not, Bool.and_eq_true, decide_eq_true_eq]
                                repeat (first | rw [if_pos (by omega)] | rw [if_neg (by omega)])
                                all_goals first | rfl | (exfalso; omega)
                              rw [hI, firstF_here (by omega) hf (by omega)]
                            | false =>
                              have h14 := of_decide_eq_false h14
                              refine c_if false rfl ?_
                              refine c_skip ?_
                              refine q_block_normal (q_then_normal ?_)
                              refine c_region ?_
                              refine JL_run 2 [] [18, 17, 16, 0, 1] 0 ⟨[(18, vI (((i : Nat) : Int) + 1)), (17, vI ((s.n : Nat) : Int)), (16, .v (.slice s.A s.n s.c)), (0, .v (.slice s.A s.n s.c)), (1, vI n)], []⟩ [inR (((i : Nat) : Int) + 1)] [] (by kernel_rfl) (oc (by unfold inR; omega) on) wn ?_
                              have hf0 : sessF (s.xs.map CSession.abs) n i = 0 := by
                                unfold sessF
                                simp only [hat, hq0, hq1, hq2, hq3]
                                try simp only [h1, h2, h3, h4, h5, h6, h7, h8, h9, h10, h11, h12, h13, h14, emp_size, ne_eq, not_true_eq_false, not_false_eq_true, true_or, or_true, false_or, or_false, and_true, true_and, and_false, false_and, and_self, or_self, if_true, if_false, Bool.true_eq_false, Bool.false_eq_true, reduceIte, Classical.not_not, Bool.and_eq_true, decide_eq_true_eq]
                                repeat (first | rw [if_pos (by omega)] | rw [if_neg (by omega)])
                                all_goals first | rfl | (exfalso; omega)
                              refine l_nil (q_loop (x := (i : Nat)) ((i + 1) : Nat) ⟨by omega, by rw [hI]; exact firstF_step (by omega) hf0⟩ (by omega) (s_start [18, 17, 16, 0, 1] 0 (by kernel_rfl) rfl))
                          | false =>
                            have h13 := of_decide_eq_false h13
                            refine h_quiet [] 10 [(74, vB false), (73, .v (undef)), (72, .v (undef)), (71, .v (undef)), (70, .v (undef)), (69, .v (undef)), (68, .v (undef)), (67, .v (undef)), (66, .v (undef)), (65, .v (undef)), (64, vB false), (63, vB false), (62, vI ((i : Nat) : Int)), (61, vB false), (5, vI ((i : Nat) : Int)), (6, .p 0 0), (18, vI ((i : Nat) : Int)), (17, vI ((s.n : Nat) : Int)), (16, .v (.slice s.A s.n s.c)), (0, .v (.slice s.A s.n s.c)), (1, vI n)] [] [] rfl rfl (by kernel_rfl) on wn ?_
                            refine h_nil ?_
                            refine l_nil (q_then_normal ?_)
                            refine c_if false rfl ?_
                            refine c_skip ?_
                            refine q_block_normal (q_then_normal ?_)
                            refine c_region ?_
                            refine JL_run 2 [] [18, 17, 16, 0, 1] 0 ⟨[(18, vI (((i : Nat) : Int) + 1)), (17, vI ((s.n : Nat) : Int)), (16, .v (.slice s.A s.n s.c)), (0, .v (.slice s.A s.n s.c)), (1, vI n)], []⟩ [inR (((i : Nat) : Int) + 1)] [] (by kernel_rfl) (oc (by unfold inR; omega) on) wn ?_
                            have hf0 : sessF (s.xs.map CSession.abs) n i = 0 := by
                              unfold sessF
                              simp only [hat, hq0, hq1, hq2, hq3]
                              try simp only [h1, h2, h3, h4, h5, h6, h7, h8, h9, h10, h11, h12, h13, emp_size, ne_eq, not_true_eq_false, not_false_eq_true, true_or, or_true, false_or, or_false, and_true, true_and, and_false, false_and, and_self, or_self, if_true, if_false, Bool.true_eq_false, Bool.false_eq_true, reduceIte, Classical.not_not, Bool.and_eq_true, decide_eq_true_eq]
                              repeat (first | rw [if_pos (by omega)] | rw [if_neg (by omega)])
                              all_goals first | rfl | (exfalso; omega)
                            refine l_nil (q_loop (x := (i : Nat)) ((i + 1) : Nat) ⟨by omega, by rw [hI]; exact firstF_step (by omega) hf0⟩ (by omega) (s_start [18, 17, 16, 0, 1] 0 (by kernel_rfl) rfl))
                        | false =>
                          refine c_if true rfl ?_
                          refine c_seq ?_
                          refine c_region ?_
                          refine JL_run 1 [] [4] 0 ⟨[(4, vI 4)], []⟩ [] [] (by kernel_rfl) on wn ?_
                          refine l_nil (q_then_normal ?_)
                          refine c_ret ?_
                          refine q_then_ret (q_block_ret (q_then_ret (q_then_ret (q_block_ret (q_then_ret (q_ret (.inl rfl) [vI 4] rfl (fun bs w hS => ?_)))))))
                          refine ⟨?_, hS.kp⟩
                          simp only [retOf, den, List.map_cons, List.map_nil]
                          have hf : sessF (s.xs.map CSession.abs) n i = 4 := by
                            unfold sessF
                            simp only [hat, hq0, hq1, hq2, hq3]
                            try simp only [h1, h2, h3, h4, h5, h6, h7, h8, h9, h10, h11, h12, emp_size, ne_eq, not_true_eq_false, not_false_eq_true, true_or, or_true, false_or, or_false, and_true, true_and, and_false, false_and, and_self, or_self, if_true, if_false, Bool.true_eq_false, Bool.false_eq_true, reduceIte, Classical.not_not, Bool.and_eq_true, decide_eq_true_eq]
                            repeat (first | rw [if_pos (by omega)] | rw [if_neg (by omega)])
                            all_goals first | rfl | (exfalso; omega)
                          rw [hI, firstF_here (by omega) hf (by omega)]
        | false =>
          have h4 := of_decide_eq_false h4
          refine c_if false rfl ?_
          refine c_exit ?_
          refine q_then_exit (q_then_exit (q_block_hit (q_then_normal ?_)))
          refine c_seq ?_
          refine c_region ?_
          refine JL_run 1 [] [4] 0 ⟨[(4, vI 0)], []⟩ [] [] (by kernel_rfl) on wn ?_
          refine l_nil (q_then_normal ?_)
          refine c_ret ?_
          refine q_ret (.inl rfl) [vI 0] rfl (fun bs w hS => ?_)
          refine ⟨?_, hS.kp⟩
          simp only [retOf, den, List.map_cons, List.map_nil]
          rw [hI, firstF_end (by omega)]

theorem ref_SessionsFault {B : Nat → Prop} (s : Sl CSession) (n : Int) (w : World) (hs : s.rd B w) : Calls Try.prog 22 #[.slice s.A s.n s.c, .int .i64 n] w fun e w' => e = .returned (.int .i64 (mSess (s.xs.map CSession.abs) n)) ∧ Kp [] w w' := by
  have oks := Sl.rd.ok hs
  have ncs := Sl.ok.nc oks
  have hns : s.n = s.xs.length := rfl
  have hat : ∀ q, (s.xs.map CSession.abs).getD q default = (s.at q).abs := fun q => sabs_at q
  have hq0 : ∀ q, (s.at q).abs.client = (s.at q).client := fun _ => rfl
  have hq1 : ∀ q, (s.at q).abs.id = (s.at q).id := fun _ => rfl
  have hq2 : ∀ q, (s.at q).abs.acked = (s.at q).acked := fun _ => rfl
  have hq3 : ∀ q, (s.at q).abs.last = (s.at q).last := fun _ => rfl
  have hml : (s.xs.map CSession.abs).length = s.n := by simp
  refine calls_J0 65 Try.func22 rfl rfl [.slice s.A s.n s.c, .int .i64 n] rfl ?_
  refine c_seq ?_
  refine c_region ?_
  refine JL_run 1 [] [0, 1] 0 ⟨[(0, .v (.slice s.A s.n s.c)), (1, vI n)], []⟩ [] [] (by kernel_rfl) on wn ?_
  refine l_nil (q_then_normal ?_)
  refine c_seq ?_
  refine c_seq ?_
  refine c_region ?_
  refine JL_run 1 [] [7, 0, 1] 0 ⟨[(7, vI n), (0, .v (.slice s.A s.n s.c)), (1, vI n)], []⟩ [] [] (by kernel_rfl) on wn ?_
  refine l_pure 47 [] [vI n, vI 0, vI 1073741824] (.bool (inB n 0 1073741824)) Try.call47 rfl rfl rfl rfl (fun bs w hS => ref_In _ _ _ w) ?_
  refine JL_run 1 [] [9, 0, 1] 0 ⟨[(9, vB (!(inB n 0 1073741824))), (0, .v (.slice s.A s.n s.c)), (1, vI n)], []⟩ [] [] (by kernel_rfl) on wn ?_
  refine l_nil (q_then_normal ?_)
  cases h1 : inB n 0 1073741824 with
  | true =>
    simp only [inB, Bool.and_eq_true, Bool.and_eq_false_iff, decide_eq_true_eq, decide_eq_false_iff_not] at h1
    refine c_if false rfl ?_
    refine c_skip ?_
    refine q_then_normal ?_
    refine c_seq ?_
    refine c_seq ?_
    refine c_region ?_
    refine JL_run 3 [] [12, 0, 1] 0 ⟨[(12, vB (decide ((4 : Int) < ((s.n : Nat) : Int)))), (0, .v (.slice s.A s.n s.c)), (1, vI n)], []⟩ [] [] (by kernel_rfl) on wn ?_
    refine l_nil (q_then_normal ?_)
    cases h2 : decide ((4 : Int) < ((s.n : Nat) : Int)) with
    | true =>
      have h2 := of_decide_eq_true h2
      refine c_if true rfl ?_
      refine c_seq ?_
      refine c_region ?_
      refine JL_run 1 [] [4] 0 ⟨[(4, vI 1)], []⟩ [] [] (by kernel_rfl) on wn ?_
      refine l_nil (q_then_normal ?_)
      refine c_ret ?_
      refine q_then_ret (q_ret (.inl rfl) [vI 1] rfl (fun bs w hS => ?_))
      refine ⟨?_, hS.kp⟩
      simp only [retOf, den, List.map_cons, List.map_nil]
      have hm : mSess (s.xs.map CSession.abs) n = 1 := by
        unfold mSess; rw [hml]
        first | rw [if_pos (by omega)] | rw [if_neg (by omega), if_pos (by omega)]
      rw [hm]
    | false =>
      have h2 := of_decide_eq_false h2
      refine c_if false rfl ?_
      refine c_skip ?_
      refine q_then_normal ?_
      refine c_seq ?_
      refine c_seq ?_
      refine c_region ?_
      refine JL_run 1 [] [5, 0, 1] 0 ⟨[(5, vI 0), (0, .v (.slice s.A s.n s.c)), (1, vI n)], []⟩ [] [] (by kernel_rfl) on wn ?_
      refine l_nil (q_then_normal ?_)
      refine c_block ?_
      refine c_loop (σ := Nat) (fun i => i ≤ s.n ∧ mSess (s.xs.map CSession.abs) n = firstF (sessF (s.xs.map CSession.abs) n) (s.n - i) i) (fun i => s.n - i) (fun i => []) (fun i => ⟨[(5, vI ((i : Nat) : Int)), (0, .v (.slice s.A s.n s.c)), (1, vI n)], []⟩) 0 ⟨Nat.zero_le _, by unfold mSess; rw [hml, if_neg (by omega), if_neg (by omega)]⟩ (s_start [5, 0, 1] 0 (by kernel_rfl) rfl) ?_
      rintro i ⟨hi, hI⟩
      refine c_seq ?_
      refine c_seq ?_
      refine c_region ?_
      refine JL_run 4 [] [16, 5, 0, 1] 0 ⟨[(16, vB (decide (((i : Nat) : Int) < ((s.n : Nat) : Int)))), (5, vI ((i : Nat) : Int)), (0, .v (.slice s.A s.n s.c)), (1, vI n)], []⟩ [] [] (by kernel_rfl) on wn ?_
      refine l_nil (q_then_normal ?_)
      cases h3 : decide (((i : Nat) : Int) < ((s.n : Nat) : Int)) with
      | true =>
        have h3 := of_decide_eq_true h3
        refine c_if true rfl ?_
        refine c_skip ?_
        refine q_then_normal ?_
        refine c_seq ?_
        refine c_block ?_
        refine c_seq ?_
        refine c_region ?_
        refine JL_run 6 [(2, .idx s.ad i), (3, .ext [.int .i64 (s.at i).client, .int .i64 (s.at i).id, .int .i64 (s.at i).acked, .int .i64 (s.at i).last, .slice (s.at i).replies.A (s.at i).replies.n (s.at i).replies.c])] [6, 5, 0, 1] 1 ⟨[(6, .p 0 0), (5, vI ((i : Nat) : Int)), (0, .v (.slice s.A s.n s.c)), (1, vI n)], [⟨83, [vI (s.at i).client, vI (s.at i).id, vI (s.at i).acked, vI (s.at i).last, .v (.slice (s.at i).replies.A (s.at i).replies.n (s.at i).replies.c)]⟩]⟩ [s.A = some s.ad, ((i : Nat) : Int) = ((i : Nat) : Int), i < s.n] [(s.ad.add (i * 5), [.int .i64 (s.at i).client, .int .i64 (s.at i).id, .int .i64 (s.at i).acked, .int .i64 (s.at i).last, .slice (s.at i).replies.A (s.at i).replies.n (s.at i).replies.c])] (by kernel_rfl) (oc (Sl.ok.own (s := s) (i := i) oks (by omega)) (oc rfl (oc (by omega) on))) (fun w hk hr => ⟨(Sl.rd.all (s := s) (i := i) (Sl.rd.kp hs hk) (by omega) rfl), trivial⟩) ?_
        refine l_nil (q_then_normal ?_)
        refine c_seq ?_
        refine c_seq ?_
        refine c_region ?_
        refine JL_run 2 [] [24, 6, 5, 0, 1] 1 ⟨[(24, vI (s.at i).client), (6, .p 0 0), (5, vI ((i : Nat) : Int)), (0, .v (.slice s.A s.n s.c)), (1, vI n)], [⟨83, [vI (s.at i).client, vI (s.at i).id, vI (s.at i).acked, vI (s.at i).last, .v (.slice (s.at i).replies.A (s.at i).replies.n (s.at i).replies.c)]⟩]⟩ [] [] (by kernel_rfl) on wn ?_
        refine l_pure 47 [] [vI (s.at i).client, vI 1, vI 9] (.bool (inB (s.at i).client 1 9)) Try.call47 rfl rfl rfl rfl (fun bs w hS => ref_In _ _ _ w) ?_
        refine JL_run 2 [] [27, 6, 5, 0, 1] 1 ⟨[(27, vB (!(inB (s.at i).client 1 9))), (6, .p 0 0), (5, vI ((i : Nat) : Int)), (0, .v (.slice s.A s.n s.c)), (1, vI n)], [⟨83, [vI (s.at i).client, vI (s.at i).id, vI (s.at i).acked, vI (s.at i).last, .v (.slice (s.at i).replies.A (s.at i).replies.n (s.at i).replies.c)]⟩]⟩ [] [] (by kernel_rfl) on wn ?_
        cases h4 : inB (s.at i).client 1 9 with
        | true =>
          simp only [inB, Bool.and_eq_true, Bool.and_eq_false_iff, decide_eq_true_eq, decide_eq_false_iff_not] at h4
          refine JL_run 2 [] [29, 27, 6, 5, 0, 1] 1 ⟨[(29, vI (s.at i).acked), (27, vB false), (6, .p 0 0), (5, vI ((i : Nat) : Int)), (0, .v (.slice s.A s.n s.c)), (1, vI n)], [⟨83, [vI (s.at i).client, vI (s.at i).id, vI (s.at i).acked, vI (s.at i).last, .v (.slice (s.at i).replies.A (s.at i).replies.n (s.at i).replies.c)]⟩]⟩ [] [] (by kernel_rfl) on wn ?_
          refine l_pure 47 [] [vI (s.at i).acked, vI 0, vI 1048576] (.bool (inB (s.at i).acked 0 1048576)) Try.call47 rfl rfl rfl rfl (fun bs w hS => ref_In _ _ _ w) ?_
          refine JL_run 3 [] [33, 6, 5, 0, 1] 1 ⟨[(33, vB (!(inB (s.at i).acked 0 1048576))), (6, .p 0 0), (5, vI ((i : Nat) : Int)), (0, .v (.slice s.A s.n s.c)), (1, vI n)], [⟨83, [vI (s.at i).client, vI (s.at i).id, vI (s.at i).acked, vI (s.at i).last, .v (.slice (s.at i).replies.A (s.at i).replies.n (s.at i).replies.c)]⟩]⟩ [] [] (by kernel_rfl) on wn ?_
          cases h5 : inB (s.at i).acked 0 1048576 with
          | true =>
            simp only [inB, Bool.and_eq_true, Bool.and_eq_false_iff, decide_eq_true_eq, decide_eq_false_iff_not] at h5
            refine JL_run 3 [] [36, 35, 33, 6, 5, 0, 1] 1 ⟨[(36, vI n), (35, vI (s.at i).id), (33, vB false), (6, .p 0 0), (5, vI ((i : Nat) : Int)), (0, .v (.slice s.A s.n s.c)), (1, vI n)], [⟨83, [vI (s.at i).client, vI (s.at i).id, vI (s.at i).acked, vI (s.at i).last, .v (.slice (s.at i).replies.A (s.at i).replies.n (s.at i).replies.c)]⟩]⟩ [] [] (by kernel_rfl) on wn ?_
            refine l_pure 47 [] [vI (s.at i).id, vI 1, vI n] (.bool (inB (s.at i).id 1 n)) Try.call47 rfl rfl rfl rfl (fun bs w hS => ref_In _ _ _ w) ?_
            refine JL_run 3 [] [40, 6, 5, 0, 1] 1 ⟨[(40, vB (!(inB (s.at i).id 1 n))), (6, .p 0 0), (5, vI ((i : Nat) : Int)), (0, .v (.slice s.A s.n s.c)), (1, vI n)], [⟨83, [vI (s.at i).client, vI (s.at i).id, vI (s.at i).acked, vI (s.at i).last, .v (.slice (s.at i).replies.A (s.at i).replies.n (s.at i).replies.c)]⟩]⟩ [] [] (by kernel_rfl) on wn ?_
            cases h6 : inB (s.at i).id 1 n with
            | true =>
              simp only [inB, Bool.and_eq_true, Bool.and_eq_false_iff, decide_eq_true_eq, decide_eq_false_iff_not] at h6
              refine JL_run 5 [] [45, 44, 42, 40, 6, 5, 0, 1] 1 ⟨[(45, vI n), (44, vI (s.at i).id), (42, vI (s.at i).last), (40, vB false), (6, .p 0 0), (5, vI ((i : Nat) : Int)), (0, .v (.slice s.A s.n s.c)), (1, vI n)], [⟨83, [vI (s.at i).client, vI (s.at i).id, vI (s.at i).acked, vI (s.at i).last, .v (.slice (s.at i).replies.A (s.at i).replies.n (s.at i).replies.c)]⟩]⟩ [] [] (by kernel_rfl) on wn ?_
              refine l_pure 47 [] [vI (s.at i).last, vI (s.at i).id, vI n] (.bool (inB (s.at i).last (s.at i).id n)) Try.call47 rfl rfl rfl rfl (fun bs w hS => ref_In _ _ _ w) ?_
              refine JL_run 2 [] [48, 6, 5, 0, 1] 1 ⟨[(48, vB (!(inB (s.at i).last (s.at i).id n))), (6, .p 0 0), (5, vI ((i : Nat) : Int)), (0, .v (.slice s.A s.n s.c)), (1, vI n)], [⟨83, [vI (s.at i).client, vI (s.at i).id, vI (s.at i).acked, vI (s.at i).last, .v (.slice (s.at i).replies.A (s.at i).replies.n (s.at i).replies.c)]⟩]⟩ [] [] (by kernel_rfl) on wn ?_
              refine l_nil (q_then_normal ?_)
              cases h7 : inB (s.at i).last (s.at i).id n with
              | true =>
                simp only [inB, Bool.and_eq_true, Bool.and_eq_false_iff, decide_eq_true_eq, decide_eq_false_iff_not] at h7
                refine c_if false rfl ?_
                refine c_skip ?_
                refine q_then_normal ?_
                refine c_seq ?_
                refine c_seq ?_
                refine c_region ?_
                refine JL_run 1 [] [49, 6, 5, 0, 1] 1 ⟨[(49, .v (.agg #[.int .i64 (s.at i).client, .int .i64 (s.at i).id, .int .i64 (s.at i).acked, .int .i64 (s.at i).last, .slice (s.at i).replies.A (s.at i).replies.n (s.at i).replies.c])), (6, .p 0 0), (5, vI ((i : Nat) : Int)), (0, .v (.slice s.A s.n s.c)), (1, vI n)], [⟨83, [vI (s.at i).client, vI (s.at i).id, vI (s.at i).acked, vI (s.at i).last, .v (.slice (s.at i).replies.A (s.at i).replies.n (s.at i).replies.c)]⟩]⟩ [] [] (by kernel_rfl) on wn ?_
                refine l_pure 52 [] [.v (.agg #[.int .i64 (s.at i).client, .int .i64 (s.at i).id, .int .i64 (s.at i).acked, .int .i64 (s.at i).last, .slice (s.at i).replies.A (s.at i).replies.n (s.at i).replies.c])] (.bool (mReplies (s.at i).abs)) Try.call52 rfl rfl rfl rfl (fun bs w hS => ref_repliesMay (s.at i) w (Sl.rd.sub (s := s) (i := i) (Sl.rd.kp hs hS.kp) (by omega)) (by first | exact ⟨by omega, by omega⟩ | (simp only [] at *; exact ⟨by omega, by omega⟩))) ?_
                refine JL_run 1 [] [51, 6, 5, 0, 1] 1 ⟨[(51, vB (!(mReplies (s.at i).abs))), (6, .p 0 0), (5, vI ((i : Nat) : Int)), (0, .v (.slice s.A s.n s.c)), (1, vI n)], [⟨83, [vI (s.at i).client, vI (s.at i).id, vI (s.at i).acked, vI (s.at i).last, .v (.slice (s.at i).replies.A (s.at i).replies.n (s.at i).replies.c)]⟩]⟩ [] [] (by kernel_rfl) on wn ?_
                refine l_nil (q_then_normal ?_)
                cases h8 : mReplies (s.at i).abs with
                | true =>
                  refine c_if false rfl ?_
                  refine c_skip ?_
                  refine q_then_normal ?_
                  refine c_seq ?_
                  refine c_draw 13 [(0, false), (1, false), (2, false), (3, false), (4, false), (5, false), (6, false), (7, false), (8, false), (9, false), (10, false), (11, false), (12, false)] [] [] Try_mixed (by kernel_rfl) (pq_then (pq_block (pq_then (pq_then (pq_block (pq_then pq_body)))))) (List.Sublist.refl _) ?_
                  refine h_quiet [] 3 [(54, vB (decide ((0 : Int) < ((i : Nat) : Int)))), (53, vB (decide ((0 : Int) < ((i : Nat) : Int)))), (52, vI ((i : Nat) : Int)), (51, vB false), (6, .p 0 0), (5, vI ((i : Nat) : Int)), (0, .v (.slice s.A s.n s.c)), (1, vI n)] [] [] rfl rfl (by kernel_rfl) on wn ?_
                  cases h9 : decide ((0 : Int) < ((i : Nat) : Int)) with
                  | true =>
                    have h9 := of_decide_eq_true h9
                    refine h_quiet [(8, .idx s.ad (i - 1)), (10, .ext [.int .i64 (s.at (i - 1)).client])] 10 [(64, vB (decide ((s.at i).client ≤ (s.at (i - 1)).client))), (63, vB (decide ((s.at i).client ≤ (s.at (i - 1)).client))), (62, vI (s.at (i - 1)).client), (61, .v (.pointer (some ((s.ad.add ((i - 1) * 5)).add 0)))), (60, .v (.pointer (some (s.ad.add ((i - 1) * 5))))), (59, vI (((i : Nat) : Int) - 1)), (58, vI ((i : Nat) : Int)), (57, .v (.slice s.A s.n s.c)), (56, vI (s.at i).client), (55, .p 0 0), (54, vB true), (53, vB true), (52, vI ((i : Nat) : Int)), (51, vB false), (6, .p 0 0), (5, vI ((i : Nat) : Int)), (0, .v (.slice s.A s.n s.c)), (1, vI n)] [inR (((i : Nat) : Int) - 1), s.A = some s.ad, ((i : Nat) : Int) - 1 = (((i - 1) : Nat) : Int), (i - 1) < s.n] [((s.ad.add ((i - 1) * 5)).add 0, [.int .i64 (s.at (i - 1)).client])] rfl rfl (by kernel_rfl) (oc (by unfold inR; omega) (oc (Sl.ok.own (s := s) (i := (i - 1)) oks (by omega)) (oc (by omega) (oc (by omega) on)))) (fun w hk hr => ⟨(Sl.rd.fld (s := s) (i := (i - 1)) (Sl.rd.kp hs hk) (by omega) 0 1 rfl), trivial⟩) ?_
                    refine h_nil ?_
                    refine l_nil (q_then_normal ?_)
                    cases h10 : decide ((s.at i).client ≤ (s.at (i - 1)).client) with
                    | true =>
                      have h10 := of_decide_eq_true h10
                      refine c_if true rfl ?_
                      refine c_seq ?_
                      refine c_region ?_
                      refine JL_run 1 [] [4] 0 ⟨[(4, vI 14)], []⟩ [] [] (by kernel_rfl) on wn ?_
                      refine l_nil (q_then_normal ?_)
                      refine c_ret ?_
                      refine q_block_ret (q_then_ret (q_then_ret (q_block_ret (q_then_ret (q_ret (.inl rfl) [vI 14] rfl (fun bs w hS => ?_))))))
                      refine ⟨?_, hS.kp⟩
                      simp only [retOf, den, List.map_cons, List.map_nil]
                      have hf : sessF (s.xs.map CSession.abs) n i = 14 := by
                        unfold sessF
                        simp only [hat, hq0, hq1, hq2, hq3]
                        try simp only [h1, h2, h3, h4, h5, h6, h7, h8, h9, h10, emp_size, ne_eq, not_true_eq_false, not_false_eq_true, true_or, or_true, false_or, or_false, and_true, true_and, and_false, false_and, and_self, or_self, if_true, if_false, Bool.true_eq_false, Bool.false_eq_true, reduceIte, Classical.not_not, Bool.and_eq_true, decide_eq_true_eq]
                        repeat (first | rw [if_pos (by omega)] | rw [if_neg (by omega)])
                        all_goals first | rfl | (exfalso; omega)
                      rw [hI, firstF_here (by omega) hf (by omega)]
                    | false =>
                      have h10 := of_decide_eq_false h10
                      refine c_if false rfl ?_
                      refine c_skip ?_
                      refine q_block_normal (q_then_normal ?_)
                      refine c_region ?_
                      refine JL_run 3 [] [5, 0, 1] 0 ⟨[(5, vI (((i : Nat) : Int) + 1)), (0, .v (.slice s.A s.n s.c)), (1, vI n)], []⟩ [inR (((i : Nat) : Int) + 1)] [] (by kernel_rfl) (oc (by unfold inR; omega) on) wn ?_
                      have hf0 : sessF (s.xs.map CSession.abs) n i = 0 := by
                        unfold sessF
                        simp only [hat, hq0, hq1, hq2, hq3]
                        try simp only [h1, h2, h3, h4, h5, h6, h7, h8, h9, h10, emp_size, ne_eq, not_true_eq_false, not_false_eq_true, true_or, or_true, false_or, or_false, and_true, true_and, and_false, false_and, and_self, or_self, if_true, if_false, Bool.true_eq_false, Bool.false_eq_true, reduceIte, Classical.not_not, Bool.and_eq_true, decide_eq_true_eq]
                        repeat (first | rw [if_pos (by omega)] | rw [if_neg (by omega)])
                        all_goals first | rfl | (exfalso; omega)
                      refine l_nil (q_loop (x := (i : Nat)) ((i + 1) : Nat) ⟨by omega, by rw [hI]; exact firstF_step (by omega) hf0⟩ (by omega) (s_start [5, 0, 1] 0 (by kernel_rfl) rfl))
                  | false =>
                    have h9 := of_decide_eq_false h9
                    refine h_quiet [] 10 [(64, vB false), (63, .v (undef)), (62, .v (undef)), (61, .v (undef)), (60, .v (undef)), (59, .v (undef)), (58, .v (undef)), (57, .v (undef)), (56, .v (undef)), (55, .v (undef)), (54, vB false), (53, vB false), (52, vI ((i : Nat) : Int)), (51, vB false), (6, .p 0 0), (5, vI ((i : Nat) : Int)), (0, .v (.slice s.A s.n s.c)), (1, vI n)] [] [] rfl rfl (by kernel_rfl) on wn ?_
                    refine h_nil ?_
                    refine l_nil (q_then_normal ?_)
                    refine c_if false rfl ?_
                    refine c_skip ?_
                    refine q_block_normal (q_then_normal ?_)
                    refine c_region ?_
                    refine JL_run 3 [] [5, 0, 1] 0 ⟨[(5, vI (((i : Nat) : Int) + 1)), (0, .v (.slice s.A s.n s.c)), (1, vI n)], []⟩ [inR (((i : Nat) : Int) + 1)] [] (by kernel_rfl) (oc (by unfold inR; omega) on) wn ?_
                    have hf0 : sessF (s.xs.map CSession.abs) n i = 0 := by
                      unfold sessF
                      simp only [hat, hq0, hq1, hq2, hq3]
                      try simp only [h1, h2, h3, h4, h5, h6, h7, h8, h9, emp_size, ne_eq, not_true_eq_false, not_false_eq_true, true_or, or_true, false_or, or_false, and_true, true_and, and_false, false_and, and_self, or_self, if_true, if_false, Bool.true_eq_false, Bool.false_eq_true, reduceIte, Classical.not_not, Bool.and_eq_true, decide_eq_true_eq]
                      repeat (first | rw [if_pos (by omega)] | rw [if_neg (by omega)])
                      all_goals first | rfl | (exfalso; omega)
                    refine l_nil (q_loop (x := (i : Nat)) ((i + 1) : Nat) ⟨by omega, by rw [hI]; exact firstF_step (by omega) hf0⟩ (by omega) (s_start [5, 0, 1] 0 (by kernel_rfl) rfl))
                | false =>
                  refine c_if true rfl ?_
                  refine c_seq ?_
                  refine c_region ?_
                  refine JL_run 1 [] [4] 0 ⟨[(4, vI 4)], []⟩ [] [] (by kernel_rfl) on wn ?_
                  refine l_nil (q_then_normal ?_)
                  refine c_ret ?_
                  refine q_then_ret (q_block_ret (q_then_ret (q_then_ret (q_block_ret (q_then_ret (q_ret (.inl rfl) [vI 4] rfl (fun bs w hS => ?_)))))))
                  refine ⟨?_, hS.kp⟩
                  simp only [retOf, den, List.map_cons, List.map_nil]
                  have hf : sessF (s.xs.map CSession.abs) n i = 4 := by
                    unfold sessF
                    simp only [hat, hq0, hq1, hq2, hq3]
                    try simp only [h1, h2, h3, h4, h5, h6, h7, h8, emp_size, ne_eq, not_true_eq_false, not_false_eq_true, true_or, or_true, false_or, or_false, and_true, true_and, and_false, false_and, and_self, or_self, if_true, if_false, Bool.true_eq_false, Bool.false_eq_true, reduceIte, Classical.not_not, Bool.and_eq_true, decide_eq_true_eq]
                    repeat (first | rw [if_pos (by omega)] | rw [if_neg (by omega)])
                    all_goals first | rfl | (exfalso; omega)
                  rw [hI, firstF_here (by omega) hf (by omega)]
              | false =>
                simp only [inB, Bool.and_eq_true, Bool.and_eq_false_iff, decide_eq_true_eq, decide_eq_false_iff_not] at h7
                refine c_if true rfl ?_
                refine c_seq ?_
                refine c_region ?_
                refine JL_run 1 [] [4] 0 ⟨[(4, vI 2)], []⟩ [] [] (by kernel_rfl) on wn ?_
                refine l_nil (q_then_normal ?_)
                refine c_ret ?_
                refine q_then_ret (q_block_ret (q_then_ret (q_then_ret (q_block_ret (q_then_ret (q_ret (.inl rfl) [vI 2] rfl (fun bs w hS => ?_)))))))
                refine ⟨?_, hS.kp⟩
                simp only [retOf, den, List.map_cons, List.map_nil]
                have hf : sessF (s.xs.map CSession.abs) n i = 2 := by
                  unfold sessF
                  simp only [hat, hq0, hq1, hq2, hq3]
                  try simp only [h1, h2, h3, h4, h5, h6, h7, emp_size, ne_eq, not_true_eq_false, not_false_eq_true, true_or, or_true, false_or, or_false, and_true, true_and, and_false, false_and, and_self, or_self, if_true, if_false, Bool.true_eq_false, Bool.false_eq_true, reduceIte, Classical.not_not, Bool.and_eq_true, decide_eq_true_eq]
                  repeat (first | rw [if_pos (by omega)] | rw [if_neg (by omega)])
                  all_goals first | rfl | (exfalso; omega)
                rw [hI, firstF_here (by omega) hf (by omega)]
            | false =>
              simp only [inB, Bool.and_eq_true, Bool.and_eq_false_iff, decide_eq_true_eq, decide_eq_false_iff_not] at h6
              refine JL_run 8 [] [48, 6, 5, 0, 1] 1 ⟨[(48, vB true), (6, .p 0 0), (5, vI ((i : Nat) : Int)), (0, .v (.slice s.A s.n s.c)), (1, vI n)], [⟨83, [vI (s.at i).client, vI (s.at i).id, vI (s.at i).acked, vI (s.at i).last, .v (.slice (s.at i).replies.A (s.at i).replies.n (s.at i).replies.c)]⟩]⟩ [] [] (by kernel_rfl) on wn ?_
              refine l_nil (q_then_normal ?_)
              refine c_if true rfl ?_
              refine c_seq ?_
              refine c_region ?_
              refine JL_run 1 [] [4] 0 ⟨[(4, vI 2)], []⟩ [] [] (by kernel_rfl) on wn ?_
              refine l_nil (q_then_normal ?_)
              refine c_ret ?_
              refine q_then_ret (q_block_ret (q_then_ret (q_then_ret (q_block_ret (q_then_ret (q_ret (.inl rfl) [vI 2] rfl (fun bs w hS => ?_)))))))
              refine ⟨?_, hS.kp⟩
              simp only [retOf, den, List.map_cons, List.map_nil]
              have hf : sessF (s.xs.map CSession.abs) n i = 2 := by
                unfold sessF
                simp only [hat, hq0, hq1, hq2, hq3]
                try simp only [h1, h2, h3, h4, h5, h6, emp_size, ne_eq, not_true_eq_false, not_false_eq_true, true_or, or_true, false_or, or_false, and_true, true_and, and_false, false_and, and_self, or_self, if_true, if_false, Bool.true_eq_false, Bool.false_eq_true, reduceIte, Classical.not_not, Bool.and_eq_true, decide_eq_true_eq]
                repeat (first | rw [if_pos (by omega)] | rw [if_neg (by omega)])
                all_goals first | rfl | (exfalso; omega)
              rw [hI, firstF_here (by omega) hf (by omega)]
          | false =>
            simp only [inB, Bool.and_eq_true, Bool.and_eq_false_iff, decide_eq_true_eq, decide_eq_false_iff_not] at h5
            refine JL_run 15 [] [48, 6, 5, 0, 1] 1 ⟨[(48, vB true), (6, .p 0 0), (5, vI ((i : Nat) : Int)), (0, .v (.slice s.A s.n s.c)), (1, vI n)], [⟨83, [vI (s.at i).client, vI (s.at i).id, vI (s.at i).acked, vI (s.at i).last, .v (.slice (s.at i).replies.A (s.at i).replies.n (s.at i).replies.c)]⟩]⟩ [] [] (by kernel_rfl) on wn ?_
            refine l_nil (q_then_normal ?_)
            refine c_if true rfl ?_
            refine c_seq ?_
            refine c_region ?_
            refine JL_run 1 [] [4] 0 ⟨[(4, vI 2)], []⟩ [] [] (by kernel_rfl) on wn ?_
            refine l_nil (q_then_normal ?_)
            refine c_ret ?_
            refine q_then_ret (q_block_ret (q_then_ret (q_then_ret (q_block_ret (q_then_ret (q_ret (.inl rfl) [vI 2] rfl (fun bs w hS => ?_)))))))
            refine ⟨?_, hS.kp⟩
            simp only [retOf, den, List.map_cons, List.map_nil]
            have hf : sessF (s.xs.map CSession.abs) n i = 2 := by
              unfold sessF
              simp only [hat, hq0, hq1, hq2, hq3]
              try simp only [h1, h2, h3, h4, h5, emp_size, ne_eq, not_true_eq_false, not_false_eq_true, true_or, or_true, false_or, or_false, and_true, true_and, and_false, false_and, and_self, or_self, if_true, if_false, Bool.true_eq_false, Bool.false_eq_true, reduceIte, Classical.not_not, Bool.and_eq_true, decide_eq_true_eq]
              repeat (first | rw [if_pos (by omega)] | rw [if_neg (by omega)])
              all_goals first | rfl | (exfalso; omega)
            rw [hI, firstF_here (by omega) hf (by omega)]
        | false =>
          simp only [inB, Bool.and_eq_true, Bool.and_eq_false_iff, decide_eq_true_eq, decide_eq_false_iff_not] at h4
          refine JL_run 21 [] [48, 6, 5, 0, 1] 1 ⟨[(48, vB true), (6, .p 0 0), (5, vI ((i : Nat) : Int)), (0, .v (.slice s.A s.n s.c)), (1, vI n)], [⟨83, [vI (s.at i).client, vI (s.at i).id, vI (s.at i).acked, vI (s.at i).last, .v (.slice (s.at i).replies.A (s.at i).replies.n (s.at i).replies.c)]⟩]⟩ [] [] (by kernel_rfl) on wn ?_
          refine l_nil (q_then_normal ?_)
          refine c_if true rfl ?_
          refine c_seq ?_
          refine c_region ?_
          refine JL_run 1 [] [4] 0 ⟨[(4, vI 2)], []⟩ [] [] (by kernel_rfl) on wn ?_
          refine l_nil (q_then_normal ?_)
          refine c_ret ?_
          refine q_then_ret (q_block_ret (q_then_ret (q_then_ret (q_block_ret (q_then_ret (q_ret (.inl rfl) [vI 2] rfl (fun bs w hS => ?_)))))))
          refine ⟨?_, hS.kp⟩
          simp only [retOf, den, List.map_cons, List.map_nil]
          have hf : sessF (s.xs.map CSession.abs) n i = 2 := by
            unfold sessF
            simp only [hat, hq0, hq1, hq2, hq3]
            try simp only [h1, h2, h3, h4, emp_size, ne_eq, not_true_eq_false, not_false_eq_true, true_or, or_true, false_or, or_false, and_true, true_and, and_false, false_and, and_self, or_self, if_true, if_false, Bool.true_eq_false, Bool.false_eq_true, reduceIte, Classical.not_not, Bool.and_eq_true, decide_eq_true_eq]
            repeat (first | rw [if_pos (by omega)] | rw [if_neg (by omega)])
            all_goals first | rfl | (exfalso; omega)
          rw [hI, firstF_here (by omega) hf (by omega)]
      | false =>
        have h3 := of_decide_eq_false h3
        refine c_if false rfl ?_
        refine c_exit ?_
        refine q_then_exit (q_then_exit (q_block_hit (q_then_normal ?_)))
        refine c_seq ?_
        refine c_region ?_
        refine JL_run 1 [] [4] 0 ⟨[(4, vI 0)], []⟩ [] [] (by kernel_rfl) on wn ?_
        refine l_nil (q_then_normal ?_)
        refine c_ret ?_
        refine q_ret (.inl rfl) [vI 0] rfl (fun bs w hS => ?_)
        refine ⟨?_, hS.kp⟩
        simp only [retOf, den, List.map_cons, List.map_nil]
        rw [hI, firstF_end (by omega)]
  | false =>
    simp only [inB, Bool.and_eq_true, Bool.and_eq_false_iff, decide_eq_true_eq, decide_eq_false_iff_not] at h1
    refine c_if true rfl ?_
    refine c_seq ?_
    refine c_region ?_
    refine JL_run 1 [] [4] 0 ⟨[(4, vI 2)], []⟩ [] [] (by kernel_rfl) on wn ?_
    refine l_nil (q_then_normal ?_)
    refine c_ret ?_
    refine q_then_ret (q_ret (.inl rfl) [vI 2] rfl (fun bs w hS => ?_))
    refine ⟨?_, hS.kp⟩
    simp only [retOf, den, List.map_cons, List.map_nil]
    have hm : mSess (s.xs.map CSession.abs) n = 2 := by
      unfold mSess; rw [hml]
      first | rw [if_pos (by omega)] | rw [if_neg (by omega), if_pos (by omega)]
    rw [hm]

theorem clone_Kept {B : Nat → Prop} (s : Sl DKept) (w : World) (hs : s.rd B w) (hb : s.n ≤ 1048576) : Calls Try.prog 68 #[.slice s.A s.n s.c] w fun e w' => ∃ y : Sl DKept, e = .returned y.val ∧ y.xs = s.xs ∧ Kp [] w w' ∧ Fresh w w' (rowA 100 y.A y.c y.xs) := by
  have oks := Sl.rd.ok hs
  have ncs := Sl.ok.nc oks
  have hns : s.n = s.xs.length := rfl
  refine calls_J0 8 Try.func68 rfl rfl [.slice s.A s.n s.c] rfl ?_
  refine c_seq ?_
  refine c_region ?_
  refine JL_run 1 [] [0] 0 ⟨[(0, .v (.slice s.A s.n s.c))], []⟩ [] [] (by kernel_rfl) on wn ?_
  refine l_nil (q_then_normal ?_)
  refine c_seq ?_
  refine c_seq ?_
  refine c_region ?_
  refine JL_run 2 [(1, .val (.bool s.A.isNone))] [4, 0] 0 ⟨[(4, vB s.A.isNone), (0, .v (.slice s.A s.n s.c))], []⟩ [∀ w, (do eqGuard .eql 81 (.tmp 3) (.const (.slice none 0 0)) (.slice s.A s.n s.c) (.slice none 0 0); binOp .eql 81 (.slice s.A s.n s.c) (.slice none 0 0) : Sem Value).run Try.prog w = .ok (.bool s.A.isNone) w] [] (by kernel_rfl) (oc (eq_nil Try.underlying81) on) wn ?_
  refine l_nil (q_then_normal ?_)
  cases h1 : s.A.isNone with
  | true =>
    refine c_if true rfl ?_
    refine c_seq ?_
    refine c_region ?_
    refine JL_run 1 [] [2] 0 ⟨[(2, .v (.slice none 0 0))], []⟩ [] [] (by kernel_rfl) on wn ?_
    refine l_nil (q_then_normal ?_)
    refine c_ret ?_
    refine q_then_ret (q_ret (.inl rfl) [.v (.slice none 0 0)] rfl (fun bs w hS => ?_))
    have hnil : s.xs = [] := Sl.ok.empty oks (by cases h : s.A <;> simp_all)
    exact ⟨Sl.nil, rfl, hnil.symm, hS.kp, rowA_nil 100 w⟩
  | false =>
    refine c_if false rfl ?_
    refine c_skip ?_
    refine q_then_normal ?_
    refine c_seq ?_
    refine c_region ?_
    refine l_row0A (α := DKept) 100 Try.underlying81 (by kernel_rfl) (by kernel_rfl) (by kernel_rfl) rfl ?_
    intro A1
    refine JL_run 1 [] [6, 5] 0 ⟨[(6, .v (.slice s.A s.n s.c)), (5, .v (.slice A1 ([] : List DKept).length 0))], []⟩ [] [] (by kernel_rfl) on wn ?_
    refine l_appendA (α := DKept) 100 40 A1 0 ([]) (.v (.slice s.A s.n s.c)) (s.xs) Try.underlying81 (by kernel_rfl) rfl rfl rfl (fun bs w hS => ⟨_, _, rfl, Sl.rd.src (s := s) (Sl.rd.kp hs hS.kp)⟩) (by simp only [List.length_nil]; omega) (by simp only [List.length_nil]; omega) ?_
    intro A2 c2
    refine JL_run 1 [] [2] 0 ⟨[(2, .v (.slice A2 ([] ++ s.xs).length c2))], []⟩ [] [] (by kernel_rfl) on wn ?_
    refine l_nil (q_then_normal ?_)
    refine c_ret ?_
    refine q_ret (.inl rfl) [.v (.slice A2 ([] ++ s.xs).length c2)] rfl (fun bs w hS => ?_)
    exact ⟨⟨A2, c2, [] ++ s.xs⟩, rfl, by simp, hS.kp, hS.out1⟩

theorem session_Copy {B : Nat → Prop} (s : Sl CSession) (w : World) (hs : s.rd B w) (hsm : Rds.small s) : Calls Try.prog 43 #[.slice s.A s.n s.c] w fun e w' => ∃ y : Sl CSession, e = .returned y.val ∧ y.xs.map CSession.abs = s.xs.map CSession.abs ∧ Kp [] w w' ∧ Fresh w w' (sessR 83 100 y) := by
  have oks := Sl.rd.ok hs
  have ncs := Sl.ok.nc oks
  refine calls_J0 22 Try.func43 rfl rfl [.slice s.A s.n s.c] rfl ?_
  refine c_seq ?_
  refine c_region ?_
  refine JL_run 1 [] [0] 0 ⟨[(0, .v (.slice s.A s.n s.c))], []⟩ [] [] (by kernel_rfl) on wn ?_
  refine l_nil (q_then_normal ?_)
  refine c_seq ?_
  refine c_region ?_
  refine JL_run 1 [] [3, 0] 0 ⟨[(3, .v (.slice none 0 0)), (0, .v (.slice s.A s.n s.c))], []⟩ [] [] (by kernel_rfl) on wn ?_
  refine l_nil (q_then_normal ?_)
  refine c_seq ?_
  refine c_seq ?_
  refine c_region ?_
  refine JL_run 3 [] [8, 7, 6, 3] 0 ⟨[(8, vI 0), (7, vI ((s.n : Nat) : Int)), (6, .v (.slice s.A s.n s.c)), (3, .v (.slice none 0 0))], []⟩ [] [] (by kernel_rfl) on wn ?_
  refine l_nil (q_then_normal ?_)
  refine c_block ?_
  refine c_rowA (α := CSession) 83 ?_
  refine c_nores (ownL (keptR 100) []) rfl (fun w x hx => by cases hx) ?_
  refine c_loop (σ := Nat × Option Addr × Nat × List CSession) (fun ⟨i, A, c, L⟩ => i ≤ s.n ∧ L.length = i ∧ L.map CSession.abs = (s.xs.take i).map CSession.abs) (fun ⟨i, A, c, L⟩ => s.n - i) (fun ⟨i, A, c, L⟩ => [ownL (keptR 100) L, rowA 83 A c (L : List CSession)]) (fun ⟨i, A, c, L⟩ => ⟨[(8, vI ((i : Nat) : Int)), (7, vI ((s.n : Nat) : Int)), (6, .v (.slice s.A s.n s.c)), (3, .v (.slice A L.length c))], []⟩) ⟨0, none, 0, []⟩ ⟨Nat.zero_le _, rfl, by simp⟩ (s_start [8, 7, 6, 3] 0 (by kernel_rfl) rfl) ?_
  rintro ⟨i, A, c, L⟩ ⟨hi, hL, hI⟩
  have hsn := hsm.1
  refine c_seq ?_
  refine c_region ?_
  refine JL_run 1 [] [9, 8, 7, 6, 3] 0 ⟨[(9, vB (decide (((i : Nat) : Int) < ((s.n : Nat) : Int)))), (8, vI ((i : Nat) : Int)), (7, vI ((s.n : Nat) : Int)), (6, .v (.slice s.A s.n s.c)), (3, .v (.slice A L.length c))], []⟩ [] [] (by kernel_rfl) on wn ?_
  refine l_nil (q_then_normal ?_)
  refine c_seq ?_
  cases h1 : decide (((i : Nat) : Int) < ((s.n : Nat) : Int)) with
  | true =>
    have h1 := of_decide_eq_true h1
    refine c_if true rfl ?_
    refine c_skip ?_
    refine q_then_normal ?_
    refine c_seq ?_
    refine c_block ?_
    refine c_seq ?_
    refine c_region ?_
    refine JL_run 4 [(0, .idx s.ad i), (1, .ext [.int .i64 (s.at i).client, .int .i64 (s.at i).id, .int .i64 (s.at i).acked, .int .i64 (s.at i).last, .slice (s.at i).replies.A (s.at i).replies.n (s.at i).replies.c])] [5, 8, 7, 6, 3] 1 ⟨[(5, .p 0 0), (8, vI ((i : Nat) : Int)), (7, vI ((s.n : Nat) : Int)), (6, .v (.slice s.A s.n s.c)), (3, .v (.slice A L.length c))], [⟨83, [vI (s.at i).client, vI (s.at i).id, vI (s.at i).acked, vI (s.at i).last, .v (.slice (s.at i).replies.A (s.at i).replies.n (s.at i).replies.c)]⟩]⟩ [s.A = some s.ad, ((i : Nat) : Int) = ((i : Nat) : Int), i < s.n] [(s.ad.add (i * 5), [.int .i64 (s.at i).client, .int .i64 (s.at i).id, .int .i64 (s.at i).acked, .int .i64 (s.at i).last, .slice (s.at i).replies.A (s.at i).replies.n (s.at i).replies.c])] (by kernel_rfl) (oc (Sl.ok.own (s := s) (i := i) oks (by omega)) (oc rfl (oc (by omega) on))) (fun w hk hr => ⟨(Sl.rd.all (s := s) (i := i) (Sl.rd.kp hs hk) (by omega) rfl), trivial⟩) ?_
    refine l_nil (q_then_normal ?_)
    refine c_seq ?_
    refine c_region ?_
    refine JL_run 2 [] [13, 5, 8, 7, 6, 3] 1 ⟨[(13, .v (.slice (s.at i).replies.A (s.at i).replies.n (s.at i).replies.c)), (5, .p 0 0), (8, vI ((i : Nat) : Int)), (7, vI ((s.n : Nat) : Int)), (6, .v (.slice s.A s.n s.c)), (3, .v (.slice A L.length c))], [⟨83, [vI (s.at i).client, vI (s.at i).id, vI (s.at i).acked, vI (s.at i).last, .v (.slice (s.at i).replies.A (s.at i).replies.n (s.at i).replies.c)]⟩]⟩ [] [] (by kernel_rfl) on wn ?_
    refine l_freshF (σ := Sl DKept) 68 [] [.v (.slice (s.at i).replies.A (s.at i).replies.n (s.at i).replies.c)] (fun y1 => .slice y1.A y1.n y1.c) (fun y1 => y1.xs = (s.at i).replies.xs) (fun y1 => rowA 100 y1.A y1.c (y1.xs : List DKept)) Try.call68 rfl rfl rfl rfl (fun bs w hS => clone_Kept (s.at i).replies w (Sl.rd.sub (s := s) (i := i) (Sl.rd.kp hs hS.kp) (by omega)) (hsm.2 i (by omega)).1) ?_
    rintro y1 hF1
    refine JL_run 2 [] [5, 8, 7, 6, 3] 1 ⟨[(5, .p 0 0), (8, vI ((i : Nat) : Int)), (7, vI ((s.n : Nat) : Int)), (6, .v (.slice s.A s.n s.c)), (3, .v (.slice A L.length c))], [⟨83, [vI (s.at i).client, vI (s.at i).id, vI (s.at i).acked, vI (s.at i).last, .v (.slice y1.A y1.n y1.c)]⟩]⟩ [] [] (by kernel_rfl) on wn ?_
    refine l_nil (q_then_normal ?_)
    refine c_region ?_
    refine JL_run 3 [] [18, 16, 8, 7, 6] 2 ⟨[(18, .s 1 0 1 1), (16, .v (.slice A L.length c)), (8, vI ((i : Nat) : Int)), (7, vI ((s.n : Nat) : Int)), (6, .v (.slice s.A s.n s.c))], [⟨83, [vI (s.at i).client, vI (s.at i).id, vI (s.at i).acked, vI (s.at i).last, .v (.slice y1.A y1.n y1.c)]⟩, ⟨83, [vI (s.at i).client, vI (s.at i).id, vI (s.at i).acked, vI (s.at i).last, .v (.slice y1.A y1.n y1.c)]⟩]⟩ [] [] (by kernel_rfl) on wn ?_
    refine l_perm (R' := [rowA 83 A c (L : List CSession), rowA 100 y1.A y1.c (y1.xs : List DKept), ownL (keptR 100) L]) (permfront 2 rfl) ?_
    refine l_appendA (α := CSession) 83 56 A c (L) (.s 1 0 1 1) ([(⟨(s.at i).client, (s.at i).id, (s.at i).acked, (s.at i).last, y1⟩ : CSession)]) Try.underlying24 (by kernel_rfl) rfl rfl rfl (fun bs w hS => by obtain ⟨q1, q2, q3, q4⟩ := src_loc (i := 1) (off := 0) (k := 1) (c := 1) (q := 5) (vs := [.int .i64 (s.at i).client, .int .i64 (s.at i).id, .int .i64 (s.at i).acked, .int .i64 (s.at i).last, .slice y1.A y1.n y1.c]) hS rfl rfl; exact ⟨some q1, q2, q3, q4⟩) (by first | omega | (simp only [List.length_nil, List.length_cons, List.length_append]; omega) | (have hq := (hsm.2 i (by omega)).1; simp only [Sl.n, List.length_nil] at hq ⊢; omega)) (by first | omega | (simp only [List.length_nil, List.length_cons, List.length_append]; omega) | (have hq := (hsm.2 i (by omega)).1; simp only [Sl.n, List.length_nil] at hq ⊢; omega)) ?_
    intro A3 c3
    refine JL_run 1 [] [3, 8, 7, 6] 0 ⟨[(3, .v (.slice A3 (L ++ [(⟨(s.at i).client, (s.at i).id, (s.at i).acked, (s.at i).last, y1⟩ : CSession)]).length c3)), (8, vI ((i : Nat) : Int)), (7, vI ((s.n : Nat) : Int)), (6, .v (.slice s.A s.n s.c))], []⟩ [] [] (by kernel_rfl) on wn ?_
    refine l_nil (q_block_normal (q_then_normal ?_))
    refine c_region ?_
    refine JL_run 2 [] [8, 3, 7, 6] 0 ⟨[(8, vI (((i : Nat) : Int) + 1)), (3, .v (.slice A3 (L ++ [(⟨(s.at i).client, (s.at i).id, (s.at i).acked, (s.at i).last, y1⟩ : CSession)]).length c3)), (7, vI ((s.n : Nat) : Int)), (6, .v (.slice s.A s.n s.c))], []⟩ [inR (((i : Nat) : Int) + 1)] [] (by kernel_rfl) (oc (by unfold inR; omega) on) wn ?_
    refine l_perm (R' := [rowA 100 y1.A y1.c (y1.xs : List DKept), ownL (keptR 100) L, rowA 83 A3 c3 (L ++ [(⟨(s.at i).client, (s.at i).id, (s.at i).acked, (s.at i).last, y1⟩ : CSession)] : List CSession)]) (by exact perm3 0 _ _ _) ?_
    refine l_join (ownL (keptR 100) (L ++ [(⟨(s.at i).client, (s.at i).id, (s.at i).acked, (s.at i).last, y1⟩ : CSession)])) (ownL_app_fp (keptR 100) L (⟨(s.at i).client, (s.at i).id, (s.at i).acked, (s.at i).last, y1⟩ : CSession)) (fun w => ownL_app_p (keptR 100) L (⟨(s.at i).client, (s.at i).id, (s.at i).acked, (s.at i).last, y1⟩ : CSession) w) ?_
    refine l_nil (q_loop (x := (⟨i, A, c, L⟩ : Nat × Option Addr × Nat × List CSession)) (⟨i + 1, A3, c3, L ++ [(⟨(s.at i).client, (s.at i).id, (s.at i).acked, (s.at i).last, y1⟩ : CSession)]⟩ : Nat × Option Addr × Nat × List CSession) ⟨by omega, by rw [List.length_append]; simp [hL], map_take_snoc (by omega) hI (by first | simp [CSession.abs, hF1] | simp [CSession.abs])⟩ (by show s.n - (i + 1) < s.n - i; omega) (s_start [8, 7, 6, 3] 0 (by kernel_rfl) rfl))
  | false =>
    have h1 := of_decide_eq_false h1
    refine c_if false rfl ?_
    refine c_exit ?_
    refine q_then_exit (q_then_exit (q_block_hit (q_then_normal ?_)))
    refine c_seq ?_
    refine c_region ?_
    refine JL_run 2 [] [2] 0 ⟨[(2, .v (.slice A L.length c))], []⟩ [] [] (by kernel_rfl) on wn ?_
    refine l_nil (q_then_normal ?_)
    refine c_ret ?_
    refine q_ret (.inl rfl) [.v (.slice A L.length c)] rfl (fun bs w hS => ?_)
    have hn : L.length = s.n := by omega
    exact ⟨⟨A, c, L⟩, rfl, by rw [hI, take_all (by omega)], hS.kp, hS.out⟩
theorem session_CopyS {B : Nat → Prop} (s : Sl CSession) (w : World) (hs : s.rd B w) (hsm : Rds.small s) : Calls Try.prog 43 #[.slice s.A s.n s.c] w fun e w' => ∃ y : Sl CSession, e = .returned y.val ∧ y.xs.map CSession.abs = s.xs.map CSession.abs ∧ FreshS w w' y :=
  (session_Copy s w hs hsm).mono fun e w' ⟨y, h1, h2, h3, h4⟩ => ⟨y, h1, h2, h3, h4.sub fun hp => sessR_rd hp (sess_texts hs h2)⟩

theorem same_sessions {B B' : Nat → Prop} (a b : Sl CSession) (w : World) (ha : a.rd B w) (hb : b.rd B' w) (he : a.xs.map CSession.abs = b.xs.map CSession.abs) : Calls Try.prog 38 #[.slice a.A a.n a.c, .slice b.A b.n b.c] w fun e w' => e = .returned (.bool true) ∧ Kp [] w w' := by
  have oka := Sl.rd.ok ha
  have okb := Sl.rd.ok hb
  have hn := map_n he
  have nca := Sl.ok.nc oka
  refine calls_J0 81 Try.func38 rfl rfl [.slice a.A a.n a.c, .slice b.A b.n b.c] rfl ?_
  refine c_seq ?_
  refine c_region ?_
  refine JL_run 1 [] [0, 1] 0 ⟨[(0, .v (.slice a.A a.n a.c)), (1, .v (.slice b.A b.n b.c))], []⟩ [] [] (by kernel_rfl) on wn ?_
  refine l_nil (q_then_normal ?_)
  refine c_seq ?_
  refine c_seq ?_
  refine c_region ?_
  refine JL_run 5 [] [13, 0, 1] 0 ⟨[(13, vB (!(decide (((a.n : Nat) : Int) = ((b.n : Nat) : Int))))), (0, .v (.slice a.A a.n a.c)), (1, .v (.slice b.A b.n b.c))], []⟩ [] [] (by kernel_rfl) on wn ?_
  refine l_nil (q_then_normal ?_)
  cases h1 : decide (((a.n : Nat) : Int) = ((b.n : Nat) : Int)) with
  | true =>
    have h1 := of_decide_eq_true h1
    refine c_if false rfl ?_
    refine c_skip ?_
    refine q_then_normal ?_
    refine c_seq ?_
    refine c_seq ?_
    refine c_region ?_
    refine JL_run 1 [] [5, 0, 1] 0 ⟨[(5, vI 0), (0, .v (.slice a.A a.n a.c)), (1, .v (.slice b.A b.n b.c))], []⟩ [] [] (by kernel_rfl) on wn ?_
    refine l_nil (q_then_normal ?_)
    refine c_block ?_
    refine c_loop (σ := Nat) (fun i => True) (fun i => a.n - i) (fun i => []) (fun i => ⟨[(5, vI ((i : Nat) : Int)), (0, .v (.slice a.A a.n a.c)), (1, .v (.slice b.A b.n b.c))], []⟩) 0 trivial (s_start [5, 0, 1] 0 (by kernel_rfl) rfl) ?_
    rintro i _
    have hat := map_at (f := CSession.abs) (g := CSession.abs) rfl he i
    have q0 : (a.at i).client = (b.at i).client := congrArg DSession.client hat
    have q1 : (a.at i).id = (b.at i).id := congrArg DSession.id hat
    have q2 : (a.at i).acked = (b.at i).acked := congrArg DSession.acked hat
    have q3 : (a.at i).last = (b.at i).last := congrArg DSession.last hat
    have q4 : (a.at i).replies.xs = (b.at i).replies.xs := congrArg DSession.replies hat
    have q5 := xs_n q4
    refine c_seq ?_
    refine c_seq ?_
    refine c_region ?_
    refine JL_run 4 [] [17, 5, 0, 1] 0 ⟨[(17, vB (decide (((i : Nat) : Int) < ((a.n : Nat) : Int)))), (5, vI ((i : Nat) : Int)), (0, .v (.slice a.A a.n a.c)), (1, .v (.slice b.A b.n b.c))], []⟩ [] [] (by kernel_rfl) on wn ?_
    refine l_nil (q_then_normal ?_)
    cases h2 : decide (((i : Nat) : Int) < ((a.n : Nat) : Int)) with
    | true =>
      have h2 := of_decide_eq_true h2
      refine c_if true rfl ?_
      refine c_skip ?_
      refine q_then_normal ?_
      refine c_seq ?_
      refine c_block ?_
      refine c_seq ?_
      refine c_region ?_
      refine JL_run 6 [(2, .idx a.ad i), (3, .ext [.int .i64 (a.at i).client, .int .i64 (a.at i).id, .int .i64 (a.at i).acked, .int .i64 (a.at i).last, .slice (a.at i).replies.A (a.at i).replies.n (a.at i).replies.c])] [6, 5, 0, 1] 1 ⟨[(6, .p 0 0), (5, vI ((i : Nat) : Int)), (0, .v (.slice a.A a.n a.c)), (1, .v (.slice b.A b.n b.c))], [⟨83, [vI (a.at i).client, vI (a.at i).id, vI (a.at i).acked, vI (a.at i).last, .v (.slice (a.at i).replies.A (a.at i).replies.n (a.at i).replies.c)]⟩]⟩ [a.A = some a.ad, ((i : Nat) : Int) = ((i : Nat) : Int), i < a.n] [(a.ad.add (i * 5), [.int .i64 (a.at i).client, .int .i64 (a.at i).id, .int .i64 (a.at i).acked, .int .i64 (a.at i).last, .slice (a.at i).replies.A (a.at i).replies.n (a.at i).replies.c])] (by kernel_rfl) (oc (Sl.ok.own (s := a) (i := i) oka (by omega)) (oc rfl (oc (by omega) on))) (fun w hk hr => ⟨(Sl.rd.all (s := a) (i := i) (Sl.rd.kp ha hk) (by omega) rfl), trivial⟩) ?_
      refine l_nil (q_then_normal ?_)
      refine c_seq ?_
      refine c_region ?_
      refine JL_run 6 [(2, .idx b.ad i), (3, .ext [.int .i64 (b.at i).client, .int .i64 (b.at i).id, .int .i64 (b.at i).acked, .int .i64 (b.at i).last, .slice (b.at i).replies.A (b.at i).replies.n (b.at i).replies.c])] [7, 6, 5, 0, 1] 2 ⟨[(7, .p 1 0), (6, .p 0 0), (5, vI ((i : Nat) : Int)), (0, .v (.slice a.A a.n a.c)), (1, .v (.slice b.A b.n b.c))], [⟨83, [vI (a.at i).client, vI (a.at i).id, vI (a.at i).acked, vI (a.at i).last, .v (.slice (a.at i).replies.A (a.at i).replies.n (a.at i).replies.c)]⟩, ⟨83, [vI (b.at i).client, vI (b.at i).id, vI (b.at i).acked, vI (b.at i).last, .v (.slice (b.at i).replies.A (b.at i).replies.n (b.at i).replies.c)]⟩]⟩ [b.A = some b.ad, ((i : Nat) : Int) = ((i : Nat) : Int), i < b.n] [(b.ad.add (i * 5), [.int .i64 (b.at i).client, .int .i64 (b.at i).id, .int .i64 (b.at i).acked, .int .i64 (b.at i).last, .slice (b.at i).replies.A (b.at i).replies.n (b.at i).replies.c])] (by kernel_rfl) (oc (Sl.ok.own (s := b) (i := i) okb (by omega)) (oc rfl (oc (by omega) on))) (fun w hk hr => ⟨(Sl.rd.all (s := b) (i := i) (Sl.rd.kp hb hk) (by omega) rfl), trivial⟩) ?_
      refine l_nil (q_then_normal ?_)
      refine c_seq ?_
      refine c_seq ?_
      refine c_region ?_
      refine JL_run 6 [] [33, 7, 6, 5, 0, 1] 2 ⟨[(33, vB (!(decide ((a.at i).client = (b.at i).client)))), (7, .p 1 0), (6, .p 0 0), (5, vI ((i : Nat) : Int)), (0, .v (.slice a.A a.n a.c)), (1, .v (.slice b.A b.n b.c))], [⟨83, [vI (a.at i).client, vI (a.at i).id, vI (a.at i).acked, vI (a.at i).last, .v (.slice (a.at i).replies.A (a.at i).replies.n (a.at i).replies.c)]⟩, ⟨83, [vI (b.at i).client, vI (b.at i).id, vI (b.at i).acked, vI (b.at i).last, .v (.slice (b.at i).replies.A (b.at i).replies.n (b.at i).replies.c)]⟩]⟩ [] [] (by kernel_rfl) on wn ?_
      cases h3 : decide ((a.at i).client = (b.at i).client) with
      | true =>
        have h3 := of_decide_eq_true h3
        refine JL_run 7 [] [40, 7, 6, 5, 0, 1] 2 ⟨[(40, vB (!(decide ((a.at i).id = (b.at i).id)))), (7, .p 1 0), (6, .p 0 0), (5, vI ((i : Nat) : Int)), (0, .v (.slice a.A a.n a.c)), (1, .v (.slice b.A b.n b.c))], [⟨83, [vI (a.at i).client, vI (a.at i).id, vI (a.at i).acked, vI (a.at i).last, .v (.slice (a.at i).replies.A (a.at i).replies.n (a.at i).replies.c)]⟩, ⟨83, [vI (b.at i).client, vI (b.at i).id, vI (b.at i).acked, vI (b.at i).last, .v (.slice (b.at i).replies.A (b.at i).replies.n (b.at i).replies.c)]⟩]⟩ [] [] (by kernel_rfl) on wn ?_
        cases h4 : decide ((a.at i).id = (b.at i).id) with
        | true =>
          have h4 := of_decide_eq_true h4
          refine JL_run 7 [] [47, 7, 6, 5, 0, 1] 2 ⟨[(47, vB (!(decide ((a.at i).acked = (b.at i).acked)))), (7, .p 1 0), (6, .p 0 0), (5, vI ((i : Nat) : Int)), (0, .v (.slice a.A a.n a.c)), (1, .v (.slice b.A b.n b.c))], [⟨83, [vI (a.at i).client, vI (a.at i).id, vI (a.at i).acked, vI (a.at i).last, .v (.slice (a.at i).replies.A (a.at i).replies.n (a.at i).replies.c)]⟩, ⟨83, [vI (b.at i).client, vI (b.at i).id, vI (b.at i).acked, vI (b.at i).last, .v (.slice (b.at i).replies.A (b.at i).replies.n (b.at i).replies.c)]⟩]⟩ [] [] (by kernel_rfl) on wn ?_
          cases h5 : decide ((a.at i).acked = (b.at i).acked) with
          | true =>
            have h5 := of_decide_eq_true h5
            refine JL_run 7 [] [54, 7, 6, 5, 0, 1] 2 ⟨[(54, vB (!(decide ((a.at i).last = (b.at i).last)))), (7, .p 1 0), (6, .p 0 0), (5, vI ((i : Nat) : Int)), (0, .v (.slice a.A a.n a.c)), (1, .v (.slice b.A b.n b.c))], [⟨83, [vI (a.at i).client, vI (a.at i).id, vI (a.at i).acked, vI (a.at i).last, .v (.slice (a.at i).replies.A (a.at i).replies.n (a.at i).replies.c)]⟩, ⟨83, [vI (b.at i).client, vI (b.at i).id, vI (b.at i).acked, vI (b.at i).last, .v (.slice (b.at i).replies.A (b.at i).replies.n (b.at i).replies.c)]⟩]⟩ [] [] (by kernel_rfl) on wn ?_
            cases h6 : decide ((a.at i).last = (b.at i).last) with
            | true =>
              have h6 := of_decide_eq_true h6
              refine JL_run 8 [] [62, 7, 6, 5, 0, 1] 2 ⟨[(62, vB (!(decide ((((a.at i).replies.n : Nat) : Int) = (((b.at i).replies.n : Nat) : Int))))), (7, .p 1 0), (6, .p 0 0), (5, vI ((i : Nat) : Int)), (0, .v (.slice a.A a.n a.c)), (1, .v (.slice b.A b.n b.c))], [⟨83, [vI (a.at i).client, vI (a.at i).id, vI (a.at i).acked, vI (a.at i).last, .v (.slice (a.at i).replies.A (a.at i).replies.n (a.at i).replies.c)]⟩, ⟨83, [vI (b.at i).client, vI (b.at i).id, vI (b.at i).acked, vI (b.at i).last, .v (.slice (b.at i).replies.A (b.at i).replies.n (b.at i).replies.c)]⟩]⟩ [] [] (by kernel_rfl) on wn ?_
              refine l_nil (q_then_normal ?_)
              cases h7 : decide ((((a.at i).replies.n : Nat) : Int) = (((b.at i).replies.n : Nat) : Int)) with
              | true =>
                have h7 := of_decide_eq_true h7
                refine c_if false rfl ?_
                refine c_skip ?_
                refine q_then_normal ?_
                refine c_seq ?_
                refine c_region ?_
                refine JL_run 1 [] [8, 7, 6, 5, 0, 1] 2 ⟨[(8, vI 0), (7, .p 1 0), (6, .p 0 0), (5, vI ((i : Nat) : Int)), (0, .v (.slice a.A a.n a.c)), (1, .v (.slice b.A b.n b.c))], [⟨83, [vI (a.at i).client, vI (a.at i).id, vI (a.at i).acked, vI (a.at i).last, .v (.slice (a.at i).replies.A (a.at i).replies.n (a.at i).replies.c)]⟩, ⟨83, [vI (b.at i).client, vI (b.at i).id, vI (b.at i).acked, vI (b.at i).last, .v (.slice (b.at i).replies.A (b.at i).replies.n (b.at i).replies.c)]⟩]⟩ [] [] (by kernel_rfl) on wn ?_
                refine l_nil (q_then_normal ?_)
                refine c_block ?_
                refine c_loop (σ := Nat) (fun j => True) (fun j => (a.at i).replies.n - j) (fun j => []) (fun j => ⟨[(8, vI ((j : Nat) : Int)), (7, .p 1 0), (6, .p 0 0), (5, vI ((i : Nat) : Int)), (0, .v (.slice a.A a.n a.c)), (1, .v (.slice b.A b.n b.c))], [⟨83, [vI (a.at i).client, vI (a.at i).id, vI (a.at i).acked, vI (a.at i).last, .v (.slice (a.at i).replies.A (a.at i).replies.n (a.at i).replies.c)]⟩, ⟨83, [vI (b.at i).client, vI (b.at i).id, vI (b.at i).acked, vI (b.at i).last, .v (.slice (b.at i).replies.A (b.at i).replies.n (b.at i).replies.c)]⟩]⟩) 0 trivial (s_start [8, 7, 6, 5, 0, 1] 2 (by kernel_rfl) rfl) ?_
                rintro j _
                have hbt := xs_at q4 j
                have ncr := Sl.ok.nc (Sl.ok.at oka (show i < a.n by omega))
                refine c_seq ?_
                refine c_seq ?_
                refine c_region ?_
                refine JL_run 5 [] [67, 8, 7, 6, 5, 0, 1] 2 ⟨[(67, vB (decide (((j : Nat) : Int) < (((a.at i).replies.n : Nat) : Int)))), (8, vI ((j : Nat) : Int)), (7, .p 1 0), (6, .p 0 0), (5, vI ((i : Nat) : Int)), (0, .v (.slice a.A a.n a.c)), (1, .v (.slice b.A b.n b.c))], [⟨83, [vI (a.at i).client, vI (a.at i).id, vI (a.at i).acked, vI (a.at i).last, .v (.slice (a.at i).replies.A (a.at i).replies.n (a.at i).replies.c)]⟩, ⟨83, [vI (b.at i).client, vI (b.at i).id, vI (b.at i).acked, vI (b.at i).last, .v (.slice (b.at i).replies.A (b.at i).replies.n (b.at i).replies.c)]⟩]⟩ [] [] (by kernel_rfl) on wn ?_
                refine l_nil (q_then_normal ?_)
                cases h8 : decide (((j : Nat) : Int) < (((a.at i).replies.n : Nat) : Int)) with
                | true =>
                  have h8 := of_decide_eq_true h8
                  refine c_if true rfl ?_
                  refine c_skip ?_
                  refine q_then_normal ?_
                  refine c_seq ?_
                  refine c_block ?_
                  refine c_seq ?_
                  refine c_draw 11 [(0, false), (1, false), (2, false), (3, false), (4, false), (5, false), (6, false), (7, false), (8, false), (9, false), (10, false)] [] [] Try_mixed (by kernel_rfl) (pq_then (pq_block (pq_then (pq_then (pq_block (pq_block (pq_then (pq_then (pq_block (pq_then pq_body)))))))))) (List.Sublist.refl _) ?_
                  refine h_quiet [(3, .idx (a.at i).replies.ad j), (4, .ext [.int .i64 ((a.at i).replies.at j).seq, .int .i64 ((a.at i).replies.at j).reply.code, .int .i64 ((a.at i).replies.at j).reply.n, .string ((a.at i).replies.at j).reply.text]), (8, .idx (b.at i).replies.ad j), (9, .ext [.int .i64 ((b.at i).replies.at j).seq, .int .i64 ((b.at i).replies.at j).reply.code, .int .i64 ((b.at i).replies.at j).reply.n, .string ((b.at i).replies.at j).reply.text]), (10, .val (.bool (!((decide (((a.at i).replies.at j).seq = ((b.at i).replies.at j).seq)) && (((decide (((a.at i).replies.at j).reply.code = ((b.at i).replies.at j).reply.code)) && ((decide (((a.at i).replies.at j).reply.n = ((b.at i).replies.at j).reply.n)) && ((decide (((a.at i).replies.at j).reply.text = ((b.at i).replies.at j).reply.text)) && true))) && true)))))] 11 [(80, vB (!((decide (((a.at i).replies.at j).seq = ((b.at i).replies.at j).seq)) && (((decide (((a.at i).replies.at j).reply.code = ((b.at i).replies.at j).reply.code)) && ((decide (((a.at i).replies.at j).reply.n = ((b.at i).replies.at j).reply.n)) && ((decide (((a.at i).replies.at j).reply.text = ((b.at i).replies.at j).reply.text)) && true))) && true)))), (79, .v (.agg #[.int .i64 ((b.at i).replies.at j).seq, .int .i64 ((b.at i).replies.at j).reply.code, .int .i64 ((b.at i).replies.at j).reply.n, .string ((b.at i).replies.at j).reply.text])), (78, .v (.pointer (some ((b.at i).replies.ad.add (j * 4))))), (77, vI ((j : Nat) : Int)), (76, .v (.slice (b.at i).replies.A (b.at i).replies.n (b.at i).replies.c)), (75, .p 1 4), (74, .v (.agg #[.int .i64 ((a.at i).replies.at j).seq, .int .i64 ((a.at i).replies.at j).reply.code, .int .i64 ((a.at i).replies.at j).reply.n, .string ((a.at i).replies.at j).reply.text])), (73, .v (.pointer (some ((a.at i).replies.ad.add (j * 4))))), (72, vI ((j : Nat) : Int)), (71, .v (.slice (a.at i).replies.A (a.at i).replies.n (a.at i).replies.c)), (70, .p 0 4), (67, vB true), (8, vI ((j : Nat) : Int)), (7, .p 1 0), (6, .p 0 0), (5, vI ((i : Nat) : Int)), (0, .v (.slice a.A a.n a.c)), (1, .v (.slice b.A b.n b.c))] [(a.at i).replies.A = some (a.at i).replies.ad, ((j : Nat) : Int) = ((j : Nat) : Int), j < (a.at i).replies.n, (b.at i).replies.A = some (b.at i).replies.ad, ((j : Nat) : Int) = ((j : Nat) : Int), j < (b.at i).replies.n, ∀ w, (do eqGuard .neq 100 (.tmp 74) (.tmp 79) (.agg #[.int .i64 ((a.at i).replies.at j).seq, .int .i64 ((a.at i).replies.at j).reply.code, .int .i64 ((a.at i).replies.at j).reply.n, .string ((a.at i).replies.at j).reply.text]) (.agg #[.int .i64 ((b.at i).replies.at j).seq, .int .i64 ((b.at i).replies.at j).reply.code, .int .i64 ((b.at i).replies.at j).reply.n, .string ((b.at i).replies.at j).reply.text]); binOp .neq 100 (.agg #[.int .i64 ((a.at i).replies.at j).seq, .int .i64 ((a.at i).replies.at j).reply.code, .int .i64 ((a.at i).replies.at j).reply.n, .string ((a.at i).replies.at j).reply.text]) (.agg #[.int .i64 ((b.at i).replies.at j).seq, .int .i64 ((b.at i).replies.at j).reply.code, .int .i64 ((b.at i).replies.at j).reply.n, .string ((b.at i).replies.at j).reply.text]) : Sem Value).run Try.prog w = .ok (.bool (!((decide (((a.at i).replies.at j).seq = ((b.at i).replies.at j).seq)) && (((decide (((a.at i).replies.at j).reply.code = ((b.at i).replies.at j).reply.code)) && ((decide (((a.at i).replies.at j).reply.n = ((b.at i).replies.at j).reply.n)) && ((decide (((a.at i).replies.at j).reply.text = ((b.at i).replies.at j).reply.text)) && true))) && true)))) w] [((a.at i).replies.ad.add (j * 4), [.int .i64 ((a.at i).replies.at j).seq, .int .i64 ((a.at i).replies.at j).reply.code, .int .i64 ((a.at i).replies.at j).reply.n, .string ((a.at i).replies.at j).reply.text]), ((b.at i).replies.ad.add (j * 4), [.int .i64 ((b.at i).replies.at j).seq, .int .i64 ((b.at i).replies.at j).reply.code, .int .i64 ((b.at i).replies.at j).reply.n, .string ((b.at i).replies.at j).reply.text])] rfl rfl (by kernel_rfl) (oc (Sl.ok.own (s := (a.at i).replies) (i := j) (Sl.ok.at (s := a) (i := i) oka (by omega)) (by omega)) (oc rfl (oc (by omega) (oc (Sl.ok.own (s := (b.at i).replies) (i := j) (Sl.ok.at (s := b) (i := i) okb (by omega)) (by omega)) (oc rfl (oc (by omega) (oc (neq_agg (by kernel_rfl) (by kernel_rfl)) on))))))) (fun w hk hr => ⟨(Sl.rd.all (s := (a.at i).replies) (i := j) (Sl.rd.sub (s := a) (i := i) (Sl.rd.kp ha hk) (by omega)) (by omega) rfl), ⟨(Sl.rd.all (s := (b.at i).replies) (i := j) (Sl.rd.sub (s := b) (i := i) (Sl.rd.kp hb hk) (by omega)) (by omega) rfl), trivial⟩⟩) ?_
                  refine h_nil ?_
                  refine l_nil (q_then_normal ?_)
                  cases h9 : (decide (((a.at i).replies.at j).seq = ((b.at i).replies.at j).seq)) && (((decide (((a.at i).replies.at j).reply.code = ((b.at i).replies.at j).reply.code)) && ((decide (((a.at i).replies.at j).reply.n = ((b.at i).replies.at j).reply.n)) && ((decide (((a.at i).replies.at j).reply.text = ((b.at i).replies.at j).reply.text)) && true))) && true) with
                  | true =>
                    refine c_if false rfl ?_
                    refine c_skip ?_
                    refine q_block_normal (q_then_normal ?_)
                    refine c_region ?_
                    refine JL_run 3 [] [8, 7, 6, 5, 0, 1] 2 ⟨[(8, vI (((j : Nat) : Int) + 1)), (7, .p 1 0), (6, .p 0 0), (5, vI ((i : Nat) : Int)), (0, .v (.slice a.A a.n a.c)), (1, .v (.slice b.A b.n b.c))], [⟨83, [vI (a.at i).client, vI (a.at i).id, vI (a.at i).acked, vI (a.at i).last, .v (.slice (a.at i).replies.A (a.at i).replies.n (a.at i).replies.c)]⟩, ⟨83, [vI (b.at i).client, vI (b.at i).id, vI (b.at i).acked, vI (b.at i).last, .v (.slice (b.at i).replies.A (b.at i).replies.n (b.at i).replies.c)]⟩]⟩ [inR (((j : Nat) : Int) + 1)] [] (by kernel_rfl) (oc (by unfold inR; omega) on) wn ?_
                    refine l_nil (q_loop (x := (j : Nat)) ((j + 1) : Nat) trivial (by omega) (s_start [8, 7, 6, 5, 0, 1] 2 (by kernel_rfl) rfl))
                  | false =>
                    exfalso; first | omega | (rw [hbt] at h9; simp at h9)
                | false =>
                  have h8 := of_decide_eq_false h8
                  refine c_if false rfl ?_
                  refine c_exit ?_
                  refine q_then_exit (q_then_exit (q_block_hit (q_block_normal (q_then_normal ?_))))
                  refine c_region ?_
                  refine JL_run 3 [] [5, 0, 1] 0 ⟨[(5, vI (((i : Nat) : Int) + 1)), (0, .v (.slice a.A a.n a.c)), (1, .v (.slice b.A b.n b.c))], []⟩ [inR (((i : Nat) : Int) + 1)] [] (by kernel_rfl) (oc (by unfold inR; omega) on) wn ?_
                  refine l_nil (q_loop (x := (i : Nat)) ((i + 1) : Nat) trivial (by omega) (s_start [5, 0, 1] 0 (by kernel_rfl) rfl))
              | false =>
                have h7 := of_decide_eq_false h7
                exfalso; first | omega | (rw [hbt] at h7; simp at h7)
            | false =>
              have h6 := of_decide_eq_false h6
              exfalso; first | omega | (rw [hbt] at h6; simp at h6)
          | false =>
            have h5 := of_decide_eq_false h5
            exfalso; first | omega | (rw [hbt] at h5; simp at h5)
        | false =>
          have h4 := of_decide_eq_false h4
          exfalso; first | omega | (rw [hbt] at h4; simp at h4)
      | false =>
        have h3 := of_decide_eq_false h3
        exfalso; first | omega | (rw [hbt] at h3; simp at h3)
    | false =>
      have h2 := of_decide_eq_false h2
      refine c_if false rfl ?_
      refine c_exit ?_
      refine q_then_exit (q_then_exit (q_block_hit (q_then_normal ?_)))
      refine c_seq ?_
      refine c_region ?_
      refine JL_run 1 [] [4] 0 ⟨[(4, vB true)], []⟩ [] [] (by kernel_rfl) on wn ?_
      refine l_nil (q_then_normal ?_)
      refine c_ret ?_
      refine q_ret (.inl rfl) [vB true] rfl (fun bs w hS => ?_)
      exact ⟨rfl, hS.kp⟩
  | false =>
    have h1 := of_decide_eq_false h1
    exfalso; first | omega | (rw [hbt] at h1; simp at h1)

theorem idxF_Session {B : Nat → Prop} (s : Sl (Fl CSession)) (p : Fl CSession → Bool) (kf : Nat) (caps : Array Value) (w : World) (hs : s.rd B w) (hcall : ∀ args w, (callFunc kf args).run Try.prog w = .ok (.enter kf args) w)
    (hf : ∀ (w' : World) (x : (Fl CSession)), x ∈ s.xs → Kp [] w w' → Calls Try.prog kf (#[.agg #[.int .i64 x.v.client, .int .i64 x.v.id, .int .i64 x.v.acked, .int .i64 x.v.last, .slice x.v.replies.A x.v.replies.n x.v.replies.c]] ++ caps) w' fun e w'' => e = .returned (.bool (p x)) ∧ Kp [] w' w'') : Calls Try.prog 78 #[.slice s.A s.n s.c, .func (.func kf) #[] caps] w fun e w' => e = .returned (.int .i64 (mIdx p s.xs)) ∧ Kp [] w w' := by
  have oks := Sl.rd.ok hs
  have ncs := Sl.ok.nc oks
  have hns : s.n = s.xs.length := rfl
  refine calls_J0 19 Try.func78 rfl rfl [.slice s.A s.n s.c, .func (.func kf) #[] caps] rfl ?_
  refine c_seq ?_
  refine c_region ?_
  refine JL_run 1 [] [0, 1] 0 ⟨[(0, .v (.slice s.A s.n s.c)), (1, .v (.func (.func kf) #[] caps))], []⟩ [] [] (by kernel_rfl) on wn ?_
  refine l_nil (q_then_normal ?_)
  refine c_seq ?_
  refine c_seq ?_
  refine c_region ?_
  refine JL_run 3 [] [8, 7, 0, 1] 0 ⟨[(8, vI 0), (7, vI ((s.n : Nat) : Int)), (0, .v (.slice s.A s.n s.c)), (1, .v (.func (.func kf) #[] caps))], []⟩ [] [] (by kernel_rfl) on wn ?_
  refine l_nil (q_then_normal ?_)
  refine c_block ?_
  refine c_loop (σ := Nat) (fun i => i ≤ s.n ∧ ∀ j, j < i → p (s.at j) = false) (fun i => s.n - i) (fun i => []) (fun i => ⟨[(8, vI ((i : Nat) : Int)), (7, vI ((s.n : Nat) : Int)), (0, .v (.slice s.A s.n s.c)), (1, .v (.func (.func kf) #[] caps))], []⟩) 0 ⟨Nat.zero_le _, fun j hj => absurd hj (Nat.not_lt_zero _)⟩ (s_start [8, 7, 0, 1] 0 (by kernel_rfl) rfl) ?_
  rintro i ⟨hi, hI⟩
  refine c_seq ?_
  refine c_region ?_
  refine JL_run 1 [] [9, 8, 7, 0, 1] 0 ⟨[(9, vB (decide (((i : Nat) : Int) < ((s.n : Nat) : Int)))), (8, vI ((i : Nat) : Int)), (7, vI ((s.n : Nat) : Int)), (0, .v (.slice s.A s.n s.c)), (1, .v (.func (.func kf) #[] caps))], []⟩ [] [] (by kernel_rfl) on wn ?_
  refine l_nil (q_then_normal ?_)
  refine c_seq ?_
  cases h1 : decide (((i : Nat) : Int) < ((s.n : Nat) : Int)) with
  | true =>
    have h1 := of_decide_eq_true h1
    refine c_if true rfl ?_
    refine c_skip ?_
    refine q_then_normal ?_
    refine c_seq ?_
    refine c_block ?_
    refine c_seq ?_
    refine c_region ?_
    refine JL_run 2 [] [5, 8, 7, 0, 1] 0 ⟨[(5, vI ((i : Nat) : Int)), (8, vI ((i : Nat) : Int)), (7, vI ((s.n : Nat) : Int)), (0, .v (.slice s.A s.n s.c)), (1, .v (.func (.func kf) #[] caps))], []⟩ [] [] (by kernel_rfl) on wn ?_
    refine l_nil (q_then_normal ?_)
    refine c_seq ?_
    refine c_region ?_
    refine JL_run 5 [(3, .idx s.ad i), (4, .ext [.int .i64 (s.at i).v.client, .int .i64 (s.at i).v.id, .int .i64 (s.at i).v.acked, .int .i64 (s.at i).v.last, .slice (s.at i).v.replies.A (s.at i).v.replies.n (s.at i).v.replies.c])] [15, 11, 5, 8, 7, 0, 1] 0 ⟨[(15, .v (.agg #[.int .i64 (s.at i).v.client, .int .i64 (s.at i).v.id, .int .i64 (s.at i).v.acked, .int .i64 (s.at i).v.last, .slice (s.at i).v.replies.A (s.at i).v.replies.n (s.at i).v.replies.c])), (11, .v (.func (.func kf) #[] caps)), (5, vI ((i : Nat) : Int)), (8, vI ((i : Nat) : Int)), (7, vI ((s.n : Nat) : Int)), (0, .v (.slice s.A s.n s.c)), (1, .v (.func (.func kf) #[] caps))], []⟩ [s.A = some s.ad, ((i : Nat) : Int) = ((i : Nat) : Int), i < s.n] [(s.ad.add (i * 5), [.int .i64 (s.at i).v.client, .int .i64 (s.at i).v.id, .int .i64 (s.at i).v.acked, .int .i64 (s.at i).v.last, .slice (s.at i).v.replies.A (s.at i).v.replies.n (s.at i).v.replies.c])] (by kernel_rfl) (oc (Sl.ok.own (s := s) (i := i) oks (by omega)) (oc rfl (oc (by omega) on))) (fun w hk hr => ⟨(Sl.rd.all (s := s) (i := i) (Sl.rd.kp hs hk) (by omega) rfl), trivial⟩) ?_
    refine l_pureV kf caps [.v (.agg #[.int .i64 (s.at i).v.client, .int .i64 (s.at i).v.id, .int .i64 (s.at i).v.acked, .int .i64 (s.at i).v.last, .slice (s.at i).v.replies.A (s.at i).v.replies.n (s.at i).v.replies.c])] (.bool (p (s.at i))) hcall rfl rfl rfl rfl (fun bs w hS => hf w (s.at i) (List.mem_of_getElem? (Sl.at_some (show i < s.n by omega))) hS.kp) ?_
    refine l_nil (q_then_normal ?_)
    cases h2 : p (s.at i) with
    | true =>
      refine c_if true rfl ?_
      refine c_seq ?_
      refine c_region ?_
      refine JL_run 2 [] [4] 0 ⟨[(4, vI ((i : Nat) : Int))], []⟩ [] [] (by kernel_rfl) on wn ?_
      refine l_nil (q_then_normal ?_)
      refine c_ret ?_
      refine q_block_ret (q_then_ret (q_then_ret (q_block_ret (q_then_ret (q_ret (.inl rfl) [vI ((i : Nat) : Int)] rfl (fun bs w hS => ?_))))))
      refine ⟨?_, hS.kp⟩
      rw [mIdx_here (i := i) (by omega) (by assumption) hI]
      rfl
    | false =>
      refine c_if false rfl ?_
      refine c_skip ?_
      refine q_block_normal (q_then_normal ?_)
      refine c_region ?_
      refine JL_run 2 [] [8, 7, 0, 1] 0 ⟨[(8, vI (((i : Nat) : Int) + 1)), (7, vI ((s.n : Nat) : Int)), (0, .v (.slice s.A s.n s.c)), (1, .v (.func (.func kf) #[] caps))], []⟩ [inR (((i : Nat) : Int) + 1)] [] (by kernel_rfl) (oc (by unfold inR; omega) on) wn ?_
      refine l_nil (q_loop (x := (i : Nat)) ((i + 1) : Nat) ⟨by omega, fun j hj => by rcases Nat.lt_succ_iff_lt_or_eq.1 hj with h | h; exact hI j h; subst h; assumption⟩ (by omega) (s_start [8, 7, 0, 1] 0 (by kernel_rfl) rfl))
  | false =>
    have h1 := of_decide_eq_false h1
    refine c_if false rfl ?_
    refine c_exit ?_
    refine q_then_exit (q_then_exit (q_block_hit (q_then_normal ?_)))
    refine c_seq ?_
    refine c_region ?_
    refine JL_run 1 [] [4] 0 ⟨[(4, vI (-1))], []⟩ [] [] (by kernel_rfl) on wn ?_
    refine l_nil (q_then_normal ?_)
    refine c_ret ?_
    refine q_ret (.inl rfl) [vI (-1)] rfl (fun bs w hS => ?_)
    refine ⟨?_, hS.kp⟩
    rw [mIdx_none fun j hj => hI j (by omega)]
    rfl

theorem delF_Session (A : Option Addr) (c : Nat) (L : List (Fl CSession)) (p : Fl CSession → Bool) (kf : Nat) (caps : Array Value) (w : World) (hrow : (rowA 83 A c L).p w) (hlt : ∀ b, b ∈ (rowA 83 A c L).fp → b < w.heap.size) (hn : L.length ≤ 1048576) (hcall : ∀ args w, (callFunc kf args).run Try.prog w = .ok (.enter kf args) w)
    (hf : ∀ (w' : World) (x : (Fl CSession)), x ∈ L → Kp (rowA 83 A c L).fp w w' → Calls Try.prog kf (#[.agg #[.int .i64 x.v.client, .int .i64 x.v.id, .int .i64 x.v.acked, .int .i64 x.v.last, .slice x.v.replies.A x.v.replies.n x.v.replies.c]] ++ caps) w' fun e w'' => e = .returned (.bool (p x)) ∧ Kp [] w' w'') :
    Calls Try.prog 61 #[.slice A L.length c, .func (.func kf) #[] caps] w fun e w' => e = .returned (.slice A (L.filter fun x => !p x).length c) ∧ Turned (rowA 83 A c L) w w' (rowA 83 A c (L.filter fun x => !p x)) := by
  have hrok := rowA_rok hrow
  have nc := hrok.2
  refine calls_J 42 (rowA 83 A c L).fp Try.func61 rfl rfl [] [] [rowA 83 A c L] [.v (.slice A L.length c), .v (.func (.func kf) #[] caps)] [.slice A L.length c, .func (.func kf) #[] caps] rfl rfl (WS.start1 w _ hrow (by cases A <;> simp [rowA, rowR]) hlt) ?_
  refine c_seq ?_
  refine c_region ?_
  refine JL_run 1 [] [0, 1] 0 ⟨[(0, .v (.slice A L.length c)), (1, .v (.func (.func kf) #[] caps))], []⟩ [] [] (by kernel_rfl) on wn ?_
  refine l_nil (q_then_normal ?_)
  refine c_seq ?_
  refine c_region ?_
  refine JL_run 2 [] [9, 8, 0, 1] 0 ⟨[(9, .v (.func (.func kf) #[] caps)), (8, .v (.slice A L.length c)), (0, .v (.slice A L.length c)), (1, .v (.func (.func kf) #[] caps))], []⟩ [] [] (by kernel_rfl) on wn ?_
  refine l_pure 78 [] [.v (.slice A L.length c), .v (.func (.func kf) #[] caps)] (.int .i64 (mIdx p L)) Try.call78 rfl rfl rfl rfl (fun bs w hS => idxF_Session (⟨A, c, L⟩ : Sl (Fl CSession)) p kf caps w (rowA_rd (B := anyB) (hS.res _ (.head _)) (fun _ _ => trivial) (fun _ _ => trivial)) hcall (fun w' x hx hk => hf w' x hx (hS.kp.step hk (fun i hi => by cases hi)))) ?_
  refine JL_run 1 [] [5, 0, 1] 0 ⟨[(5, vI (mIdx p L)), (0, .v (.slice A L.length c)), (1, .v (.func (.func kf) #[] caps))], []⟩ [] [] (by kernel_rfl) on wn ?_
  refine l_nil (q_then_normal ?_)
  refine c_seq ?_
  refine c_seq ?_
  refine c_region ?_
  refine JL_run 2 [] [12, 5, 0, 1] 0 ⟨[(12, vB (decide (mIdx p L = (-1)))), (5, vI (mIdx p L)), (0, .v (.slice A L.length c)), (1, .v (.func (.func kf) #[] caps))], []⟩ [] [] (by kernel_rfl) on wn ?_
  refine l_nil (q_then_normal ?_)
  cases h1 : decide (mIdx p L = (-1)) with
  | true =>
    have h1 := of_decide_eq_true h1
    refine c_if true rfl ?_
    refine c_seq ?_
    refine c_region ?_
    refine JL_run 2 [] [4] 0 ⟨[(4, .v (.slice A L.length c))], []⟩ [] [] (by kernel_rfl) on wn ?_
    refine l_nil (q_then_normal ?_)
    refine c_ret ?_
    refine q_then_ret (q_ret (.inl rfl) [.v (.slice A L.length c)] rfl (fun bs w hS => ?_))
    have hid : L.filter (fun x => !p x) = L := delF_none (by assumption)
    rw [hid]
    exact ⟨rfl, hS.turned⟩
  | false =>
    have h1 := of_decide_eq_false h1
    obtain ⟨i0, hi1, hi2, hi3, hi4⟩ := delF_some (p := p) h1
    refine c_if false rfl ?_
    refine c_skip ?_
    refine q_then_normal ?_
    refine c_seq ?_
    refine c_seq ?_
    refine c_region ?_
    refine JL_run 3 [] [6, 5, 0, 1] 0 ⟨[(6, vI ((mIdx p L) + 1)), (5, vI (mIdx p L)), (0, .v (.slice A L.length c)), (1, .v (.func (.func kf) #[] caps))], []⟩ [inR ((mIdx p L) + 1)] [] (by kernel_rfl) (oc (by unfold inR; omega) on) wn ?_
    refine l_nil (q_then_normal ?_)
    refine c_block ?_
    refine c_loop (σ := Nat × Nat × List (Fl CSession)) (fun ⟨i, j, M⟩ => i < j ∧ j ≤ L.length ∧ M.length = L.length ∧ M.take i = (L.take j).filter (fun x => !p x) ∧ M.drop j = L.drop j) (fun ⟨i, j, M⟩ => L.length - j) (fun ⟨i, j, M⟩ => [rowA 83 A c (M : List (Fl CSession))]) (fun ⟨i, j, M⟩ => ⟨[(6, vI ((j : Nat) : Int)), (5, vI ((i : Nat) : Int)), (0, .v (.slice A L.length c)), (1, .v (.func (.func kf) #[] caps))], []⟩) ⟨i0, i0 + 1, L⟩ ⟨by omega, by omega, rfl, delF_start hi1 hi2 hi3, rfl⟩ (s_start [6, 5, 0, 1] 0 (by rw [hi4]; kernel_rfl) rfl) ?_
    rintro ⟨i, j, M⟩ ⟨h1, h2, hM, hT, hD⟩
    refine c_seq ?_
    refine c_seq ?_
    refine c_region ?_
    refine JL_run 4 [] [19, 6, 5, 0, 1] 0 ⟨[(19, vB (decide (((j : Nat) : Int) < ((L.length : Nat) : Int)))), (6, vI ((j : Nat) : Int)), (5, vI ((i : Nat) : Int)), (0, .v (.slice A L.length c)), (1, .v (.func (.func kf) #[] caps))], []⟩ [] [] (by kernel_rfl) on wn ?_
    refine l_nil (q_then_normal ?_)
    cases h2 : decide (((j : Nat) : Int) < ((L.length : Nat) : Int)) with
    | true =>
      have h2 := of_decide_eq_true h2
      refine c_if true rfl ?_
      refine c_skip ?_
      refine q_then_normal ?_
      refine c_seq ?_
      refine c_block ?_
      refine c_seq ?_
      refine c_region ?_
      refine JL_run 6 [(2, .idx (oad A) j), (3, .ext [.int .i64 (M.getD j default).v.client, .int .i64 (M.getD j default).v.id, .int .i64 (M.getD j default).v.acked, .int .i64 (M.getD j default).v.last, .slice (M.getD j default).v.replies.A (M.getD j default).v.replies.n (M.getD j default).v.replies.c])] [7, 6, 5, 0, 1] 1 ⟨[(7, .p 0 0), (6, vI ((j : Nat) : Int)), (5, vI ((i : Nat) : Int)), (0, .v (.slice A L.length c)), (1, .v (.func (.func kf) #[] caps))], [⟨83, [vI (M.getD j default).v.client, vI (M.getD j default).v.id, vI (M.getD j default).v.acked, vI (M.getD j default).v.last, .v (.slice (M.getD j default).v.replies.A (M.getD j default).v.replies.n (M.getD j default).v.replies.c)]⟩]⟩ [A = some (oad A), ((j : Nat) : Int) = ((j : Nat) : Int), j < L.length] [((oad A).add (j * 5), [.int .i64 (M.getD j default).v.client, .int .i64 (M.getD j default).v.id, .int .i64 (M.getD j default).v.acked, .int .i64 (M.getD j default).v.last, .slice (M.getD j default).v.replies.A (M.getD j default).v.replies.n (M.getD j default).v.replies.c])] (by kernel_rfl) (oc (hrok.1 j (by omega)) (oc rfl (oc (by omega) on))) (fun w hk hr => ⟨(rowA_all (i := j) (hr _ (.head _)) (by omega) rfl), trivial⟩) ?_
      refine l_nil (q_then_normal ?_)
      refine c_seq ?_
      refine c_region ?_
      refine JL_run 2 [] [27, 26, 7, 6, 5, 0, 1] 1 ⟨[(27, .v (.agg #[.int .i64 (M.getD j default).v.client, .int .i64 (M.getD j default).v.id, .int .i64 (M.getD j default).v.acked, .int .i64 (M.getD j default).v.last, .slice (M.getD j default).v.replies.A (M.getD j default).v.replies.n (M.getD j default).v.replies.c])), (26, .v (.func (.func kf) #[] caps)), (7, .p 0 0), (6, vI ((j : Nat) : Int)), (5, vI ((i : Nat) : Int)), (0, .v (.slice A L.length c)), (1, .v (.func (.func kf) #[] caps))], [⟨83, [vI (M.getD j default).v.client, vI (M.getD j default).v.id, vI (M.getD j default).v.acked, vI (M.getD j default).v.last, .v (.slice (M.getD j default).v.replies.A (M.getD j default).v.replies.n (M.getD j default).v.replies.c)]⟩]⟩ [] [] (by kernel_rfl) on wn ?_
      refine l_pureV kf caps [.v (.agg #[.int .i64 (M.getD j default).v.client, .int .i64 (M.getD j default).v.id, .int .i64 (M.getD j default).v.acked, .int .i64 (M.getD j default).v.last, .slice (M.getD j default).v.replies.A (M.getD j default).v.replies.n (M.getD j default).v.replies.c])] (.bool (p (M.getD j default))) hcall rfl rfl rfl rfl (fun bs w hS => hf w (M.getD j default) (by rw [getD_drop hD (by omega)]; exact mem_of_getD (by omega)) hS.kp) ?_
      refine JL_run 1 [] [29, 7, 6, 5, 0, 1] 1 ⟨[(29, vB (!(p (M.getD j default)))), (7, .p 0 0), (6, vI ((j : Nat) : Int)), (5, vI ((i : Nat) : Int)), (0, .v (.slice A L.length c)), (1, .v (.func (.func kf) #[] caps))], [⟨83, [vI (M.getD j default).v.client, vI (M.getD j default).v.id, vI (M.getD j default).v.acked, vI (M.getD j default).v.last, .v (.slice (M.getD j default).v.replies.A (M.getD j default).v.replies.n (M.getD j default).v.replies.c)]⟩]⟩ [] [] (by kernel_rfl) on wn ?_
      refine l_nil (q_then_normal ?_)
      cases h3 : p (M.getD j default) with
      | true =>
        refine c_if false rfl ?_
        refine c_skip ?_
        refine q_block_normal (q_then_normal ?_)
        refine c_region ?_
        refine JL_run 3 [] [6, 5, 0, 1] 0 ⟨[(6, vI (((j : Nat) : Int) + 1)), (5, vI ((i : Nat) : Int)), (0, .v (.slice A L.length c)), (1, .v (.func (.func kf) #[] caps))], []⟩ [inR (((j : Nat) : Int) + 1)] [] (by kernel_rfl) (oc (by unfold inR; omega) on) wn ?_
        have hjL : M.getD j default = L.getD j default := getD_drop hD (by omega)
        refine l_nil (q_loop (x := (⟨i, j, M⟩ : Nat × Nat × List (Fl CSession))) (⟨i, j + 1, M⟩ : Nat × Nat × List (Fl CSession)) ⟨by omega, by omega, hM, delF_skip (by omega) hT (hjL ▸ by assumption), drop_next hD⟩ (by show L.length - (j + 1) < L.length - j; omega) (s_start [6, 5, 0, 1] 0 (by kernel_rfl) rfl))
      | false =>
        refine c_if true rfl ?_
        refine c_seq ?_
        refine c_region ?_
        refine JL_run 4 [(3, .idx (oad A) i)] [33, 32, 6, 5, 0, 1] 0 ⟨[(33, .v (.pointer (some ((oad A).add (i * 5))))), (32, .v (.agg #[.int .i64 (M.getD j default).v.client, .int .i64 (M.getD j default).v.id, .int .i64 (M.getD j default).v.acked, .int .i64 (M.getD j default).v.last, .slice (M.getD j default).v.replies.A (M.getD j default).v.replies.n (M.getD j default).v.replies.c])), (6, vI ((j : Nat) : Int)), (5, vI ((i : Nat) : Int)), (0, .v (.slice A L.length c)), (1, .v (.func (.func kf) #[] caps))], []⟩ [A = some (oad A), ((i : Nat) : Int) = ((i : Nat) : Int), i < L.length] [] (by kernel_rfl) (oc (hrok.1 i (by omega)) (oc rfl (oc (by omega) on))) wn ?_
        refine l_storeA (α := Fl CSession) 83 A c M i 0 ((oad A).add (i * 5)) (.v (.agg #[.int .i64 (M.getD j default).v.client, .int .i64 (M.getD j default).v.id, .int .i64 (M.getD j default).v.acked, .int .i64 (M.getD j default).v.last, .slice (M.getD j default).v.replies.A (M.getD j default).v.replies.n (M.getD j default).v.replies.c])) [vI (M.getD j default).v.client, vI (M.getD j default).v.id, vI (M.getD j default).v.acked, vI (M.getD j default).v.last, .v (.slice (M.getD j default).v.replies.A (M.getD j default).v.replies.n (M.getD j default).v.replies.c)] [.int .i64 (M.getD j default).v.client, .int .i64 (M.getD j default).v.id, .int .i64 (M.getD j default).v.acked, .int .i64 (M.getD j default).v.last, .slice (M.getD j default).v.replies.A (M.getD j default).v.replies.n (M.getD j default).v.replies.c] (M.getD j default) (add_zero _).symm rfl rfl rfl (by kernel_rfl) (by kernel_rfl) (by kernel_rfl) rfl (by omega) (by kernel_rfl) (by unfold setAt; simp [Lay.cells]) rfl rfl ?_
        intro L2 hL2 hl2
        refine l_nil (q_then_normal ?_)
        refine c_region ?_
        refine JL_run 3 [] [5, 6, 0, 1] 0 ⟨[(5, vI (((i : Nat) : Int) + 1)), (6, vI ((j : Nat) : Int)), (0, .v (.slice A L.length c)), (1, .v (.func (.func kf) #[] caps))], []⟩ [inR (((i : Nat) : Int) + 1)] [] (by kernel_rfl) (oc (by unfold inR; omega) on) wn ?_
        refine l_nil (q_block_normal (q_then_normal ?_))
        refine c_region ?_
        refine JL_run 3 [] [6, 5, 0, 1] 0 ⟨[(6, vI (((j : Nat) : Int) + 1)), (5, vI (((i : Nat) : Int) + 1)), (0, .v (.slice A L.length c)), (1, .v (.func (.func kf) #[] caps))], []⟩ [inR (((j : Nat) : Int) + 1)] [] (by kernel_rfl) (oc (by unfold inR; omega) on) wn ?_
        have hjL : M.getD j default = L.getD j default := getD_drop hD (by omega)
        refine l_nil (q_loop (x := (⟨i, j, M⟩ : Nat × Nat × List (Fl CSession))) (⟨i + 1, j + 1, L2⟩ : Nat × Nat × List (Fl CSession)) ⟨by omega, by omega, by omega, by rw [hL2]; exact delF_keep h1 (by omega) hM hT (hjL ▸ by assumption) hjL, by rw [hL2]; exact delF_drop h1 hD⟩ (by show L.length - (j + 1) < L.length - j; omega) (s_start [6, 5, 0, 1] 0 (by kernel_rfl) rfl))
    | false =>
      have h2 := of_decide_eq_false h2
      refine c_if false rfl ?_
      refine c_exit ?_
      refine q_then_exit (q_then_exit (q_block_hit (q_then_normal ?_)))
      refine c_seq ?_
      refine c_region ?_
      refine JL_run 3 [(2, .sl i L.length)] [38, 5, 0] 0 ⟨[(38, .v (.slice (if c = i then A else A.map (·.add (i * 5))) (L.length - i) (c - i))), (5, vI ((i : Nat) : Int)), (0, .v (.slice A L.length c))], []⟩ [((i : Nat) : Int) = ((i : Nat) : Int), L.length = L.length, i ≤ L.length] [] (by kernel_rfl) (oc rfl (oc rfl (oc (by omega) on))) wn ?_
      refine l_clear (α := Fl CSession) 83 A c M i (L.length - i) (.v (.slice (if c = i then A else A.map (·.add (i * 5))) (L.length - i) (c - i))) Try.underlying24 (by kernel_rfl) rfl rfl rfl rfl (by omega) (by omega) ?_
      refine l_nil (q_then_normal ?_)
      refine c_seq ?_
      refine c_region ?_
      refine JL_run 4 [(2, .sl 0 i)] [4] 0 ⟨[(4, .v (.slice A i c))], []⟩ [0 = 0, ((i : Nat) : Int) = ((i : Nat) : Int), i ≤ c] [] (by kernel_rfl) (oc rfl (oc rfl (oc (by omega) on))) wn ?_
      refine l_nil (q_then_normal ?_)
      refine c_ret ?_
      refine q_ret (.inl rfl) [.v (.slice A i c)] rfl (fun bs w hS => ?_)
      have hid : M.take i = L.filter (fun x => !p x) := by rw [hT, show j = L.length by omega, List.take_length]
      have hil : (L.filter (fun x => !p x)).length = i := by rw [← hid, List.length_take]; omega
      have hS2 := hS
      rw [hid] at hS2
      refine ⟨?_, hS2.turned⟩
      rw [hil]
      rfl
theorem del_Session (A : Option Addr) (c : Nat) (L : List CSession) (p : CSession → Bool) (kf : Nat) (caps : Array Value) (w : World) (hrow : (rowA 83 A c L).p w) (hlt : ∀ b, b ∈ (rowA 83 A c L).fp → b < w.heap.size) (hn : L.length ≤ 1048576) (hcall : ∀ args w, (callFunc kf args).run Try.prog w = .ok (.enter kf args) w)
    (hf : ∀ (w' : World) (x : CSession), x ∈ L → Kp (rowA 83 A c L).fp w w' → Calls Try.prog kf (#[.agg #[.int .i64 x.client, .int .i64 x.id, .int .i64 x.acked, .int .i64 x.last, .slice x.replies.A x.replies.n x.replies.c]] ++ caps) w' fun e w'' => e = .returned (.bool (p x)) ∧ Kp [] w' w'') :
    Calls Try.prog 61 #[.slice A L.length c, .func (.func kf) #[] caps] w fun e w' => e = .returned (.slice A (L.filter fun x => !p x).length c) ∧ Turned (rowA 83 A c L) w w' (rowA 83 A c (L.filter fun x => !p x)) := by
  have h := delF_Session A c (fls L) (fun x => p x.v) kf caps w (by rw [rowA_fl]; exact hrow) (by rw [rowA_fl]; exact hlt) (by simpa using hn) hcall (fun w' x hx hk => hf w' x.v (by obtain ⟨y, hy, rfl⟩ := List.mem_map.1 hx; exact hy) (by rwa [rowA_fl] at hk))
  have e1 : (fls L).filter (fun x => !(p x.v)) = fls (L.filter fun x => !p x) := fls_filter (fun x => !p x) L
  simp only [e1, rowA_fl, List.length_map] at h
  exact h

theorem ref_SessionsCopy {B : Nat → Prop} (s : Sl CSession) (w : World) (hs : s.rd B w) (hsm : Rds.small s) : Calls Try.prog 60 #[.slice s.A s.n s.c] w fun e w' => ∃ y : Sl CSession, e = .returned y.val ∧ y.xs.map CSession.abs = s.xs.map CSession.abs ∧ Kp [] w w' ∧ Fresh w w' (sessR 83 100 y) := by
  have oks := Sl.rd.ok hs
  have ncs := Sl.ok.nc oks
  refine calls_J0 25 Try.func60 rfl rfl [.slice s.A s.n s.c] rfl ?_
  refine c_seq ?_
  refine c_region ?_
  refine JL_run 1 [] [0] 0 ⟨[(0, .v (.slice s.A s.n s.c))], []⟩ [] [] (by kernel_rfl) on wn ?_
  refine l_nil (q_then_normal ?_)
  refine c_seq ?_
  refine c_region ?_
  refine JL_run 1 [] [3, 0] 0 ⟨[(3, .v (.slice none 0 0)), (0, .v (.slice s.A s.n s.c))], []⟩ [] [] (by kernel_rfl) on wn ?_
  refine l_nil (q_then_normal ?_)
  refine c_seq ?_
  refine c_seq ?_
  refine c_region ?_
  refine JL_run 1 [] [4, 3, 0] 0 ⟨[(4, vI 0), (3, .v (.slice none 0 0)), (0, .v (.slice s.A s.n s.c))], []⟩ [] [] (by kernel_rfl) on wn ?_
  refine l_nil (q_then_normal ?_)
  refine c_block ?_
  refine c_rowA (α := CSession) 83 ?_
  refine c_nores (ownL (keptR 100) []) rfl (fun w x hx => by cases hx) ?_
  refine c_loop (σ := Nat × Option Addr × Nat × List CSession) (fun ⟨i, A, c, L⟩ => i ≤ s.n ∧ L.length = i ∧ L.map CSession.abs = (s.xs.take i).map CSession.abs) (fun ⟨i, A, c, L⟩ => s.n - i) (fun ⟨i, A, c, L⟩ => [ownL (keptR 100) L, rowA 83 A c (L : List CSession)]) (fun ⟨i, A, c, L⟩ => ⟨[(4, vI ((i : Nat) : Int)), (3, .v (.slice A L.length c)), (0, .v (.slice s.A s.n s.c))], []⟩) ⟨0, none, 0, []⟩ ⟨Nat.zero_le _, rfl, by simp⟩ (s_start [4, 3, 0] 0 (by kernel_rfl) rfl) ?_
  rintro ⟨i, A, c, L⟩ ⟨hi, hL, hI⟩
  have hsn := hsm.1
  refine c_seq ?_
  refine c_seq ?_
  refine c_region ?_
  refine JL_run 4 [] [9, 4, 3, 0] 0 ⟨[(9, vB (decide (((i : Nat) : Int) < ((s.n : Nat) : Int)))), (4, vI ((i : Nat) : Int)), (3, .v (.slice A L.length c)), (0, .v (.slice s.A s.n s.c))], []⟩ [] [] (by kernel_rfl) on wn ?_
  refine l_nil (q_then_normal ?_)
  cases h1 : decide (((i : Nat) : Int) < ((s.n : Nat) : Int)) with
  | true =>
    have h1 := of_decide_eq_true h1
    refine c_if true rfl ?_
    refine c_skip ?_
    refine q_then_normal ?_
    refine c_seq ?_
    refine c_block ?_
    refine c_seq ?_
    refine c_region ?_
    refine JL_run 6 [(2, .idx s.ad i), (3, .ext [.int .i64 (s.at i).client, .int .i64 (s.at i).id, .int .i64 (s.at i).acked, .int .i64 (s.at i).last, .slice (s.at i).replies.A (s.at i).replies.n (s.at i).replies.c])] [5, 4, 3, 0] 1 ⟨[(5, .p 0 0), (4, vI ((i : Nat) : Int)), (3, .v (.slice A L.length c)), (0, .v (.slice s.A s.n s.c))], [⟨83, [vI (s.at i).client, vI (s.at i).id, vI (s.at i).acked, vI (s.at i).last, .v (.slice (s.at i).replies.A (s.at i).replies.n (s.at i).replies.c)]⟩]⟩ [s.A = some s.ad, ((i : Nat) : Int) = ((i : Nat) : Int), i < s.n] [(s.ad.add (i * 5), [.int .i64 (s.at i).client, .int .i64 (s.at i).id, .int .i64 (s.at i).acked, .int .i64 (s.at i).last, .slice (s.at i).replies.A (s.at i).replies.n (s.at i).replies.c])] (by kernel_rfl) (oc (Sl.ok.own (s := s) (i := i) oks (by omega)) (oc rfl (oc (by omega) on))) (fun w hk hr => ⟨(Sl.rd.all (s := s) (i := i) (Sl.rd.kp hs hk) (by omega) rfl), trivial⟩) ?_
    refine l_nil (q_then_normal ?_)
    refine c_seq ?_
    refine c_region ?_
    refine JL_run 2 [] [17, 5, 4, 3, 0] 1 ⟨[(17, .v (.slice (s.at i).replies.A (s.at i).replies.n (s.at i).replies.c)), (5, .p 0 0), (4, vI ((i : Nat) : Int)), (3, .v (.slice A L.length c)), (0, .v (.slice s.A s.n s.c))], [⟨83, [vI (s.at i).client, vI (s.at i).id, vI (s.at i).acked, vI (s.at i).last, .v (.slice (s.at i).replies.A (s.at i).replies.n (s.at i).replies.c)]⟩]⟩ [] [] (by kernel_rfl) on wn ?_
    refine l_rowA (α := DKept) 100 ?_
    refine l_appendA (α := DKept) 100 40 none 0 ([]) (.v (.slice (s.at i).replies.A (s.at i).replies.n (s.at i).replies.c)) ((s.at i).replies.xs) Try.underlying81 (by kernel_rfl) rfl rfl rfl (fun bs w hS => ⟨_, _, rfl, Sl.rd.src (s := (s.at i).replies) (Sl.rd.sub (s := s) (i := i) (Sl.rd.kp hs hS.kp) (by omega))⟩) (by first | omega | (simp only [List.length_nil, List.length_cons, List.length_append]; omega) | (have hq := (hsm.2 i (by omega)).1; simp only [Sl.n, List.length_nil] at hq ⊢; omega)) (by first | omega | (simp only [List.length_nil, List.length_cons, List.length_append]; omega) | (have hq := (hsm.2 i (by omega)).1; simp only [Sl.n, List.length_nil] at hq ⊢; omega)) ?_
    intro A1 c1
    refine JL_run 2 [] [5, 4, 3, 0] 1 ⟨[(5, .p 0 0), (4, vI ((i : Nat) : Int)), (3, .v (.slice A L.length c)), (0, .v (.slice s.A s.n s.c))], [⟨83, [vI (s.at i).client, vI (s.at i).id, vI (s.at i).acked, vI (s.at i).last, .v (.slice A1 ([] ++ (s.at i).replies.xs).length c1)]⟩]⟩ [] [] (by kernel_rfl) on wn ?_
    refine l_nil (q_then_normal ?_)
    refine c_region ?_
    refine JL_run 3 [] [22, 20, 4, 0] 2 ⟨[(22, .s 1 0 1 1), (20, .v (.slice A L.length c)), (4, vI ((i : Nat) : Int)), (0, .v (.slice s.A s.n s.c))], [⟨83, [vI (s.at i).client, vI (s.at i).id, vI (s.at i).acked, vI (s.at i).last, .v (.slice A1 ([] ++ (s.at i).replies.xs).length c1)]⟩, ⟨83, [vI (s.at i).client, vI (s.at i).id, vI (s.at i).acked, vI (s.at i).last, .v (.slice A1 ([] ++ (s.at i).replies.xs).length c1)]⟩]⟩ [] [] (by kernel_rfl) on wn ?_
    refine l_perm (R' := [rowA 83 A c (L : List CSession), rowA 100 A1 c1 ([] ++ (s.at i).replies.xs : List DKept), ownL (keptR 100) L]) (permfront 2 rfl) ?_
    refine l_appendA (α := CSession) 83 56 A c (L) (.s 1 0 1 1) ([(⟨(s.at i).client, (s.at i).id, (s.at i).acked, (s.at i).last, ⟨A1, c1, [] ++ (s.at i).replies.xs⟩⟩ : CSession)]) Try.underlying24 (by kernel_rfl) rfl rfl rfl (fun bs w hS => by obtain ⟨q1, q2, q3, q4⟩ := src_loc (i := 1) (off := 0) (k := 1) (c := 1) (q := 5) (vs := [.int .i64 (s.at i).client, .int .i64 (s.at i).id, .int .i64 (s.at i).acked, .int .i64 (s.at i).last, .slice A1 ([] ++ (s.at i).replies.xs).length c1]) hS rfl rfl; exact ⟨some q1, q2, q3, q4⟩) (by first | omega | (simp only [List.length_nil, List.length_cons, List.length_append]; omega) | (have hq := (hsm.2 i (by omega)).1; simp only [Sl.n, List.length_nil] at hq ⊢; omega)) (by first | omega | (simp only [List.length_nil, List.length_cons, List.length_append]; omega) | (have hq := (hsm.2 i (by omega)).1; simp only [Sl.n, List.length_nil] at hq ⊢; omega)) ?_
    intro A2 c2
    refine JL_run 1 [] [3, 4, 0] 0 ⟨[(3, .v (.slice A2 (L ++ [(⟨(s.at i).client, (s.at i).id, (s.at i).acked, (s.at i).last, ⟨A1, c1, [] ++ (s.at i).replies.xs⟩⟩ : CSession)]).length c2)), (4, vI ((i : Nat) : Int)), (0, .v (.slice s.A s.n s.c))], []⟩ [] [] (by kernel_rfl) on wn ?_
    refine l_nil (q_block_normal (q_then_normal ?_))
    refine c_region ?_
    refine JL_run 3 [] [4, 3, 0] 0 ⟨[(4, vI (((i : Nat) : Int) + 1)), (3, .v (.slice A2 (L ++ [(⟨(s.at i).client, (s.at i).id, (s.at i).acked, (s.at i).last, ⟨A1, c1, [] ++ (s.at i).replies.xs⟩⟩ : CSession)]).length c2)), (0, .v (.slice s.A s.n s.c))], []⟩ [inR (((i : Nat) : Int) + 1)] [] (by kernel_rfl) (oc (by unfold inR; omega) on) wn ?_
    refine l_perm (R' := [rowA 100 A1 c1 ([] ++ (s.at i).replies.xs : List DKept), ownL (keptR 100) L, rowA 83 A2 c2 (L ++ [(⟨(s.at i).client, (s.at i).id, (s.at i).acked, (s.at i).last, ⟨A1, c1, [] ++ (s.at i).replies.xs⟩⟩ : CSession)] : List CSession)]) (by exact perm3 0 _ _ _) ?_
    refine l_join (ownL (keptR 100) (L ++ [(⟨(s.at i).client, (s.at i).id, (s.at i).acked, (s.at i).last, ⟨A1, c1, [] ++ (s.at i).replies.xs⟩⟩ : CSession)])) (ownL_app_fp (keptR 100) L (⟨(s.at i).client, (s.at i).id, (s.at i).acked, (s.at i).last, ⟨A1, c1, [] ++ (s.at i).replies.xs⟩⟩ : CSession)) (fun w => ownL_app_p (keptR 100) L (⟨(s.at i).client, (s.at i).id, (s.at i).acked, (s.at i).last, ⟨A1, c1, [] ++ (s.at i).replies.xs⟩⟩ : CSession) w) ?_
    refine l_nil (q_loop (x := (⟨i, A, c, L⟩ : Nat × Option Addr × Nat × List CSession)) (⟨i + 1, A2, c2, L ++ [(⟨(s.at i).client, (s.at i).id, (s.at i).acked, (s.at i).last, ⟨A1, c1, [] ++ (s.at i).replies.xs⟩⟩ : CSession)]⟩ : Nat × Option Addr × Nat × List CSession) ⟨by omega, by rw [List.length_append]; simp [hL], map_take_snoc (by omega) hI (by first | simp [CSession.abs, hF1] | simp [CSession.abs])⟩ (by show s.n - (i + 1) < s.n - i; omega) (s_start [4, 3, 0] 0 (by kernel_rfl) rfl))
  | false =>
    have h1 := of_decide_eq_false h1
    refine c_if false rfl ?_
    refine c_exit ?_
    refine q_then_exit (q_then_exit (q_block_hit (q_then_normal ?_)))
    refine c_seq ?_
    refine c_region ?_
    refine JL_run 2 [] [2] 0 ⟨[(2, .v (.slice A L.length c))], []⟩ [] [] (by kernel_rfl) on wn ?_
    refine l_nil (q_then_normal ?_)
    refine c_ret ?_
    refine q_ret (.inl rfl) [.v (.slice A L.length c)] rfl (fun bs w hS => ?_)
    have hn : L.length = s.n := by omega
    exact ⟨⟨A, c, L⟩, rfl, by rw [hI, take_all (by omega)], hS.kp, hS.out⟩
theorem ref_SessionsCopyS {B : Nat → Prop} (s : Sl CSession) (w : World) (hs : s.rd B w) (hsm : Rds.small s) : Calls Try.prog 60 #[.slice s.A s.n s.c] w fun e w' => ∃ y : Sl CSession, e = .returned y.val ∧ y.xs.map CSession.abs = s.xs.map CSession.abs ∧ FreshS w w' y :=
  (ref_SessionsCopy s w hs hsm).mono fun e w' ⟨y, h1, h2, h3, h4⟩ => ⟨y, h1, h2, h3, h4.sub fun hp => sessR_rd hp (sess_texts hs h2)⟩

theorem law_kept {B : Nat → Prop} (s : Sl CSession) (w : World) (hs : s.rd B w) (hsm : Rds.small s) : Calls Try.prog 35 #[.slice s.A s.n s.c] w fun e w' => ∃ y : Sl CSession, e = .returned y.val ∧ y.xs.map CSession.abs = s.xs.map CSession.abs ∧ FreshS w w' y := by
  have oks := Sl.rd.ok hs
  have ncs := Sl.ok.nc oks
  have hns : s.n = s.xs.length := rfl
  refine calls_J0 5 Try.func35 rfl rfl [.slice s.A s.n s.c] rfl ?_
  refine c_seq ?_
  refine c_region ?_
  refine JL_run 1 [] [0] 0 ⟨[(0, .v (.slice s.A s.n s.c))], []⟩ [] [] (by kernel_rfl) on wn ?_
  refine l_nil (q_then_normal ?_)
  refine c_seq ?_
  refine c_region ?_
  refine JL_run 1 [] [3] 0 ⟨[(3, .v (.slice s.A s.n s.c))], []⟩ [] [] (by kernel_rfl) on wn ?_
  refine l_sub_call (σ := Sl CSession) 60 [] [.v (.slice s.A s.n s.c)] (fun y1 => .slice y1.A y1.n y1.c) (fun y1 => y1.xs.map CSession.abs = s.xs.map CSession.abs) Try.call60 rfl rfl rfl rfl (fun bs w hS => ref_SessionsCopyS s w (Sl.rd.kp hs hS.kp) hsm) ?_
  rintro fp1 y1 hF1 hok1
  refine JL_run 1 [] [2] 0 ⟨[(2, .v (.slice y1.A y1.n y1.c))], []⟩ [] [] (by kernel_rfl) on wn ?_
  refine l_nil (q_then_normal ?_)
  refine c_ret ?_
  refine q_ret (.inl rfl) [.v (.slice y1.A y1.n y1.c)] rfl (fun bs w hS => ?_)
  exact ⟨y1, rfl, hF1, hS.outS (allR_sub (.head _) (hS.res _ (.head _)))⟩

theorem clo_session_Fresh_1 (x : CSession) (n : Int) (b : Nat) (w : World) (hb : (blkR b 3 [.int .i64 n]).p w) (h0 : 0 ≤ n ∧ n ≤ 1073741824) (h1 : 1 ≤ x.last ∧ x.last ≤ n) : Calls Try.prog 62 #[.agg #[.int .i64 x.client, .int .i64 x.id, .int .i64 x.acked, .int .i64 x.last, .slice x.replies.A x.replies.n x.replies.c], .pointer (some (⟨b, 0, none⟩))] w fun e w' => e = .returned (.bool (stale n x.abs)) ∧ Kp [] w w' := by
  refine calls_J 10 (blkR b 3 [.int .i64 n]).fp Try.func62 rfl rfl [] [] [blkR b 3 [.int .i64 n]] [.v (.agg #[.int .i64 x.client, .int .i64 x.id, .int .i64 x.acked, .int .i64 x.last, .slice x.replies.A x.replies.n x.replies.c]), .v (.pointer (some (⟨b, 0, none⟩)))] [.agg #[.int .i64 x.client, .int .i64 x.id, .int .i64 x.acked, .int .i64 x.last, .slice x.replies.A x.replies.n x.replies.c], .pointer (some (⟨b, 0, none⟩))] rfl rfl (WS.start1 w _ hb (by simp [blkR]) (blkR_lt hb)) ?_
  refine c_seq ?_
  refine c_region ?_
  refine JL_run 2 [] [2, 1] 1 ⟨[(2, .p 0 0), (1, .v (.pointer (some (⟨b, 0, none⟩))))], [⟨83, [vI x.client, vI x.id, vI x.acked, vI x.last, .v (.slice x.replies.A x.replies.n x.replies.c)]⟩]⟩ [] [] (by kernel_rfl) on wn ?_
  refine l_nil (q_then_normal ?_)
  refine c_seq ?_
  refine c_region ?_
  refine JL_run 7 [(0, .ext [.int .i64 n])] [3] 0 ⟨[(3, vB (decide ((40 : Int) < (n + 1) - x.last)))], []⟩ [inR (n + 1), inR ((n + 1) - x.last)] [(⟨b, 0, none⟩, [.int .i64 n])] (by kernel_rfl) (oc (by unfold inR; omega) (oc (by unfold inR; omega) on)) (fun w hk hr => ⟨(blkR_at (hr _ (.head _))), trivial⟩) ?_
  refine l_nil (q_then_normal ?_)
  refine c_ret ?_
  refine q_ret (.inl rfl) [vB (decide ((40 : Int) < (n + 1) - x.last))] rfl (fun bs w hS => ?_)
  exact ⟨rfl, hS.blkKp (.head _) hb⟩

theorem session_Fresh {B : Nat → Prop} (s : Sl CSession) (n : Int) (w : World) (hs : s.rd B w) : Calls Try.prog 36 #[.slice s.A s.n s.c, .int .i64 n] w fun e w' => ∃ y : Sl CSession, e = .returned (.tuple #[y.val, .int .i64 (mFresh (s.xs.map CSession.abs) n).2]) ∧ y.xs.map CSession.abs = (mFresh (s.xs.map CSession.abs) n).1 ∧ FreshS w w' y := by
  have oks := Sl.rd.ok hs
  have ncs := Sl.ok.nc oks
  have hns : s.n = s.xs.length := rfl
  have hml : (s.xs.map CSession.abs).length = s.n := by simp
  refine calls_J0 17 Try.func36 rfl rfl [.slice s.A s.n s.c, .int .i64 n] rfl ?_
  refine c_seq ?_
  refine c_region ?_
  refine JL_run 3 [] [3, 0] 1 ⟨[(3, .p 0 0), (0, .v (.slice s.A s.n s.c))], [⟨3, [vI n]⟩]⟩ [] [] (by kernel_rfl) on wn ?_
  refine l_nil (q_then_normal ?_)
  refine c_seq ?_
  refine c_seq ?_
  refine c_region ?_
  refine JL_run 2 [] [8, 7, 3, 0] 1 ⟨[(8, vI n), (7, .v (.slice s.A s.n s.c)), (3, .p 0 0), (0, .v (.slice s.A s.n s.c))], [⟨3, [vI n]⟩]⟩ [] [] (by kernel_rfl) on wn ?_
  refine l_pure 21 [] [.v (.slice s.A s.n s.c), vI n] (.int .i64 (mSess (s.xs.map CSession.abs) n)) Try.call21 rfl rfl rfl rfl (fun bs w hS => session_Check s n w (Sl.rd.kp hs hS.kp)) ?_
  refine JL_run 1 [] [6, 3, 0] 1 ⟨[(6, vI (mSess (s.xs.map CSession.abs) n)), (3, .p 0 0), (0, .v (.slice s.A s.n s.c))], [⟨3, [vI n]⟩]⟩ [] [] (by kernel_rfl) on wn ?_
  refine l_nil (q_then_normal ?_)
  refine c_seq ?_
  refine c_region ?_
  refine JL_run 2 [] [11, 6, 3, 0] 1 ⟨[(11, vB (!(decide (mSess (s.xs.map CSession.abs) n = 0)))), (6, vI (mSess (s.xs.map CSession.abs) n)), (3, .p 0 0), (0, .v (.slice s.A s.n s.c))], [⟨3, [vI n]⟩]⟩ [] [] (by kernel_rfl) on wn ?_
  refine l_nil (q_then_normal ?_)
  cases h1 : decide (mSess (s.xs.map CSession.abs) n = 0) with
  | true =>
    have h1 := of_decide_eq_true h1
    obtain ⟨hi0, hi1, hln, hall⟩ := mSess_bd h1
    have hn1 : 0 ≤ n ∧ n ≤ 1073741824 := ⟨hi0, hi1⟩
    have hbds : ∀ x, x ∈ s.xs.map CSession.abs → 1 ≤ x.last ∧ x.last ≤ n := fun x hx => by obtain ⟨j, hj, rfl⟩ := List.getElem_of_mem hx; have := sessF_bd (hall j hj); rw [List.getD_eq_getElem?_getD, List.getElem?_eq_getElem hj] at this; simp only [Option.getD_some] at this; omega
    refine c_if false rfl ?_
    refine c_skip ?_
    refine q_then_normal ?_
    refine c_seq ?_
    refine c_region ?_
    refine JL_run 1 [] [13, 3] 1 ⟨[(13, .v (.slice s.A s.n s.c)), (3, .p 0 0)], [⟨3, [vI n]⟩]⟩ [] [] (by kernel_rfl) on wn ?_
    refine l_freshF (σ := Sl CSession) 43 [] [.v (.slice s.A s.n s.c)] (fun y1 => .slice y1.A y1.n y1.c) (fun y1 => y1.xs.map CSession.abs = s.xs.map CSession.abs) (fun y1 => sessR 83 100 y1) Try.call43 rfl rfl rfl rfl (fun bs w hS => session_Copy s w (Sl.rd.kp hs hS.kp) (small_sess (by assumption))) ?_
    rintro y1 hF1
    refine l_split2 ?_
    have hnm1 := sess_texts (hs) hF1
    refine l_know (F := ∀ i, i < y1.n → Rds.ok (y1.at i)) (fun bs w hS i hi => Rds.okof (Sl.rd.sub (own_sess (A := y1.A) (c := y1.c) (L := y1.xs) (hS.res _ (.head _)) (hS.res _ (.tail _ (.head _))) hnm1) hi)) fun okown1 => ?_
    refine l_know (F := RowOk y1.A y1.c (y1.xs : List CSession)) (fun bs w hS => rowA_rok (hS.res _ (.tail _ (.head _)))) fun hrow1 => ?_
    have nchrow1 := hrow1.2
    have hnn := map_n hF1
    have hnx : y1.n = y1.xs.length := rfl
    have hlast : ∀ x, x ∈ y1.xs → 1 ≤ x.last ∧ x.last ≤ n := fun x hx => hbds x.abs (hF1 ▸ List.mem_map.2 ⟨x, hx, rfl⟩)
    have hok1 : Sl.ok y1 := ⟨nchrow1.1, by unfold maxLen; exact nchrow1.2, fun i hi => ⟨hrow1.1 i hi, okown1 i hi⟩⟩
    refine JL_run 1 [] [15, 14] 1 ⟨[(15, .fn 62 [(0, 0)]), (14, .v (.slice y1.A y1.n y1.c))], [⟨3, [vI n]⟩]⟩ [] [] (by kernel_rfl) on wn ?_
    refine l_perm (R' := [rowA 83 y1.A y1.c (y1.xs : List CSession), ownL (keptR 100) y1.xs]) (permfront 1 rfl) ?_
    refine l_turn (σ := Unit) 61 [] [.v (.slice y1.A y1.n y1.c), .fn 62 [(0, 0)]] (fun _ => .slice y1.A (y1.xs.filter fun x : CSession => !stale n x.abs).length y1.c) (fun _ => True) (fun _ => rowA 83 y1.A y1.c (y1.xs.filter fun x : CSession => !stale n x.abs : List CSession)) Try.call61 rfl rfl rfl rfl (fun bs w hS => (del_Session y1.A y1.c y1.xs (fun x : CSession => stale n x.abs) 62 #[.pointer (some (adr bs 0 0))] w (hS.res _ (.head _)) hS.head1.2.2 (by show y1.n ≤ _; omega) Try.call62 (fun w' x hx hk => clo_session_Fresh_1 x n (bs.getD 0 0) w' (show (blkR _ _ _).p w' from hS.blkIn (i := 0) (b := ⟨3, [vI n]⟩) hk rfl (by simp)) hn1 (hlast x hx))).mono (fun e w' ⟨h1, h2⟩ => ⟨(), h1, trivial, h2⟩)) ?_
    rintro _ _
    refine JL_run 2 [] [5, 4] 0 ⟨[(5, vI 0), (4, .v (.slice y1.A (y1.xs.filter fun x : CSession => !stale n x.abs).length y1.c))], []⟩ [] [] (by kernel_rfl) on wn ?_
    refine l_nil (q_then_normal ?_)
    refine c_ret ?_
    refine q_ret (.inl rfl) [.v (.slice y1.A (y1.xs.filter fun x : CSession => !stale n x.abs).length y1.c), vI 0] rfl (fun bs w hS => ?_)
    have hm := fresh_ok (l := s.xs.map CSession.abs) (index := n) (by assumption)
    rw [hm]
    refine ⟨⟨y1.A, y1.c, y1.xs.filter fun x : CSession => !stale n x.abs⟩, rfl, ?_, hS.outS (y := (⟨y1.A, y1.c, y1.xs.filter fun x : CSession => !stale n x.abs⟩ : Sl CSession)) (out_sess (L0 := y1.xs) (.head _) (.tail _ (.head _)) hS.res (fun x hx => (List.mem_filter.1 hx).1) hnm1)⟩
    show (List.filter _ _).map _ = _
    rw [filter_abs, hF1]
  | false =>
    have h1 := of_decide_eq_false h1
    refine c_if true rfl ?_
    refine c_seq ?_
    refine c_region ?_
    refine JL_run 3 [] [5, 4] 0 ⟨[(5, vI (mSess (s.xs.map CSession.abs) n)), (4, .v (.slice none 0 0))], []⟩ [] [] (by kernel_rfl) on wn ?_
    refine l_nil (q_then_normal ?_)
    refine c_ret ?_
    refine q_then_ret (q_ret (.inl rfl) [.v (.slice none 0 0), vI (mSess (s.xs.map CSession.abs) n)] rfl (fun bs w hS => ?_))
    refine ⟨Sl.nil, ?_, ?_, hS.outS (Sl.rd_nil _ _)⟩
    · simp only [retOf, den, List.map_cons, List.map_nil]; rw [fresh_bad (by assumption)]; rfl
    · rw [fresh_bad (by assumption)]; rfl

theorem ref_FreshOf {B : Nat → Prop} (s : Sl CSession) (n : Int) (w : World) (hs : s.rd B w) : Calls Try.prog 37 #[.slice s.A s.n s.c, .int .i64 n] w fun e w' => ∃ y : Sl CSession, e = .returned (.tuple #[y.val, .int .i64 (mFresh (s.xs.map CSession.abs) n).2]) ∧ y.xs.map CSession.abs = (mFresh (s.xs.map CSession.abs) n).1 ∧ FreshS w w' y := by
  have oks := Sl.rd.ok hs
  have ncs := Sl.ok.nc oks
  have hns : s.n = s.xs.length := rfl
  have hml : (s.xs.map CSession.abs).length = s.n := by simp
  refine calls_J0 40 Try.func37 rfl rfl [.slice s.A s.n s.c, .int .i64 n] rfl ?_
  refine c_seq ?_
  refine c_region ?_
  refine JL_run 2 [] [0, 1] 0 ⟨[(0, .v (.slice s.A s.n s.c)), (1, vI n)], []⟩ [] [] (by kernel_rfl) on wn ?_
  refine l_nil (q_then_normal ?_)
  refine c_seq ?_
  refine c_region ?_
  refine JL_run 2 [] [11, 10, 0, 1] 0 ⟨[(11, vI n), (10, .v (.slice s.A s.n s.c)), (0, .v (.slice s.A s.n s.c)), (1, vI n)], []⟩ [] [] (by kernel_rfl) on wn ?_
  refine l_pure 22 [] [.v (.slice s.A s.n s.c), vI n] (.int .i64 (mSess (s.xs.map CSession.abs) n)) Try.call22 rfl rfl rfl rfl (fun bs w hS => ref_SessionsFault s n w (Sl.rd.kp hs hS.kp)) ?_
  refine JL_run 1 [] [6, 0, 1] 0 ⟨[(6, vI (mSess (s.xs.map CSession.abs) n)), (0, .v (.slice s.A s.n s.c)), (1, vI n)], []⟩ [] [] (by kernel_rfl) on wn ?_
  refine l_nil (q_then_normal ?_)
  refine c_seq ?_
  refine c_seq ?_
  refine c_region ?_
  refine JL_run 2 [] [14, 6, 0, 1] 0 ⟨[(14, vB (!(decide (mSess (s.xs.map CSession.abs) n = 0)))), (6, vI (mSess (s.xs.map CSession.abs) n)), (0, .v (.slice s.A s.n s.c)), (1, vI n)], []⟩ [] [] (by kernel_rfl) on wn ?_
  refine l_nil (q_then_normal ?_)
  cases h1 : decide (mSess (s.xs.map CSession.abs) n = 0) with
  | true =>
    have h1 := of_decide_eq_true h1
    obtain ⟨hi0, hi1, hln, hall⟩ := mSess_bd h1
    have hbds : ∀ x, x ∈ s.xs.map CSession.abs → 1 ≤ x.last ∧ x.last ≤ n := fun x hx => by obtain ⟨j, hj, rfl⟩ := List.getElem_of_mem hx; have := sessF_bd (hall j hj); rw [List.getD_eq_getElem?_getD, List.getElem?_eq_getElem hj] at this; simp only [Option.getD_some] at this; omega
    refine c_if false rfl ?_
    refine c_skip ?_
    refine q_then_normal ?_
    refine c_seq ?_
    refine c_region ?_
    refine JL_run 1 [] [7, 0, 1] 0 ⟨[(7, .v (.slice none 0 0)), (0, .v (.slice s.A s.n s.c)), (1, vI n)], []⟩ [] [] (by kernel_rfl) on wn ?_
    refine l_nil (q_then_normal ?_)
    refine c_seq ?_
    refine c_region ?_
    refine JL_run 1 [] [16, 7, 1] 0 ⟨[(16, .v (.slice s.A s.n s.c)), (7, .v (.slice none 0 0)), (1, vI n)], []⟩ [] [] (by kernel_rfl) on wn ?_
    refine l_freshF (σ := Sl CSession) 60 [] [.v (.slice s.A s.n s.c)] (fun y1 => .slice y1.A y1.n y1.c) (fun y1 => y1.xs.map CSession.abs = s.xs.map CSession.abs) (fun y1 => sessR 83 100 y1) Try.call60 rfl rfl rfl rfl (fun bs w hS => ref_SessionsCopy s w (Sl.rd.kp hs hS.kp) (small_sess (by assumption))) ?_
    rintro y1 hF1
    refine l_split2 ?_
    have hnm1 := sess_texts (hs) hF1
    refine l_know (F := ∀ i, i < y1.n → Rds.ok (y1.at i)) (fun bs w hS i hi => Rds.okof (Sl.rd.sub (own_sess (A := y1.A) (c := y1.c) (L := y1.xs) (hS.res _ (.head _)) (hS.res _ (.tail _ (.head _))) hnm1) hi)) fun okown1 => ?_
    refine l_know (F := RowOk y1.A y1.c (y1.xs : List CSession)) (fun bs w hS => rowA_rok (hS.res _ (.tail _ (.head _)))) fun hrow1 => ?_
    have nchrow1 := hrow1.2
    have hnn := map_n hF1
    have hnx : y1.n = y1.xs.length := rfl
    have hlast : ∀ x, x ∈ y1.xs → 1 ≤ x.last ∧ x.last ≤ n := fun x hx => hbds x.abs (hF1 ▸ List.mem_map.2 ⟨x, hx, rfl⟩)
    have hok1 : Sl.ok y1 := ⟨nchrow1.1, by unfold maxLen; exact nchrow1.2, fun i hi => ⟨hrow1.1 i hi, okown1 i hi⟩⟩
    refine JL_run 1 [] [8, 7, 1] 0 ⟨[(8, .v (.slice y1.A y1.n y1.c)), (7, .v (.slice none 0 0)), (1, vI n)], []⟩ [] [] (by kernel_rfl) on wn ?_
    refine l_nil (q_then_normal ?_)
    refine c_seq ?_
    refine c_seq ?_
    refine c_region ?_
    refine JL_run 1 [] [9, 8, 7, 1] 0 ⟨[(9, vI 0), (8, .v (.slice y1.A y1.n y1.c)), (7, .v (.slice none 0 0)), (1, vI n)], []⟩ [] [] (by kernel_rfl) on wn ?_
    refine l_nil (q_then_normal ?_)
    refine c_block ?_
    refine c_rowA (α := CSession) 83 ?_
    refine c_loop (σ := Nat × Option Addr × Nat × List CSession) (fun ⟨i, A, c, L⟩ => i ≤ y1.n ∧ L = (y1.xs.take i).filter (fun x => !stale n x.abs)) (fun ⟨i, A, c, L⟩ => y1.n - i) (fun ⟨i, A, c, L⟩ => [rowA 83 A c (L : List CSession), ownL (keptR 100) y1.xs, rowA 83 y1.A y1.c (y1.xs : List CSession)]) (fun ⟨i, A, c, L⟩ => ⟨[(9, vI ((i : Nat) : Int)), (8, .v (.slice y1.A y1.n y1.c)), (7, .v (.slice A L.length c)), (1, vI n)], []⟩) ⟨0, none, 0, []⟩ ⟨Nat.zero_le _, rfl⟩ (s_start [9, 8, 7, 1] 0 (by kernel_rfl) rfl) ?_
    rintro ⟨i, A, c, L⟩ ⟨hi, hI⟩
    have hLn : L.length ≤ i := by rw [hI]; exact Nat.le_trans (List.length_filter_le _ _) (by rw [List.length_take]; omega)
    refine c_seq ?_
    refine c_seq ?_
    refine c_region ?_
    refine JL_run 4 [] [21, 9, 8, 7, 1] 0 ⟨[(21, vB (decide (((i : Nat) : Int) < ((y1.n : Nat) : Int)))), (9, vI ((i : Nat) : Int)), (8, .v (.slice y1.A y1.n y1.c)), (7, .v (.slice A L.length c)), (1, vI n)], []⟩ [] [] (by kernel_rfl) on wn ?_
    refine l_nil (q_then_normal ?_)
    cases h2 : decide (((i : Nat) : Int) < ((y1.n : Nat) : Int)) with
    | true =>
      have h2 := of_decide_eq_true h2
      have hla := hlast (y1.xs.getD i default) (mem_of_getD (by omega))
      refine c_if true rfl ?_
      refine c_skip ?_
      refine q_then_normal ?_
      refine c_seq ?_
      refine c_block ?_
      refine c_seq ?_
      refine c_region ?_
      refine JL_run 8 [(2, .idx (oad y1.A) i), (4, .ext [.int .i64 (y1.xs.getD i default).last])] [31, 9, 8, 7, 1] 0 ⟨[(31, vB (decide (n < (y1.xs.getD i default).last + 40))), (9, vI ((i : Nat) : Int)), (8, .v (.slice y1.A y1.n y1.c)), (7, .v (.slice A L.length c)), (1, vI n)], []⟩ [y1.A = some (oad y1.A), ((i : Nat) : Int) = ((i : Nat) : Int), i < y1.n, inR ((y1.xs.getD i default).last + 40)] [(((oad y1.A).add (i * 5)).add 3, [.int .i64 (y1.xs.getD i default).last])] (by kernel_rfl) (oc (hrow1.1 i (by omega)) (oc rfl (oc (by omega) (oc (by unfold inR; omega) on)))) (fun w hk hr => ⟨(rowA_fld (i := i) (hr _ (.tail _ (.tail _ (.head _)))) (by omega) 3 1 rfl), trivial⟩) ?_
      refine l_nil (q_then_normal ?_)
      cases h3 : decide (n < (y1.xs.getD i default).last + 40) with
      | true =>
        have h3 := of_decide_eq_true h3
        refine c_if true rfl ?_
        refine c_region ?_
        refine JL_run 6 [(3, .idx (oad y1.A) i), (4, .ext [.int .i64 (y1.xs.getD i default).client, .int .i64 (y1.xs.getD i default).id, .int .i64 (y1.xs.getD i default).acked, .int .i64 (y1.xs.getD i default).last, .slice (y1.xs.getD i default).replies.A (y1.xs.getD i default).replies.n (y1.xs.getD i default).replies.c])] [37, 32, 9, 8, 1] 1 ⟨[(37, .s 0 0 1 1), (32, .v (.slice A L.length c)), (9, vI ((i : Nat) : Int)), (8, .v (.slice y1.A y1.n y1.c)), (1, vI n)], [⟨83, [vI (y1.xs.getD i default).client, vI (y1.xs.getD i default).id, vI (y1.xs.getD i default).acked, vI (y1.xs.getD i default).last, .v (.slice (y1.xs.getD i default).replies.A (y1.xs.getD i default).replies.n (y1.xs.getD i default).replies.c)]⟩]⟩ [y1.A = some (oad y1.A), ((i : Nat) : Int) = ((i : Nat) : Int), i < y1.n] [((oad y1.A).add (i * 5), [.int .i64 (y1.xs.getD i default).client, .int .i64 (y1.xs.getD i default).id, .int .i64 (y1.xs.getD i default).acked, .int .i64 (y1.xs.getD i default).last, .slice (y1.xs.getD i default).replies.A (y1.xs.getD i default).replies.n (y1.xs.getD i default).replies.c])] (by kernel_rfl) (oc (hrow1.1 i (by omega)) (oc rfl (oc (by omega) on))) (fun w hk hr => ⟨(rowA_all (i := i) (hr _ (.tail _ (.tail _ (.head _)))) (by omega) rfl), trivial⟩) ?_
        refine l_appendA (α := CSession) 83 56 A c (L) (.s 0 0 1 1) ([(⟨(y1.xs.getD i default).client, (y1.xs.getD i default).id, (y1.xs.getD i default).acked, (y1.xs.getD i default).last, (y1.xs.getD i default).replies⟩ : CSession)]) Try.underlying24 (by kernel_rfl) rfl rfl rfl (fun bs w hS => by obtain ⟨q1, q2, q3, q4⟩ := src_loc (i := 0) (off := 0) (k := 1) (c := 1) (q := 5) (vs := [.int .i64 (y1.xs.getD i default).client, .int .i64 (y1.xs.getD i default).id, .int .i64 (y1.xs.getD i default).acked, .int .i64 (y1.xs.getD i default).last, .slice (y1.xs.getD i default).replies.A (y1.xs.getD i default).replies.n (y1.xs.getD i default).replies.c]) hS rfl rfl; exact ⟨some q1, q2, q3, q4⟩) (by first | omega | (simp only [List.length_nil, List.length_cons, List.length_append]; omega)) (by first | omega | (simp only [List.length_nil, List.length_cons, List.length_append]; omega)) ?_
        intro A3 c3
        refine JL_run 1 [] [7, 9, 8, 1] 0 ⟨[(7, .v (.slice A3 (L ++ [(⟨(y1.xs.getD i default).client, (y1.xs.getD i default).id, (y1.xs.getD i default).acked, (y1.xs.getD i default).last, (y1.xs.getD i default).replies⟩ : CSession)]).length c3)), (9, vI ((i : Nat) : Int)), (8, .v (.slice y1.A y1.n y1.c)), (1, vI n)], []⟩ [] [] (by kernel_rfl) on wn ?_
        refine l_nil (q_block_normal (q_then_normal ?_))
        refine c_region ?_
        refine JL_run 3 [] [9, 7, 8, 1] 0 ⟨[(9, vI (((i : Nat) : Int) + 1)), (7, .v (.slice A3 (L ++ [(⟨(y1.xs.getD i default).client, (y1.xs.getD i default).id, (y1.xs.getD i default).acked, (y1.xs.getD i default).last, (y1.xs.getD i default).replies⟩ : CSession)]).length c3)), (8, .v (.slice y1.A y1.n y1.c)), (1, vI n)], []⟩ [inR (((i : Nat) : Int) + 1)] [] (by kernel_rfl) (oc (by unfold inR; omega) on) wn ?_
        refine l_nil (q_loop (x := (⟨i, A, c, L⟩ : Nat × Option Addr × Nat × List CSession)) (⟨i + 1, A3, c3, L ++ [(⟨(y1.xs.getD i default).client, (y1.xs.getD i default).id, (y1.xs.getD i default).acked, (y1.xs.getD i default).last, (y1.xs.getD i default).replies⟩ : CSession)]⟩ : Nat × Option Addr × Nat × List CSession) ⟨by omega, by first | exact fresh_in hI (by omega) (decide_eq_false (show ¬ (40 < n + 1 - (y1.xs.getD i default).last) by omega)) | exact fresh_out hI (by omega) (decide_eq_true (show 40 < n + 1 - (y1.xs.getD i default).last by omega))⟩ (by show y1.n - (i + 1) < y1.n - i; omega) (s_start [9, 8, 7, 1] 0 (by kernel_rfl) rfl))
      | false =>
        have h3 := of_decide_eq_false h3
        refine c_if false rfl ?_
        refine c_skip ?_
        refine q_block_normal (q_then_normal ?_)
        refine c_region ?_
        refine JL_run 3 [] [9, 8, 7, 1] 0 ⟨[(9, vI (((i : Nat) : Int) + 1)), (8, .v (.slice y1.A y1.n y1.c)), (7, .v (.slice A L.length c)), (1, vI n)], []⟩ [inR (((i : Nat) : Int) + 1)] [] (by kernel_rfl) (oc (by unfold inR; omega) on) wn ?_
        refine l_nil (q_loop (x := (⟨i, A, c, L⟩ : Nat × Option Addr × Nat × List CSession)) (⟨i + 1, A, c, L⟩ : Nat × Option Addr × Nat × List CSession) ⟨by omega, by first | exact fresh_in hI (by omega) (decide_eq_false (show ¬ (40 < n + 1 - (y1.xs.getD i default).last) by omega)) | exact fresh_out hI (by omega) (decide_eq_true (show 40 < n + 1 - (y1.xs.getD i default).last by omega))⟩ (by show y1.n - (i + 1) < y1.n - i; omega) (s_start [9, 8, 7, 1] 0 (by kernel_rfl) rfl))
    | false =>
      have h2 := of_decide_eq_false h2
      refine c_if false rfl ?_
      refine c_exit ?_
      refine q_then_exit (q_then_exit (q_block_hit (q_then_normal ?_)))
      refine c_seq ?_
      refine c_region ?_
      refine JL_run 3 [] [5, 4] 0 ⟨[(5, vI 0), (4, .v (.slice A L.length c))], []⟩ [] [] (by kernel_rfl) on wn ?_
      refine l_nil (q_then_normal ?_)
      refine c_ret ?_
      refine q_ret (.inl rfl) [.v (.slice A L.length c), vI 0] rfl (fun bs w hS => ?_)
      have hm := fresh_ok (l := s.xs.map CSession.abs) (index := n) (by assumption)
      rw [hm]
      have hLe : L = y1.xs.filter fun x => !stale n x.abs := by rw [hI, take_all (by omega)]
      refine ⟨⟨A, c, L⟩, rfl, ?_, hS.outS (y := (⟨A, c, L⟩ : Sl CSession)) (out_sess (L0 := y1.xs) (.head _) (.tail _ (.head _)) hS.res (fun x hx => by rw [hLe] at hx; exact (List.mem_filter.1 hx).1) hnm1)⟩
      show L.map _ = _
      rw [hLe, filter_abs, hF1]
  | false =>
    have h1 := of_decide_eq_false h1
    refine c_if true rfl ?_
    refine c_seq ?_
    refine c_region ?_
    refine JL_run 3 [] [5, 4] 0 ⟨[(5, vI (mSess (s.xs.map CSession.abs) n)), (4, .v (.slice none 0 0))], []⟩ [] [] (by kernel_rfl) on wn ?_
    refine l_nil (q_then_normal ?_)
    refine c_ret ?_
    refine q_then_ret (q_ret (.inl rfl) [.v (.slice none 0 0), vI (mSess (s.xs.map CSession.abs) n)] rfl (fun bs w hS => ?_))
    refine ⟨Sl.nil, ?_, ?_, hS.outS (Sl.rd_nil _ _)⟩
    · simp only [retOf, den, List.map_cons, List.map_nil]; rw [fresh_bad (by assumption)]; rfl
    · rw [fresh_bad (by assumption)]; rfl

theorem law_SessionFresh {B : Nat → Prop} (s : Sl CSession) (n : Int) (w : World) (hs : s.rd B w) (hsm : Rds.small s) : Calls Try.prog 13 #[.slice s.A s.n s.c, .int .i64 n] w fun e w' => e = .returned (.bool true) ∧ Kp [] w w' := by
  have oks := Sl.rd.ok hs
  have ncs := Sl.ok.nc oks
  have hns : s.n = s.xs.length := rfl
  refine calls_J0 37 Try.func13 rfl rfl [.slice s.A s.n s.c, .int .i64 n] rfl ?_
  refine c_seq ?_
  refine c_region ?_
  refine JL_run 1 [] [0, 1] 0 ⟨[(0, .v (.slice s.A s.n s.c)), (1, vI n)], []⟩ [] [] (by kernel_rfl) on wn ?_
  refine l_nil (q_then_normal ?_)
  refine c_seq ?_
  refine c_region ?_
  refine JL_run 1 [] [10, 0, 1] 0 ⟨[(10, .v (.slice s.A s.n s.c)), (0, .v (.slice s.A s.n s.c)), (1, vI n)], []⟩ [] [] (by kernel_rfl) on wn ?_
  refine l_sub_call (σ := Sl CSession) 35 [] [.v (.slice s.A s.n s.c)] (fun y1 => .slice y1.A y1.n y1.c) (fun y1 => y1.xs.map CSession.abs = s.xs.map CSession.abs) Try.call35 rfl rfl rfl rfl (fun bs w hS => law_kept s w (Sl.rd.kp hs hS.kp) hsm) ?_
  rintro fp1 y1 hF1 hok1
  refine JL_run 1 [] [5, 0, 1] 0 ⟨[(5, .v (.slice y1.A y1.n y1.c)), (0, .v (.slice s.A s.n s.c)), (1, vI n)], []⟩ [] [] (by kernel_rfl) on wn ?_
  refine l_nil (q_then_normal ?_)
  refine c_seq ?_
  refine c_region ?_
  refine JL_run 2 [] [14, 13, 5, 0, 1] 0 ⟨[(14, vI n), (13, .v (.slice y1.A y1.n y1.c)), (5, .v (.slice y1.A y1.n y1.c)), (0, .v (.slice s.A s.n s.c)), (1, vI n)], []⟩ [] [] (by kernel_rfl) on wn ?_
  refine l_sub_call (σ := Sl CSession) 36 [] [.v (.slice y1.A y1.n y1.c), vI n] (fun y2 => .tuple #[.slice y2.A y2.n y2.c, .int .i64 ((mFresh (y1.xs.map CSession.abs) n).2)]) (fun y2 => y2.xs.map CSession.abs = (mFresh (y1.xs.map CSession.abs) n).1) Try.call36 rfl rfl rfl rfl (fun bs w hS => session_Fresh y1 n w (hS.res _ (.head _))) ?_
  rintro fp2 y2 hF2 hok2
  refine JL_run 5 [] [7, 6, 5, 0, 1] 0 ⟨[(7, vI ((mFresh (y1.xs.map CSession.abs) n).2)), (6, .v (.slice y2.A y2.n y2.c)), (5, .v (.slice y1.A y1.n y1.c)), (0, .v (.slice s.A s.n s.c)), (1, vI n)], []⟩ [] [] (by kernel_rfl) on wn ?_
  refine l_nil (q_then_normal ?_)
  refine c_seq ?_
  refine c_region ?_
  refine JL_run 2 [] [20, 19, 7, 6, 5, 0] 0 ⟨[(20, vI n), (19, .v (.slice s.A s.n s.c)), (7, vI ((mFresh (y1.xs.map CSession.abs) n).2)), (6, .v (.slice y2.A y2.n y2.c)), (5, .v (.slice y1.A y1.n y1.c)), (0, .v (.slice s.A s.n s.c))], []⟩ [] [] (by kernel_rfl) on wn ?_
  refine l_sub_call (σ := Sl CSession) 37 [] [.v (.slice s.A s.n s.c), vI n] (fun y3 => .tuple #[.slice y3.A y3.n y3.c, .int .i64 ((mFresh (s.xs.map CSession.abs) n).2)]) (fun y3 => y3.xs.map CSession.abs = (mFresh (s.xs.map CSession.abs) n).1) Try.call37 rfl rfl rfl rfl (fun bs w hS => ref_FreshOf s n w (Sl.rd.kp hs hS.kp)) ?_
  rintro fp3 y3 hF3 hok3
  refine JL_run 5 [] [9, 8, 7, 6, 5, 0] 0 ⟨[(9, vI ((mFresh (s.xs.map CSession.abs) n).2)), (8, .v (.slice y3.A y3.n y3.c)), (7, vI ((mFresh (y1.xs.map CSession.abs) n).2)), (6, .v (.slice y2.A y2.n y2.c)), (5, .v (.slice y1.A y1.n y1.c)), (0, .v (.slice s.A s.n s.c))], []⟩ [] [] (by kernel_rfl) on wn ?_
  refine l_nil (q_then_normal ?_)
  refine c_seq ?_
  refine c_region ?_
  refine JL_run 4 [] [27, 8, 6, 5, 0] 0 ⟨[(27, vB (decide ((mFresh (y1.xs.map CSession.abs) n).2 = (mFresh (s.xs.map CSession.abs) n).2))), (8, .v (.slice y3.A y3.n y3.c)), (6, .v (.slice y2.A y2.n y2.c)), (5, .v (.slice y1.A y1.n y1.c)), (0, .v (.slice s.A s.n s.c))], []⟩ [] [] (by kernel_rfl) on wn ?_
  cases h1 : decide ((mFresh (y1.xs.map CSession.abs) n).2 = (mFresh (s.xs.map CSession.abs) n).2) with
  | true =>
    have h1 := of_decide_eq_true h1
    refine JL_run 2 [] [29, 28, 27, 5, 0] 0 ⟨[(29, .v (.slice y3.A y3.n y3.c)), (28, .v (.slice y2.A y2.n y2.c)), (27, vB true), (5, .v (.slice y1.A y1.n y1.c)), (0, .v (.slice s.A s.n s.c))], []⟩ [] [] (by kernel_rfl) on wn ?_
    refine l_pure 38 [] [.v (.slice y2.A y2.n y2.c), .v (.slice y3.A y3.n y3.c)] (.bool true) Try.call38 rfl rfl rfl rfl (fun bs w hS => same_sessions _ _ w (hS.res _ (.tail _ (.head _))) (hS.res _ (.head _)) (by rw [hF2, hF3, hF1])) ?_
    refine JL_run 4 [] [34, 33, 32] 0 ⟨[(34, .v (.slice s.A s.n s.c)), (33, .v (.slice y1.A y1.n y1.c)), (32, vB true)], []⟩ [] [] (by kernel_rfl) on wn ?_
    refine l_pure 38 [] [.v (.slice y1.A y1.n y1.c), .v (.slice s.A s.n s.c)] (.bool true) Try.call38 rfl rfl rfl rfl (fun bs w hS => same_sessions _ _ w (hS.res _ (.tail _ (.tail _ (.head _)))) (Sl.rd.kp hs hS.kp) hF1) ?_
    refine JL_run 2 [] [4] 0 ⟨[(4, vB true)], []⟩ [] [] (by kernel_rfl) on wn ?_
    refine l_nil (q_then_normal ?_)
    refine c_ret ?_
    refine q_ret (.inl rfl) [vB true] rfl (fun bs w hS => ?_)
    refine ⟨?_, hS.kp⟩
    simp [retOf, den]
  | false =>
    have h1 := of_decide_eq_false h1
    exfalso; first | (simp at h1; done) | (rw [hF1] at h1; simp at h1; done)

end Go.Proofs.Ytececkgjacccmab.W
