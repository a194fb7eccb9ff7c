/-
  The functions that the law MachineChecks reaches, walked: each returns what its model says.
  Conditions: those that each theorem states.
-/
import Derived.Test.YtececkgjacccmacWMachineChecksa
set_option linter.unusedVariables false
set_option linter.unusedSimpArgs false
set_option maxRecDepth 100000
namespace Go.Proofs.Ytececkgjacccmac.W
open Go.Proofs.Ytececkgjacccmac.Fw Go.RowKit

theorem session_Check {B : Nat → Prop} (s : Sl CSession) (n : Int) (w : World) (hs : s.rd B w) : Calls Try.prog 59 #[.slice s.A s.n s.c, .int .i64 n] w fun e w' => e = .returned (.int .i64 (mSess (s.xs.map CSession.abs) n)) ∧ Kp [] w w' := by
  have oks := Sl.rd.ok hs
  have ncs := Sl.ok.nc oks
  have hns : s.n = s.xs.length := rfl
  have hat : ∀ q, (s.xs.map CSession.abs).getD q default = (s.at q).abs := fun q => sabs_at q
  have hq0 : ∀ q, (s.at q).abs.client = (s.at q).client := fun _ => rfl
  have hq1 : ∀ q, (s.at q).abs.id = (s.at q).id := fun _ => rfl
  have hq2 : ∀ q, (s.at q).abs.acked = (s.at q).acked := fun _ => rfl
  have hq3 : ∀ q, (s.at q).abs.last = (s.at q).last := fun _ => rfl
  have hml : (s.xs.map CSession.abs).length = s.n := by simp
  refine calls_J0 76 Try.func59 rfl rfl [.slice s.A s.n s.c, .int .i64 n] rfl ?_
  refine c_seq ?_
  refine c_region ?_
  refine JL_run 1 [] [0, 1] 0 ⟨[(0, .v (.slice s.A s.n s.c)), (1, vI n)], []⟩ [] [] (by kernel_rfl) on wn ?_
  refine l_nil (q_then_normal ?_)
  refine c_seq ?_
  refine c_seq ?_
  refine c_region ?_
  refine JL_run 3 [] [9, 0, 1] 0 ⟨[(9, vB (decide (n < 0))), (0, .v (.slice s.A s.n s.c)), (1, vI n)], []⟩ [] [] (by kernel_rfl) on wn ?_
  cases h1 : decide (n < 0) with
  | true =>
    have h1 := of_decide_eq_true h1
    refine JL_run 3 [] [12, 0, 1] 0 ⟨[(12, vB true), (0, .v (.slice s.A s.n s.c)), (1, vI n)], []⟩ [] [] (by kernel_rfl) on wn ?_
    refine l_nil (q_then_normal ?_)
    refine c_if true rfl ?_
    refine c_seq ?_
    refine c_region ?_
    refine JL_run 1 [] [4] 0 ⟨[(4, vI 2)], []⟩ [] [] (by kernel_rfl) on wn ?_
    refine l_nil (q_then_normal ?_)
    refine c_ret ?_
    refine q_then_ret (q_ret (.inl rfl) [vI 2] rfl (fun bs w hS => ?_))
    refine ⟨?_, hS.kp⟩
    simp only [retOf, den, List.map_cons, List.map_nil]
    have hm : mSess (s.xs.map CSession.abs) n = 2 := by
      unfold mSess; rw [hml]
      first | rw [if_pos (by omega)] | rw [if_neg (by omega), if_pos (by omega)]
    rw [hm]
  | false =>
    have h1 := of_decide_eq_false h1
    refine JL_run 3 [] [12, 0, 1] 0 ⟨[(12, vB (decide ((1073741824 : Int) < n))), (0, .v (.slice s.A s.n s.c)), (1, vI n)], []⟩ [] [] (by kernel_rfl) on wn ?_
    refine l_nil (q_then_normal ?_)
    cases h2 : decide ((1073741824 : Int) < n) with
    | true =>
      have h2 := of_decide_eq_true h2
      refine c_if true rfl ?_
      refine c_seq ?_
      refine c_region ?_
      refine JL_run 1 [] [4] 0 ⟨[(4, vI 2)], []⟩ [] [] (by kernel_rfl) on wn ?_
      refine l_nil (q_then_normal ?_)
      refine c_ret ?_
      refine q_then_ret (q_ret (.inl rfl) [vI 2] rfl (fun bs w hS => ?_))
      refine ⟨?_, hS.kp⟩
      simp only [retOf, den, List.map_cons, List.map_nil]
      have hm : mSess (s.xs.map CSession.abs) n = 2 := by
        unfold mSess; rw [hml]
        first | rw [if_pos (by omega)] | rw [if_neg (by omega), if_pos (by omega)]
      rw [hm]
    | false =>
      have h2 := of_decide_eq_false h2
      refine c_if false rfl ?_
      refine c_skip ?_
      refine q_then_normal ?_
      refine c_seq ?_
      refine c_seq ?_
      refine c_region ?_
      refine JL_run 3 [] [15, 0, 1] 0 ⟨[(15, vB (decide ((4 : Int) < ((s.n : Nat) : Int)))), (0, .v (.slice s.A s.n s.c)), (1, vI n)], []⟩ [] [] (by kernel_rfl) on wn ?_
      refine l_nil (q_then_normal ?_)
      cases h3 : decide ((4 : Int) < ((s.n : Nat) : Int)) with
      | true =>
        have h3 := of_decide_eq_true h3
        refine c_if true rfl ?_
        refine c_seq ?_
        refine c_region ?_
        refine JL_run 1 [] [4] 0 ⟨[(4, vI 1)], []⟩ [] [] (by kernel_rfl) on wn ?_
        refine l_nil (q_then_normal ?_)
        refine c_ret ?_
        refine q_then_ret (q_ret (.inl rfl) [vI 1] rfl (fun bs w hS => ?_))
        refine ⟨?_, hS.kp⟩
        simp only [retOf, den, List.map_cons, List.map_nil]
        have hm : mSess (s.xs.map CSession.abs) n = 1 := by
          unfold mSess; rw [hml]
          first | rw [if_pos (by omega)] | rw [if_neg (by omega), if_pos (by omega)]
        rw [hm]
      | false =>
        have h3 := of_decide_eq_false h3
        refine c_if false rfl ?_
        refine c_skip ?_
        refine q_then_normal ?_
        refine c_seq ?_
        refine c_seq ?_
        refine c_region ?_
        refine JL_run 3 [] [18, 17, 16, 0, 1] 0 ⟨[(18, vI 0), (17, vI ((s.n : Nat) : Int)), (16, .v (.slice s.A s.n s.c)), (0, .v (.slice s.A s.n s.c)), (1, vI n)], []⟩ [] [] (by kernel_rfl) on wn ?_
        refine l_nil (q_then_normal ?_)
        refine c_block ?_
        refine c_loop (σ := Nat) (fun i => i ≤ s.n ∧ mSess (s.xs.map CSession.abs) n = firstF (sessF (s.xs.map CSession.abs) n) (s.n - i) i) (fun i => s.n - i) (fun i => []) (fun i => ⟨[(18, vI ((i : Nat) : Int)), (17, vI ((s.n : Nat) : Int)), (16, .v (.slice s.A s.n s.c)), (0, .v (.slice s.A s.n s.c)), (1, vI n)], []⟩) 0 ⟨Nat.zero_le _, by unfold mSess; rw [hml, if_neg (by omega), if_neg (by omega)]⟩ (s_start [18, 17, 16, 0, 1] 0 (by kernel_rfl) rfl) ?_
        rintro i ⟨hi, hI⟩
        refine c_seq ?_
        refine c_region ?_
        refine JL_run 1 [] [19, 18, 17, 16, 0, 1] 0 ⟨[(19, vB (decide (((i : Nat) : Int) < ((s.n : Nat) : Int)))), (18, vI ((i : Nat) : Int)), (17, vI ((s.n : Nat) : Int)), (16, .v (.slice s.A s.n s.c)), (0, .v (.slice s.A s.n s.c)), (1, vI n)], []⟩ [] [] (by kernel_rfl) on wn ?_
        refine l_nil (q_then_normal ?_)
        refine c_seq ?_
        cases h4 : decide (((i : Nat) : Int) < ((s.n : Nat) : Int)) with
        | true =>
          have h4 := of_decide_eq_true h4
          refine c_if true rfl ?_
          refine c_skip ?_
          refine q_then_normal ?_
          refine c_seq ?_
          refine c_block ?_
          refine c_seq ?_
          refine c_region ?_
          refine JL_run 6 [(1, .idx s.ad i), (2, .ext [.int .i64 (s.at i).client, .int .i64 (s.at i).id, .int .i64 (s.at i).acked, .int .i64 (s.at i).last, .slice (s.at i).replies.A (s.at i).replies.n (s.at i).replies.c])] [5, 6, 18, 17, 16, 0, 1] 1 ⟨[(5, vI ((i : Nat) : Int)), (6, .p 0 0), (18, vI ((i : Nat) : Int)), (17, vI ((s.n : Nat) : Int)), (16, .v (.slice s.A s.n s.c)), (0, .v (.slice s.A s.n s.c)), (1, vI n)], [⟨98, [vI (s.at i).client, vI (s.at i).id, vI (s.at i).acked, vI (s.at i).last, .v (.slice (s.at i).replies.A (s.at i).replies.n (s.at i).replies.c)]⟩]⟩ [s.A = some s.ad, ((i : Nat) : Int) = ((i : Nat) : Int), i < s.n] [(s.ad.add (i * 5), [.int .i64 (s.at i).client, .int .i64 (s.at i).id, .int .i64 (s.at i).acked, .int .i64 (s.at i).last, .slice (s.at i).replies.A (s.at i).replies.n (s.at i).replies.c])] (by kernel_rfl) (oc (Sl.ok.own (s := s) (i := i) oks (by omega)) (oc rfl (oc (by omega) on))) (fun w hk hr => ⟨(Sl.rd.all (s := s) (i := i) (Sl.rd.kp hs hk) (by omega) rfl), trivial⟩) ?_
          refine l_nil (q_then_normal ?_)
          refine c_seq ?_
          refine c_seq ?_
          refine c_region ?_
          refine JL_run 4 [] [26, 5, 6, 18, 17, 16, 0, 1] 1 ⟨[(26, vB (decide ((s.at i).client < 1))), (5, vI ((i : Nat) : Int)), (6, .p 0 0), (18, vI ((i : Nat) : Int)), (17, vI ((s.n : Nat) : Int)), (16, .v (.slice s.A s.n s.c)), (0, .v (.slice s.A s.n s.c)), (1, vI n)], [⟨98, [vI (s.at i).client, vI (s.at i).id, vI (s.at i).acked, vI (s.at i).last, .v (.slice (s.at i).replies.A (s.at i).replies.n (s.at i).replies.c)]⟩]⟩ [] [] (by kernel_rfl) on wn ?_
          cases h5 : decide ((s.at i).client < 1) with
          | true =>
            have h5 := of_decide_eq_true h5
            refine JL_run 32 [] [58, 5, 6, 18, 17, 16, 0, 1] 1 ⟨[(58, vB true), (5, vI ((i : Nat) : Int)), (6, .p 0 0), (18, vI ((i : Nat) : Int)), (17, vI ((s.n : Nat) : Int)), (16, .v (.slice s.A s.n s.c)), (0, .v (.slice s.A s.n s.c)), (1, vI n)], [⟨98, [vI (s.at i).client, vI (s.at i).id, vI (s.at i).acked, vI (s.at i).last, .v (.slice (s.at i).replies.A (s.at i).replies.n (s.at i).replies.c)]⟩]⟩ [] [] (by kernel_rfl) on wn ?_
            refine l_nil (q_then_normal ?_)
            refine c_if true rfl ?_
            refine c_seq ?_
            refine c_region ?_
            refine JL_run 1 [] [4] 0 ⟨[(4, vI 2)], []⟩ [] [] (by kernel_rfl) on wn ?_
            refine l_nil (q_then_normal ?_)
            refine c_ret ?_
            refine q_then_ret (q_block_ret (q_then_ret (q_then_ret (q_block_ret (q_then_ret (q_ret (.inl rfl) [vI 2] rfl (fun bs w hS => ?_)))))))
            refine ⟨?_, hS.kp⟩
            simp only [retOf, den, List.map_cons, List.map_nil]
            have hf : sessF (s.xs.map CSession.abs) n i = 2 := by
              unfold sessF
              simp only [hat, hq0, hq1, hq2, hq3]
              try simp only [h1, h2, h3, h4, h5, emp_size, ne_eq, not_true_eq_false, not_false_eq_true, true_or, or_true, false_or, or_false, and_true, true_and, and_false, false_and, and_self, or_self, if_true, if_false, Bool.true_eq_false, Bool.false_eq_true, reduceIte, Classical.not_not, Bool.and_eq_true, decide_eq_true_eq]
              repeat (first | rw [if_pos (by omega)] | rw [if_neg (by omega)])
              all_goals first | rfl | (exfalso; omega)
            rw [hI, firstF_here (by omega) hf (by omega)]
          | false =>
            have h5 := of_decide_eq_false h5
            refine JL_run 5 [] [31, 5, 6, 18, 17, 16, 0, 1] 1 ⟨[(31, vB (decide ((9 : Int) < (s.at i).client))), (5, vI ((i : Nat) : Int)), (6, .p 0 0), (18, vI ((i : Nat) : Int)), (17, vI ((s.n : Nat) : Int)), (16, .v (.slice s.A s.n s.c)), (0, .v (.slice s.A s.n s.c)), (1, vI n)], [⟨98, [vI (s.at i).client, vI (s.at i).id, vI (s.at i).acked, vI (s.at i).last, .v (.slice (s.at i).replies.A (s.at i).replies.n (s.at i).replies.c)]⟩]⟩ [] [] (by kernel_rfl) on wn ?_
            cases h6 : decide ((9 : Int) < (s.at i).client) with
            | true =>
              have h6 := of_decide_eq_true h6
              refine JL_run 27 [] [58, 5, 6, 18, 17, 16, 0, 1] 1 ⟨[(58, vB true), (5, vI ((i : Nat) : Int)), (6, .p 0 0), (18, vI ((i : Nat) : Int)), (17, vI ((s.n : Nat) : Int)), (16, .v (.slice s.A s.n s.c)), (0, .v (.slice s.A s.n s.c)), (1, vI n)], [⟨98, [vI (s.at i).client, vI (s.at i).id, vI (s.at i).acked, vI (s.at i).last, .v (.slice (s.at i).replies.A (s.at i).replies.n (s.at i).replies.c)]⟩]⟩ [] [] (by kernel_rfl) on wn ?_
              refine l_nil (q_then_normal ?_)
              refine c_if true rfl ?_
              refine c_seq ?_
              refine c_region ?_
              refine JL_run 1 [] [4] 0 ⟨[(4, vI 2)], []⟩ [] [] (by kernel_rfl) on wn ?_
              refine l_nil (q_then_normal ?_)
              refine c_ret ?_
              refine q_then_ret (q_block_ret (q_then_ret (q_then_ret (q_block_ret (q_then_ret (q_ret (.inl rfl) [vI 2] rfl (fun bs w hS => ?_)))))))
              refine ⟨?_, hS.kp⟩
              simp only [retOf, den, List.map_cons, List.map_nil]
              have hf : sessF (s.xs.map CSession.abs) n i = 2 := by
                unfold sessF
                simp only [hat, hq0, hq1, hq2, hq3]
                try simp only [h1, h2, h3, h4, h5, h6, emp_size, ne_eq, not_true_eq_false, not_false_eq_true, true_or, or_true, false_or, or_false, and_true, true_and, and_false, false_and, and_self, or_self, if_true, if_false, Bool.true_eq_false, Bool.false_eq_true, reduceIte, Classical.not_not, Bool.and_eq_true, decide_eq_true_eq]
                repeat (first | rw [if_pos (by omega)] | rw [if_neg (by omega)])
                all_goals first | rfl | (exfalso; omega)
              rw [hI, firstF_here (by omega) hf (by omega)]
            | false =>
              have h6 := of_decide_eq_false h6
              refine JL_run 5 [] [36, 5, 6, 18, 17, 16, 0, 1] 1 ⟨[(36, vB (decide ((s.at i).acked < 0))), (5, vI ((i : Nat) : Int)), (6, .p 0 0), (18, vI ((i : Nat) : Int)), (17, vI ((s.n : Nat) : Int)), (16, .v (.slice s.A s.n s.c)), (0, .v (.slice s.A s.n s.c)), (1, vI n)], [⟨98, [vI (s.at i).client, vI (s.at i).id, vI (s.at i).acked, vI (s.at i).last, .v (.slice (s.at i).replies.A (s.at i).replies.n (s.at i).replies.c)]⟩]⟩ [] [] (by kernel_rfl) on wn ?_
              cases h7 : decide ((s.at i).acked < 0) with
              | true =>
                have h7 := of_decide_eq_true h7
                refine JL_run 22 [] [58, 5, 6, 18, 17, 16, 0, 1] 1 ⟨[(58, vB true), (5, vI ((i : Nat) : Int)), (6, .p 0 0), (18, vI ((i : Nat) : Int)), (17, vI ((s.n : Nat) : Int)), (16, .v (.slice s.A s.n s.c)), (0, .v (.slice s.A s.n s.c)), (1, vI n)], [⟨98, [vI (s.at i).client, vI (s.at i).id, vI (s.at i).acked, vI (s.at i).last, .v (.slice (s.at i).replies.A (s.at i).replies.n (s.at i).replies.c)]⟩]⟩ [] [] (by kernel_rfl) on wn ?_
                refine l_nil (q_then_normal ?_)
                refine c_if true rfl ?_
                refine c_seq ?_
                refine c_region ?_
                refine JL_run 1 [] [4] 0 ⟨[(4, vI 2)], []⟩ [] [] (by kernel_rfl) on wn ?_
                refine l_nil (q_then_normal ?_)
                refine c_ret ?_
                refine q_then_ret (q_block_ret (q_then_ret (q_then_ret (q_block_ret (q_then_ret (q_ret (.inl rfl) [vI 2] rfl (fun bs w hS => ?_)))))))
                refine ⟨?_, hS.kp⟩
                simp only [retOf, den, List.map_cons, List.map_nil]
                have hf : sessF (s.xs.map CSession.abs) n i = 2 := by
                  unfold sessF
                  simp only [hat, hq0, hq1, hq2, hq3]
                  try simp only [h1, h2, h3, h4, h5, h6, h7, emp_size, ne_eq, not_true_eq_false, not_false_eq_true, true_or, or_true, false_or, or_false, and_true, true_and, and_false, false_and, and_self, or_self, if_true, if_false, Bool.true_eq_false, Bool.false_eq_true, reduceIte, Classical.not_not, Bool.and_eq_true, decide_eq_true_eq]
                  repeat (first | rw [if_pos (by omega)] | rw [if_neg (by omega)])
                  all_goals first | rfl | (exfalso; omega)
                rw [hI, firstF_here (by omega) hf (by omega)]
              | false =>
                have h7 := of_decide_eq_false h7
                refine JL_run 5 [] [41, 5, 6, 18, 17, 16, 0, 1] 1 ⟨[(41, vB (decide ((1048576 : Int) < (s.at i).acked))), (5, vI ((i : Nat) : Int)), (6, .p 0 0), (18, vI ((i : Nat) : Int)), (17, vI ((s.n : Nat) : Int)), (16, .v (.slice s.A s.n s.c)), (0, .v (.slice s.A s.n s.c)), (1, vI n)], [⟨98, [vI (s.at i).client, vI (s.at i).id, vI (s.at i).acked, vI (s.at i).last, .v (.slice (s.at i).replies.A (s.at i).replies.n (s.at i).replies.c)]⟩]⟩ [] [] (by kernel_rfl) on wn ?_
                cases h8 : decide ((1048576 : Int) < (s.at i).acked) with
                | true =>
                  have h8 := of_decide_eq_true h8
                  refine JL_run 17 [] [58, 5, 6, 18, 17, 16, 0, 1] 1 ⟨[(58, vB true), (5, vI ((i : Nat) : Int)), (6, .p 0 0), (18, vI ((i : Nat) : Int)), (17, vI ((s.n : Nat) : Int)), (16, .v (.slice s.A s.n s.c)), (0, .v (.slice s.A s.n s.c)), (1, vI n)], [⟨98, [vI (s.at i).client, vI (s.at i).id, vI (s.at i).acked, vI (s.at i).last, .v (.slice (s.at i).replies.A (s.at i).replies.n (s.at i).replies.c)]⟩]⟩ [] [] (by kernel_rfl) on wn ?_
                  refine l_nil (q_then_normal ?_)
                  refine c_if true rfl ?_
                  refine c_seq ?_
                  refine c_region ?_
                  refine JL_run 1 [] [4] 0 ⟨[(4, vI 2)], []⟩ [] [] (by kernel_rfl) on wn ?_
                  refine l_nil (q_then_normal ?_)
                  refine c_ret ?_
                  refine q_then_ret (q_block_ret (q_then_ret (q_then_ret (q_block_ret (q_then_ret (q_ret (.inl rfl) [vI 2] rfl (fun bs w hS => ?_)))))))
                  refine ⟨?_, hS.kp⟩
                  simp only [retOf, den, List.map_cons, List.map_nil]
                  have hf : sessF (s.xs.map CSession.abs) n i = 2 := by
                    unfold sessF
                    simp only [hat, hq0, hq1, hq2, hq3]
                    try simp only [h1, h2, h3, h4, h5, h6, h7, h8, emp_size, ne_eq, not_true_eq_false, not_false_eq_true, true_or, or_true, false_or, or_false, and_true, true_and, and_false, false_and, and_self, or_self, if_true, if_false, Bool.true_eq_false, Bool.false_eq_true, reduceIte, Classical.not_not, Bool.and_eq_true, decide_eq_true_eq]
                    repeat (first | rw [if_pos (by omega)] | rw [if_neg (by omega)])
                    all_goals first | rfl | (exfalso; omega)
                  rw [hI, firstF_here (by omega) hf (by omega)]
                | false =>
                  have h8 := of_decide_eq_false h8
                  refine JL_run 5 [] [46, 5, 6, 18, 17, 16, 0, 1] 1 ⟨[(46, vB (decide ((s.at i).id < 1))), (5, vI ((i : Nat) : Int)), (6, .p 0 0), (18, vI ((i : Nat) : Int)), (17, vI ((s.n : Nat) : Int)), (16, .v (.slice s.A s.n s.c)), (0, .v (.slice s.A s.n s.c)), (1, vI n)], [⟨98, [vI (s.at i).client, vI (s.at i).id, vI (s.at i).acked, vI (s.at i).last, .v (.slice (s.at i).replies.A (s.at i).replies.n (s.at i).replies.c)]⟩]⟩ [] [] (by kernel_rfl) on wn ?_
                  cases h9 : decide ((s.at i).id < 1) with
                  | true =>
                    have h9 := of_decide_eq_true h9
                    refine JL_run 12 [] [58, 5, 6, 18, 17, 16, 0, 1] 1 ⟨[(58, vB true), (5, vI ((i : Nat) : Int)), (6, .p 0 0), (18, vI ((i : Nat) : Int)), (17, vI ((s.n : Nat) : Int)), (16, .v (.slice s.A s.n s.c)), (0, .v (.slice s.A s.n s.c)), (1, vI n)], [⟨98, [vI (s.at i).client, vI (s.at i).id, vI (s.at i).acked, vI (s.at i).last, .v (.slice (s.at i).replies.A (s.at i).replies.n (s.at i).replies.c)]⟩]⟩ [] [] (by kernel_rfl) on wn ?_
                    refine l_nil (q_then_normal ?_)
                    refine c_if true rfl ?_
                    refine c_seq ?_
                    refine c_region ?_
                    refine JL_run 1 [] [4] 0 ⟨[(4, vI 2)], []⟩ [] [] (by kernel_rfl) on wn ?_
                    refine l_nil (q_then_normal ?_)
                    refine c_ret ?_
                    refine q_then_ret (q_block_ret (q_then_ret (q_then_ret (q_block_ret (q_then_ret (q_ret (.inl rfl) [vI 2] rfl (fun bs w hS => ?_)))))))
                    refine ⟨?_, hS.kp⟩
                    simp only [retOf, den, List.map_cons, List.map_nil]
                    have hf : sessF (s.xs.map CSession.abs) n i = 2 := by
                      unfold sessF
                      simp only [hat, hq0, hq1, hq2, hq3]
                      try simp only [h1, h2, h3, h4, h5, h6, h7, h8, h9, emp_size, ne_eq, not_true_eq_false, not_false_eq_true, true_or, or_true, false_or, or_false, and_true, true_and, and_false, false_and, and_self, or_self, if_true, if_false, Bool.true_eq_false, Bool.false_eq_true, reduceIte, Classical.not_not, Bool.and_eq_true, decide_eq_true_eq]
                      repeat (first | rw [if_pos (by omega)] | rw [if_neg (by omega)])
                      all_goals first | rfl | (exfalso; omega)
                    rw [hI, firstF_here (by omega) hf (by omega)]
                  | false =>
                    have h9 := of_decide_eq_false h9
                    refine JL_run 7 [] [53, 5, 6, 18, 17, 16, 0, 1] 1 ⟨[(53, vB (decide ((s.at i).last < (s.at i).id))), (5, vI ((i : Nat) : Int)), (6, .p 0 0), (18, vI ((i : Nat) : Int)), (17, vI ((s.n : Nat) : Int)), (16, .v (.slice s.A s.n s.c)), (0, .v (.slice s.A s.n s.c)), (1, vI n)], [⟨98, [vI (s.at i).client, vI (s.at i).id, vI (s.at i).acked, vI (s.at i).last, .v (.slice (s.at i).replies.A (s.at i).replies.n (s.at i).replies.c)]⟩]⟩ [] [] (by kernel_rfl) on wn ?_
                    cases h10 : decide ((s.at i).last < (s.at i).id) with
                    | true =>
                      have h10 := of_decide_eq_true h10
                      refine JL_run 5 [] [58, 5, 6, 18, 17, 16, 0, 1] 1 ⟨[(58, vB true), (5, vI ((i : Nat) : Int)), (6, .p 0 0), (18, vI ((i : Nat) : Int)), (17, vI ((s.n : Nat) : Int)), (16, .v (.slice s.A s.n s.c)), (0, .v (.slice s.A s.n s.c)), (1, vI n)], [⟨98, [vI (s.at i).client, vI (s.at i).id, vI (s.at i).acked, vI (s.at i).last, .v (.slice (s.at i).replies.A (s.at i).replies.n (s.at i).replies.c)]⟩]⟩ [] [] (by kernel_rfl) on wn ?_
                      refine l_nil (q_then_normal ?_)
                      refine c_if true rfl ?_
                      refine c_seq ?_
                      refine c_region ?_
                      refine JL_run 1 [] [4] 0 ⟨[(4, vI 2)], []⟩ [] [] (by kernel_rfl) on wn ?_
                      refine l_nil (q_then_normal ?_)
                      refine c_ret ?_
                      refine q_then_ret (q_block_ret (q_then_ret (q_then_ret (q_block_ret (q_then_ret (q_ret (.inl rfl) [vI 2] rfl (fun bs w hS => ?_)))))))
                      refine ⟨?_, hS.kp⟩
                      simp only [retOf, den, List.map_cons, List.map_nil]
                      have hf : sessF (s.xs.map CSession.abs) n i = 2 := by
                        unfold sessF
                        simp only [hat, hq0, hq1, hq2, hq3]
                        try simp only [h1, h2, h3, h4, h5, h6, h7, h8, h9, h10, emp_size, ne_eq, not_true_eq_false, not_false_eq_true, true_or, or_true, false_or, or_false, and_true, true_and, and_false, false_and, and_self, or_self, if_true, if_false, Bool.true_eq_false, Bool.false_eq_true, reduceIte, Classical.not_not, Bool.and_eq_true, decide_eq_true_eq]
                        repeat (first | rw [if_pos (by omega)] | rw [if_neg (by omega)])
                        all_goals first | rfl | (exfalso; omega)
                      rw [hI, firstF_here (by omega) hf (by omega)]
                    | false =>
                      have h10 := of_decide_eq_false h10
                      refine JL_run 5 [] [58, 5, 6, 18, 17, 16, 0, 1] 1 ⟨[(58, vB (decide (n < (s.at i).last))), (5, vI ((i : Nat) : Int)), (6, .p 0 0), (18, vI ((i : Nat) : Int)), (17, vI ((s.n : Nat) : Int)), (16, .v (.slice s.A s.n s.c)), (0, .v (.slice s.A s.n s.c)), (1, vI n)], [⟨98, [vI (s.at i).client, vI (s.at i).id, vI (s.at i).acked, vI (s.at i).last, .v (.slice (s.at i).replies.A (s.at i).replies.n (s.at i).replies.c)]⟩]⟩ [] [] (by kernel_rfl) on wn ?_
                      refine l_nil (q_then_normal ?_)
                      cases h11 : decide (n < (s.at i).last) with
                      | true =>
                        have h11 := of_decide_eq_true h11
                        refine c_if true rfl ?_
                        refine c_seq ?_
                        refine c_region ?_
                        refine JL_run 1 [] [4] 0 ⟨[(4, vI 2)], []⟩ [] [] (by kernel_rfl) on wn ?_
                        refine l_nil (q_then_normal ?_)
                        refine c_ret ?_
                        refine q_then_ret (q_block_ret (q_then_ret (q_then_ret (q_block_ret (q_then_ret (q_ret (.inl rfl) [vI 2] rfl (fun bs w hS => ?_)))))))
                        refine ⟨?_, hS.kp⟩
                        simp only [retOf, den, List.map_cons, List.map_nil]
                        have hf : sessF (s.xs.map CSession.abs) n i = 2 := by
                          unfold sessF
                          simp only [hat, hq0, hq1, hq2, hq3]
                          try simp only [h1, h2, h3, h4, h5, h6, h7, h8, h9, h10, h11, emp_size, ne_eq, not_true_eq_false, not_false_eq_true, true_or, or_true, false_or, or_false, and_true, true_and, and_false, false_and, and_self, or_self, if_true, if_false, Bool.true_eq_false, Bool.false_eq_true, reduceIte, Classical.not_not, Bool.and_eq_true, decide_eq_true_eq]
                          repeat (first | rw [if_pos (by omega)] | rw [if_neg (by omega)])
                          all_goals first | rfl | (exfalso; omega)
                        rw [hI, firstF_here (by omega) hf (by omega)]
                      | false =>
                        have h11 := of_decide_eq_false h11
                        refine c_if false rfl ?_
                        refine c_skip ?_
                        refine q_then_normal ?_
                        refine c_seq ?_
                        refine c_seq ?_
                        refine c_region ?_
                        refine JL_run 1 [] [59, 5, 6, 18, 17, 16, 0, 1] 1 ⟨[(59, .v (.agg #[.int .i64 (s.at i).client, .int .i64 (s.at i).id, .int .i64 (s.at i).acked, .int .i64 (s.at i).last, .slice (s.at i).replies.A (s.at i).replies.n (s.at i).replies.c])), (5, vI ((i : Nat) : Int)), (6, .p 0 0), (18, vI ((i : Nat) : Int)), (17, vI ((s.n : Nat) : Int)), (16, .v (.slice s.A s.n s.c)), (0, .v (.slice s.A s.n s.c)), (1, vI n)], [⟨98, [vI (s.at i).client, vI (s.at i).id, vI (s.at i).acked, vI (s.at i).last, .v (.slice (s.at i).replies.A (s.at i).replies.n (s.at i).replies.c)]⟩]⟩ [] [] (by kernel_rfl) on wn ?_
                        refine l_pure 98 [] [.v (.agg #[.int .i64 (s.at i).client, .int .i64 (s.at i).id, .int .i64 (s.at i).acked, .int .i64 (s.at i).last, .slice (s.at i).replies.A (s.at i).replies.n (s.at i).replies.c])] (.bool (mReplies (s.at i).abs)) Try.call98 rfl rfl rfl rfl (fun bs w hS => session_replies (s.at i) w (Sl.rd.sub (s := s) (i := i) (Sl.rd.kp hs hS.kp) (by omega)) (by first | exact ⟨by omega, by omega⟩ | (simp only [] at *; exact ⟨by omega, by omega⟩))) ?_
                        refine JL_run 1 [] [61, 5, 6, 18, 17, 16, 0, 1] 1 ⟨[(61, vB (!(mReplies (s.at i).abs))), (5, vI ((i : Nat) : Int)), (6, .p 0 0), (18, vI ((i : Nat) : Int)), (17, vI ((s.n : Nat) : Int)), (16, .v (.slice s.A s.n s.c)), (0, .v (.slice s.A s.n s.c)), (1, vI n)], [⟨98, [vI (s.at i).client, vI (s.at i).id, vI (s.at i).acked, vI (s.at i).last, .v (.slice (s.at i).replies.A (s.at i).replies.n (s.at i).replies.c)]⟩]⟩ [] [] (by kernel_rfl) on wn ?_
                        refine l_nil (q_then_normal ?_)
                        cases h12 : mReplies (s.at i).abs with
                        | true =>
                          refine c_if false rfl ?_
                          refine c_skip ?_
                          refine q_then_normal ?_
                          refine c_seq ?_
                          refine c_draw 13 [(0, false), (1, false), (2, false), (3, false), (4, false), (5, false), (6, false), (7, false), (8, false), (9, false), (10, false), (11, false), (12, false)] [] [] Try_mixed (by kernel_rfl) (pq_then (pq_block (pq_then (pq_then (pq_block (pq_then pq_body)))))) (List.Sublist.refl _) ?_
                          refine h_quiet [] 3 [(64, vB (decide ((0 : Int) < ((i : Nat) : Int)))), (63, vB (decide ((0 : Int) < ((i : Nat) : Int)))), (62, vI ((i : Nat) : Int)), (61, vB false), (5, vI ((i : Nat) : Int)), (6, .p 0 0), (18, vI ((i : Nat) : Int)), (17, vI ((s.n : Nat) : Int)), (16, .v (.slice s.A s.n s.c)), (0, .v (.slice s.A s.n s.c)), (1, vI n)] [] [] rfl rfl (by kernel_rfl) on wn ?_
                          cases h13 : decide ((0 : Int) < ((i : Nat) : Int)) with
                          | true =>
                            have h13 := of_decide_eq_true h13
                            refine h_quiet [(6, .idx s.ad (i - 1)), (8, .ext [.int .i64 (s.at (i - 1)).client])] 10 [(74, vB (decide ((s.at i).client ≤ (s.at (i - 1)).client))), (73, vB (decide ((s.at i).client ≤ (s.at (i - 1)).client))), (72, vI (s.at i).client), (71, .p 0 0), (70, vI (s.at (i - 1)).client), (69, .v (.pointer (some ((s.ad.add ((i - 1) * 5)).add 0)))), (68, .v (.pointer (some (s.ad.add ((i - 1) * 5))))), (67, vI (((i : Nat) : Int) - 1)), (66, vI ((i : Nat) : Int)), (65, .v (.slice s.A s.n s.c)), (64, vB true), (63, vB true), (62, vI ((i : Nat) : Int)), (61, vB false), (5, vI ((i : Nat) : Int)), (6, .p 0 0), (18, vI ((i : Nat) : Int)), (17, vI ((s.n : Nat) : Int)), (16, .v (.slice s.A s.n s.c)), (0, .v (.slice s.A s.n s.c)), (1, vI n)] [inR (((i : Nat) : Int) - 1), s.A = some s.ad, ((i : Nat) : Int) - 1 = (((i - 1) : Nat) : Int), (i - 1) < s.n] [((s.ad.add ((i - 1) * 5)).add 0, [.int .i64 (s.at (i - 1)).client])] rfl rfl (by kernel_rfl) (oc (by unfold inR; omega) (oc (Sl.ok.own (s := s) (i := (i - 1)) oks (by omega)) (oc (by omega) (oc (by omega) on)))) (fun w hk hr => ⟨(Sl.rd.fld (s := s) (i := (i - 1)) (Sl.rd.kp hs hk) (by omega) 0 1 rfl), trivial⟩) ?_
                            refine h_nil ?_
                            refine l_nil (q_then_normal ?_)
                            cases h14 : decide ((s.at i).client ≤ (s.at (i - 1)).client) with
                            | true =>
                              have h14 := of_decide_eq_true h14
                              refine c_if true rfl ?_
                              refine c_seq ?_
                              refine c_region ?_
                              refine JL_run 1 [] [4] 0 ⟨[(4, vI 14)], []⟩ [] [] (by kernel_rfl) on wn ?_
                              refine l_nil (q_then_normal ?_)
                              refine c_ret ?_
                              refine q_block_ret (q_then_ret (q_then_ret (q_block_ret (q_then_ret (q_ret (.inl rfl) [vI 14] rfl (fun bs w hS => ?_))))))
                              refine ⟨?_, hS.kp⟩
                              simp only [retOf, den, List.map_cons, List.map_nil]
                              have hf : sessF (s.xs.map CSession.abs) n i = 14 := by
                                unfold sessF
                                simp only [hat, hq0, hq1, hq2, hq3]
                                try simp only [h1, h2, h3, h4, h5, h6, h7, h8, h9, h10, h11, h12, h13, h14, emp_size, ne_eq, not_true_eq_false, not_false_eq_true, true_or, or_true, false_or, or_false, and_true, true_and, and_false, false_and, and_self, or_self, if_true, if_false, Bool.true_eq_false, Bool.false_eq_true, reduceIte, Classical.not_not, Bool.and_eq_true, decide_eq_true_eq]
                                repeat (first | rw [if_pos (by omega)] | rw [if_neg (by omega)])
                                all_goals first | rfl | (exfalso; omega)
                              rw [hI, firstF_here (by omega) hf (by omega)]
                            | false =>
                              have h14 := of_decide_eq_false h14
                              refine c_if false rfl ?_
                              refine c_skip ?_
                              refine q_block_normal (q_then_normal ?_)
                              refine c_region ?_
                              refine JL_run 2 [] [18, 17, 16, 0, 1] 0 ⟨[(18, vI (((i : Nat) : Int) + 1)), (17, vI ((s.n : Nat) : Int)), (16, .v (.slice s.A s.n s.c)), (0, .v (.slice s.A s.n s.c)), (1, vI n)], []⟩ [inR (((i : Nat) : Int) + 1)] [] (by kernel_rfl) (oc (by unfold inR; omega) on) wn ?_
                              have hf0 : sessF (s.xs.map CSession.abs) n i = 0 := by
                                unfold sessF
                                simp only [hat, hq0, hq1, hq2, hq3]
                                try simp only [h1, h2, h3, h4, h5, h6, h7, h8, h9, h10, h11, h12, h13, h14, emp_size, ne_eq, not_true_eq_false, not_false_eq_true, true_or, or_true, false_or, or_false, and_true, true_and, and_false, false_and, and_self, or_self, if_true, if_false, Bool.true_eq_false, Bool.false_eq_true, reduceIte, Classical.not_not, Bool.and_eq_true, decide_eq_true_eq]
                                repeat (first | rw [if_pos (by omega)] | rw [if_neg (by omega)])
                                all_goals first | rfl | (exfalso; omega)
                              refine l_nil (q_loop (x := (i : Nat)) ((i + 1) : Nat) ⟨by omega, by rw [hI]; exact firstF_step (by omega) hf0⟩ (by omega) (s_start [18, 17, 16, 0, 1] 0 (by kernel_rfl) rfl))
                          | false =>
                            have h13 := of_decide_eq_false h13
                            refine h_quiet [] 10 [(74, vB false), (73, .v (undef)), (72, .v (undef)), (71, .v (undef)), (70, .v (undef)), (69, .v (undef)), (68, .v (undef)), (67, .v (undef)), (66, .v (undef)), (65, .v (undef)), (64, vB false), (63, vB false), (62, vI ((i : Nat) : Int)), (61, vB false), (5, vI ((i : Nat) : Int)), (6, .p 0 0), (18, vI ((i : Nat) : Int)), (17, vI ((s.n : Nat) : Int)), (16, .v (.slice s.A s.n s.c)), (0, .v (.slice s.A s.n s.c)), (1, vI n)] [] [] rfl rfl (by kernel_rfl) on wn ?_
                            refine h_nil ?_
                            refine l_nil (q_then_normal ?_)
                            refine c_if false rfl ?_
                            refine c_skip ?_
                            refine q_block_normal (q_then_normal ?_)
                            refine c_region ?_
                            refine JL_run 2 [] [18, 17, 16, 0, 1] 0 ⟨[(18, vI (((i : Nat) : Int) + 1)), (17, vI ((s.n : Nat) : Int)), (16, .v (.slice s.A s.n s.c)), (0, .v (.slice s.A s.n s.c)), (1, vI n)], []⟩ [inR (((i : Nat) : Int) + 1)] [] (by kernel_rfl) (oc (by unfold inR; omega) on) wn ?_
                            have hf0 : sessF (s.xs.map CSession.abs) n i = 0 := by
                              unfold sessF
                              simp only [hat, hq0, hq1, hq2, hq3]
                              try simp only [h1, h2, h3, h4, h5, h6, h7, h8, h9, h10, h11, h12, h13, emp_size, ne_eq, not_true_eq_false, not_false_eq_true, true_or, or_true, false_or, or_false, and_true, true_and, and_false, false_and, and_self, or_self, if_true, if_false, Bool.true_eq_false, Bool.false_eq_true, reduceIte, Classical.not_not, Bool.and_eq_true, decide_eq_true_eq]
                              repeat (first | rw [if_pos (by omega)] | rw [if_neg (by omega)])
                              all_goals first | rfl | (exfalso; omega)
                            refine l_nil (q_loop (x := (i : Nat)) ((i + 1) : Nat) ⟨by omega, by rw [hI]; exact firstF_step (by omega) hf0⟩ (by omega) (s_start [18, 17, 16, 0, 1] 0 (by kernel_rfl) rfl))
                        | false =>
                          refine c_if true rfl ?_
                          refine c_seq ?_
                          refine c_region ?_
                          refine JL_run 1 [] [4] 0 ⟨[(4, vI 4)], []⟩ [] [] (by kernel_rfl) on wn ?_
                          refine l_nil (q_then_normal ?_)
                          refine c_ret ?_
                          refine q_then_ret (q_block_ret (q_then_ret (q_then_ret (q_block_ret (q_then_ret (q_ret (.inl rfl) [vI 4] rfl (fun bs w hS => ?_)))))))
                          refine ⟨?_, hS.kp⟩
                          simp only [retOf, den, List.map_cons, List.map_nil]
                          have hf : sessF (s.xs.map CSession.abs) n i = 4 := by
                            unfold sessF
                            simp only [hat, hq0, hq1, hq2, hq3]
                            try simp only [h1, h2, h3, h4, h5, h6, h7, h8, h9, h10, h11, h12, emp_size, ne_eq, not_true_eq_false, not_false_eq_true, true_or, or_true, false_or, or_false, and_true, true_and, and_false, false_and, and_self, or_self, if_true, if_false, Bool.true_eq_false, Bool.false_eq_true, reduceIte, Classical.not_not, Bool.and_eq_true, decide_eq_true_eq]
                            repeat (first | rw [if_pos (by omega)] | rw [if_neg (by omega)])
                            all_goals first | rfl | (exfalso; omega)
                          rw [hI, firstF_here (by omega) hf (by omega)]
        | false =>
          have h4 := of_decide_eq_false h4
          refine c_if false rfl ?_
          refine c_exit ?_
          refine q_then_exit (q_then_exit (q_block_hit (q_then_normal ?_)))
          refine c_seq ?_
          refine c_region ?_
          refine JL_run 1 [] [4] 0 ⟨[(4, vI 0)], []⟩ [] [] (by kernel_rfl) on wn ?_
          refine l_nil (q_then_normal ?_)
          refine c_ret ?_
          refine q_ret (.inl rfl) [vI 0] rfl (fun bs w hS => ?_)
          refine ⟨?_, hS.kp⟩
          simp only [retOf, den, List.map_cons, List.map_nil]
          rw [hI, firstF_end (by omega)]

theorem ref_SessionsFault {B : Nat → Prop} (s : Sl CSession) (n : Int) (w : World) (hs : s.rd B w) : Calls Try.prog 63 #[.slice s.A s.n s.c, .int .i64 n] w fun e w' => e = .returned (.int .i64 (mSess (s.xs.map CSession.abs) n)) ∧ Kp [] w w' := by
  have oks := Sl.rd.ok hs
  have ncs := Sl.ok.nc oks
  have hns : s.n = s.xs.length := rfl
  have hat : ∀ q, (s.xs.map CSession.abs).getD q default = (s.at q).abs := fun q => sabs_at q
  have hq0 : ∀ q, (s.at q).abs.client = (s.at q).client := fun _ => rfl
  have hq1 : ∀ q, (s.at q).abs.id = (s.at q).id := fun _ => rfl
  have hq2 : ∀ q, (s.at q).abs.acked = (s.at q).acked := fun _ => rfl
  have hq3 : ∀ q, (s.at q).abs.last = (s.at q).last := fun _ => rfl
  have hml : (s.xs.map CSession.abs).length = s.n := by simp
  refine calls_J0 65 Try.func63 rfl rfl [.slice s.A s.n s.c, .int .i64 n] rfl ?_
  refine c_seq ?_
  refine c_region ?_
  refine JL_run 1 [] [0, 1] 0 ⟨[(0, .v (.slice s.A s.n s.c)), (1, vI n)], []⟩ [] [] (by kernel_rfl) on wn ?_
  refine l_nil (q_then_normal ?_)
  refine c_seq ?_
  refine c_seq ?_
  refine c_region ?_
  refine JL_run 1 [] [7, 0, 1] 0 ⟨[(7, vI n), (0, .v (.slice s.A s.n s.c)), (1, vI n)], []⟩ [] [] (by kernel_rfl) on wn ?_
  refine l_pure 68 [] [vI n, vI 0, vI 1073741824] (.bool (inB n 0 1073741824)) Try.call68 rfl rfl rfl rfl (fun bs w hS => ref_In _ _ _ w) ?_
  refine JL_run 1 [] [9, 0, 1] 0 ⟨[(9, vB (!(inB n 0 1073741824))), (0, .v (.slice s.A s.n s.c)), (1, vI n)], []⟩ [] [] (by kernel_rfl) on wn ?_
  refine l_nil (q_then_normal ?_)
  cases h1 : inB n 0 1073741824 with
  | true =>
    simp only [inB, Bool.and_eq_true, Bool.and_eq_false_iff, decide_eq_true_eq, decide_eq_false_iff_not] at h1
    refine c_if false rfl ?_
    refine c_skip ?_
    refine q_then_normal ?_
    refine c_seq ?_
    refine c_seq ?_
    refine c_region ?_
    refine JL_run 3 [] [12, 0, 1] 0 ⟨[(12, vB (decide ((4 : Int) < ((s.n : Nat) : Int)))), (0, .v (.slice s.A s.n s.c)), (1, vI n)], []⟩ [] [] (by kernel_rfl) on wn ?_
    refine l_nil (q_then_normal ?_)
    cases h2 : decide ((4 : Int) < ((s.n : Nat) : Int)) with
    | true =>
      have h2 := of_decide_eq_true h2
      refine c_if true rfl ?_
      refine c_seq ?_
      refine c_region ?_
      refine JL_run 1 [] [4] 0 ⟨[(4, vI 1)], []⟩ [] [] (by kernel_rfl) on wn ?_
      refine l_nil (q_then_normal ?_)
      refine c_ret ?_
      refine q_then_ret (q_ret (.inl rfl) [vI 1] rfl (fun bs w hS => ?_))
      refine ⟨?_, hS.kp⟩
      simp only [retOf, den, List.map_cons, List.map_nil]
      have hm : mSess (s.xs.map CSession.abs) n = 1 := by
        unfold mSess; rw [hml]
        first | rw [if_pos (by omega)] | rw [if_neg (by omega), if_pos (by omega)]
      rw [hm]
    | false =>
      have h2 := of_decide_eq_false h2
      refine c_if false rfl ?_
      refine c_skip ?_
      refine q_then_normal ?_
      refine c_seq ?_
      refine c_seq ?_
      refine c_region ?_
      refine JL_run 1 [] [5, 0, 1] 0 ⟨[(5, vI 0), (0, .v (.slice s.A s.n s.c)), (1, vI n)], []⟩ [] [] (by kernel_rfl) on wn ?_
      refine l_nil (q_then_normal ?_)
      refine c_block ?_
      refine c_loop (σ := Nat) (fun i => i ≤ s.n ∧ mSess (s.xs.map CSession.abs) n = firstF (sessF (s.xs.map CSession.abs) n) (s.n - i) i) (fun i => s.n - i) (fun i => []) (fun i => ⟨[(5, vI ((i : Nat) : Int)), (0, .v (.slice s.A s.n s.c)), (1, vI n)], []⟩) 0 ⟨Nat.zero_le _, by unfold mSess; rw [hml, if_neg (by omega), if_neg (by omega)]⟩ (s_start [5, 0, 1] 0 (by kernel_rfl) rfl) ?_
      rintro i ⟨hi, hI⟩
      refine c_seq ?_
      refine c_seq ?_
      refine c_region ?_
      refine JL_run 4 [] [16, 5, 0, 1] 0 ⟨[(16, vB (decide (((i : Nat) : Int) < ((s.n : Nat) : Int)))), (5, vI ((i : Nat) : Int)), (0, .v (.slice s.A s.n s.c)), (1, vI n)], []⟩ [] [] (by kernel_rfl) on wn ?_
      refine l_nil (q_then_normal ?_)
      cases h3 : decide (((i : Nat) : Int) < ((s.n : Nat) : Int)) with
      | true =>
        have h3 := of_decide_eq_true h3
        refine c_if true rfl ?_
        refine c_skip ?_
        refine q_then_normal ?_
        refine c_seq ?_
        refine c_block ?_
        refine c_seq ?_
        refine c_region ?_
        refine JL_run 6 [(2, .idx s.ad i), (3, .ext [.int .i64 (s.at i).client, .int .i64 (s.at i).id, .int .i64 (s.at i).acked, .int .i64 (s.at i).last, .slice (s.at i).replies.A (s.at i).replies.n (s.at i).replies.c])] [6, 5, 0, 1] 1 ⟨[(6, .p 0 0), (5, vI ((i : Nat) : Int)), (0, .v (.slice s.A s.n s.c)), (1, vI n)], [⟨98, [vI (s.at i).client, vI (s.at i).id, vI (s.at i).acked, vI (s.at i).last, .v (.slice (s.at i).replies.A (s.at i).replies.n (s.at i).replies.c)]⟩]⟩ [s.A = some s.ad, ((i : Nat) : Int) = ((i : Nat) : Int), i < s.n] [(s.ad.add (i * 5), [.int .i64 (s.at i).client, .int .i64 (s.at i).id, .int .i64 (s.at i).acked, .int .i64 (s.at i).last, .slice (s.at i).replies.A (s.at i).replies.n (s.at i).replies.c])] (by kernel_rfl) (oc (Sl.ok.own (s := s) (i := i) oks (by omega)) (oc rfl (oc (by omega) on))) (fun w hk hr => ⟨(Sl.rd.all (s := s) (i := i) (Sl.rd.kp hs hk) (by omega) rfl), trivial⟩) ?_
        refine l_nil (q_then_normal ?_)
        refine c_seq ?_
        refine c_seq ?_
        refine c_region ?_
        refine JL_run 2 [] [24, 6, 5, 0, 1] 1 ⟨[(24, vI (s.at i).client), (6, .p 0 0), (5, vI ((i : Nat) : Int)), (0, .v (.slice s.A s.n s.c)), (1, vI n)], [⟨98, [vI (s.at i).client, vI (s.at i).id, vI (s.at i).acked, vI (s.at i).last, .v (.slice (s.at i).replies.A (s.at i).replies.n (s.at i).replies.c)]⟩]⟩ [] [] (by kernel_rfl) on wn ?_
        refine l_pure 68 [] [vI (s.at i).client, vI 1, vI 9] (.bool (inB (s.at i).client 1 9)) Try.call68 rfl rfl rfl rfl (fun bs w hS => ref_In _ _ _ w) ?_
        refine JL_run 2 [] [27, 6, 5, 0, 1] 1 ⟨[(27, vB (!(inB (s.at i).client 1 9))), (6, .p 0 0), (5, vI ((i : Nat) : Int)), (0, .v (.slice s.A s.n s.c)), (1, vI n)], [⟨98, [vI (s.at i).client, vI (s.at i).id, vI (s.at i).acked, vI (s.at i).last, .v (.slice (s.at i).replies.A (s.at i).replies.n (s.at i).replies.c)]⟩]⟩ [] [] (by kernel_rfl) on wn ?_
        cases h4 : inB (s.at i).client 1 9 with
        | true =>
          simp only [inB, Bool.and_eq_true, Bool.and_eq_false_iff, decide_eq_true_eq, decide_eq_false_iff_not] at h4
          refine JL_run 2 [] [29, 27, 6, 5, 0, 1] 1 ⟨[(29, vI (s.at i).acked), (27, vB false), (6, .p 0 0), (5, vI ((i : Nat) : Int)), (0, .v (.slice s.A s.n s.c)), (1, vI n)], [⟨98, [vI (s.at i).client, vI (s.at i).id, vI (s.at i).acked, vI (s.at i).last, .v (.slice (s.at i).replies.A (s.at i).replies.n (s.at i).replies.c)]⟩]⟩ [] [] (by kernel_rfl) on wn ?_
          refine l_pure 68 [] [vI (s.at i).acked, vI 0, vI 1048576] (.bool (inB (s.at i).acked 0 1048576)) Try.call68 rfl rfl rfl rfl (fun bs w hS => ref_In _ _ _ w) ?_
          refine JL_run 3 [] [33, 6, 5, 0, 1] 1 ⟨[(33, vB (!(inB (s.at i).acked 0 1048576))), (6, .p 0 0), (5, vI ((i : Nat) : Int)), (0, .v (.slice s.A s.n s.c)), (1, vI n)], [⟨98, [vI (s.at i).client, vI (s.at i).id, vI (s.at i).acked, vI (s.at i).last, .v (.slice (s.at i).replies.A (s.at i).replies.n (s.at i).replies.c)]⟩]⟩ [] [] (by kernel_rfl) on wn ?_
          cases h5 : inB (s.at i).acked 0 1048576 with
          | true =>
            simp only [inB, Bool.and_eq_true, Bool.and_eq_false_iff, decide_eq_true_eq, decide_eq_false_iff_not] at h5
            refine JL_run 3 [] [36, 35, 33, 6, 5, 0, 1] 1 ⟨[(36, vI n), (35, vI (s.at i).id), (33, vB false), (6, .p 0 0), (5, vI ((i : Nat) : Int)), (0, .v (.slice s.A s.n s.c)), (1, vI n)], [⟨98, [vI (s.at i).client, vI (s.at i).id, vI (s.at i).acked, vI (s.at i).last, .v (.slice (s.at i).replies.A (s.at i).replies.n (s.at i).replies.c)]⟩]⟩ [] [] (by kernel_rfl) on wn ?_
            refine l_pure 68 [] [vI (s.at i).id, vI 1, vI n] (.bool (inB (s.at i).id 1 n)) Try.call68 rfl rfl rfl rfl (fun bs w hS => ref_In _ _ _ w) ?_
            refine JL_run 3 [] [40, 6, 5, 0, 1] 1 ⟨[(40, vB (!(inB (s.at i).id 1 n))), (6, .p 0 0), (5, vI ((i : Nat) : Int)), (0, .v (.slice s.A s.n s.c)), (1, vI n)], [⟨98, [vI (s.at i).client, vI (s.at i).id, vI (s.at i).acked, vI (s.at i).last, .v (.slice (s.at i).replies.A (s.at i).replies.n (s.at i).replies.c)]⟩]⟩ [] [] (by kernel_rfl) on wn ?_
            cases h6 : inB (s.at i).id 1 n with
            | true =>
              simp only [inB, Bool.and_eq_true, Bool.and_eq_false_iff, decide_eq_true_eq, decide_eq_false_iff_not] at h6
              refine JL_run 5 [] [45, 44, 42, 40, 6, 5, 0, 1] 1 ⟨[(45, vI n), (44, vI (s.at i).id), (42, vI (s.at i).last), (40, vB false), (6, .p 0 0), (5, vI ((i : Nat) : Int)), (0, .v (.slice s.A s.n s.c)), (1, vI n)], [⟨98, [vI (s.at i).client, vI (s.at i).id, vI (s.at i).acked, vI (s.at i).last, .v (.slice (s.at i).replies.A (s.at i).replies.n (s.at i).replies.c)]⟩]⟩ [] [] (by kernel_rfl) on wn ?_
              refine l_pure 68 [] [vI (s.at i).last, vI (s.at i).id, vI n] (.bool (inB (s.at i).last (s.at i).id n)) Try.call68 rfl rfl rfl rfl (fun bs w hS => ref_In _ _ _ w) ?_
              refine JL_run 2 [] [48, 6, 5, 0, 1] 1 ⟨[(48, vB (!(inB (s.at i).last (s.at i).id n))), (6, .p 0 0), (5, vI ((i : Nat) : Int)), (0, .v (.slice s.A s.n s.c)), (1, vI n)], [⟨98, [vI (s.at i).client, vI (s.at i).id, vI (s.at i).acked, vI (s.at i).last, .v (.slice (s.at i).replies.A (s.at i).replies.n (s.at i).replies.c)]⟩]⟩ [] [] (by kernel_rfl) on wn ?_
              refine l_nil (q_then_normal ?_)
              cases h7 : inB (s.at i).last (s.at i).id n with
              | true =>
                simp only [inB, Bool.and_eq_true, Bool.and_eq_false_iff, decide_eq_true_eq, decide_eq_false_iff_not] at h7
                refine c_if false rfl ?_
                refine c_skip ?_
                refine q_then_normal ?_
                refine c_seq ?_
                refine c_seq ?_
                refine c_region ?_
                refine JL_run 1 [] [49, 6, 5, 0, 1] 1 ⟨[(49, .v (.agg #[.int .i64 (s.at i).client, .int .i64 (s.at i).id, .int .i64 (s.at i).acked, .int .i64 (s.at i).last, .slice (s.at i).replies.A (s.at i).replies.n (s.at i).replies.c])), (6, .p 0 0), (5, vI ((i : Nat) : Int)), (0, .v (.slice s.A s.n s.c)), (1, vI n)], [⟨98, [vI (s.at i).client, vI (s.at i).id, vI (s.at i).acked, vI (s.at i).last, .v (.slice (s.at i).replies.A (s.at i).replies.n (s.at i).replies.c)]⟩]⟩ [] [] (by kernel_rfl) on wn ?_
                refine l_pure 102 [] [.v (.agg #[.int .i64 (s.at i).client, .int .i64 (s.at i).id, .int .i64 (s.at i).acked, .int .i64 (s.at i).last, .slice (s.at i).replies.A (s.at i).replies.n (s.at i).replies.c])] (.bool (mReplies (s.at i).abs)) Try.call102 rfl rfl rfl rfl (fun bs w hS => ref_repliesMay (s.at i) w (Sl.rd.sub (s := s) (i := i) (Sl.rd.kp hs hS.kp) (by omega)) (by first | exact ⟨by omega, by omega⟩ | (simp only [] at *; exact ⟨by omega, by omega⟩))) ?_
                refine JL_run 1 [] [51, 6, 5, 0, 1] 1 ⟨[(51, vB (!(mReplies (s.at i).abs))), (6, .p 0 0), (5, vI ((i : Nat) : Int)), (0, .v (.slice s.A s.n s.c)), (1, vI n)], [⟨98, [vI (s.at i).client, vI (s.at i).id, vI (s.at i).acked, vI (s.at i).last, .v (.slice (s.at i).replies.A (s.at i).replies.n (s.at i).replies.c)]⟩]⟩ [] [] (by kernel_rfl) on wn ?_
                refine l_nil (q_then_normal ?_)
                cases h8 : mReplies (s.at i).abs with
                | true =>
                  refine c_if false rfl ?_
                  refine c_skip ?_
                  refine q_then_normal ?_
                  refine c_seq ?_
                  refine c_draw 13 [(0, false), (1, false), (2, false), (3, false), (4, false), (5, false), (6, false), (7, false), (8, false), (9, false), (10, false), (11, false), (12, false)] [] [] Try_mixed (by kernel_rfl) (pq_then (pq_block (pq_then (pq_then (pq_block (pq_then pq_body)))))) (List.Sublist.refl _) ?_
                  refine h_quiet [] 3 [(54, vB (decide ((0 : Int) < ((i : Nat) : Int)))), (53, vB (decide ((0 : Int) < ((i : Nat) : Int)))), (52, vI ((i : Nat) : Int)), (51, vB false), (6, .p 0 0), (5, vI ((i : Nat) : Int)), (0, .v (.slice s.A s.n s.c)), (1, vI n)] [] [] rfl rfl (by kernel_rfl) on wn ?_
                  cases h9 : decide ((0 : Int) < ((i : Nat) : Int)) with
                  | true =>
                    have h9 := of_decide_eq_true h9
                    refine h_quiet [(8, .idx s.ad (i - 1)), (10, .ext [.int .i64 (s.at (i - 1)).client])] 10 [(64, vB (decide ((s.at i).client ≤ (s.at (i - 1)).client))), (63, vB (decide ((s.at i).client ≤ (s.at (i - 1)).client))), (62, vI (s.at (i - 1)).client), (61, .v (.pointer (some ((s.ad.add ((i - 1) * 5)).add 0)))), (60, .v (.pointer (some (s.ad.add ((i - 1) * 5))))), (59, vI (((i : Nat) : Int) - 1)), (58, vI ((i : Nat) : Int)), (57, .v (.slice s.A s.n s.c)), (56, vI (s.at i).client), (55, .p 0 0), (54, vB true), (53, vB true), (52, vI ((i : Nat) : Int)), (51, vB false), (6, .p 0 0), (5, vI ((i : Nat) : Int)), (0, .v (.slice s.A s.n s.c)), (1, vI n)] [inR (((i : Nat) : Int) - 1), s.A = some s.ad, ((i : Nat) : Int) - 1 = (((i - 1) : Nat) : Int), (i - 1) < s.n] [((s.ad.add ((i - 1) * 5)).add 0, [.int .i64 (s.at (i - 1)).client])] rfl rfl (by kernel_rfl) (oc (by unfold inR; omega) (oc (Sl.ok.own (s := s) (i := (i - 1)) oks (by omega)) (oc (by omega) (oc (by omega) on)))) (fun w hk hr => ⟨(Sl.rd.fld (s := s) (i := (i - 1)) (Sl.rd.kp hs hk) (by omega) 0 1 rfl), trivial⟩) ?_
                    refine h_nil ?_
                    refine l_nil (q_then_normal ?_)
                    cases h10 : decide ((s.at i).client ≤ (s.at (i - 1)).client) with
                    | true =>
                      have h10 := of_decide_eq_true h10
                      refine c_if true rfl ?_
                      refine c_seq ?_
                      refine c_region ?_
                      refine JL_run 1 [] [4] 0 ⟨[(4, vI 14)], []⟩ [] [] (by kernel_rfl) on wn ?_
                      refine l_nil (q_then_normal ?_)
                      refine c_ret ?_
                      refine q_block_ret (q_then_ret (q_then_ret (q_block_ret (q_then_ret (q_ret (.inl rfl) [vI 14] rfl (fun bs w hS => ?_))))))
                      refine ⟨?_, hS.kp⟩
                      simp only [retOf, den, List.map_cons, List.map_nil]
                      have hf : sessF (s.xs.map CSession.abs) n i = 14 := by
                        unfold sessF
                        simp only [hat, hq0, hq1, hq2, hq3]
                        try simp only [h1, h2, h3, h4, h5, h6, h7, h8, h9, h10, emp_size, ne_eq, not_true_eq_false, not_false_eq_true, true_or, or_true, false_or, or_false, and_true, true_and, and_false, false_and, and_self, or_self, if_true, if_false, Bool.true_eq_false, Bool.false_eq_true, reduceIte, Classical.not_not, Bool.and_eq_true, decide_eq_true_eq]
                        repeat (first | rw [if_pos (by omega)] | rw [if_neg (by omega)])
                        all_goals first | rfl | (exfalso; omega)
                      rw [hI, firstF_here (by omega) hf (by omega)]
                    | false =>
                      have h10 := of_decide_eq_false h10
                      refine c_if false rfl ?_
                      refine c_skip ?_
                      refine q_block_normal (q_then_normal ?_)
                      refine c_region ?_
                      refine JL_run 3 [] [5, 0, 1] 0 ⟨[(5, vI (((i : Nat) : Int) + 1)), (0, .v (.slice s.A s.n s.c)), (1, vI n)], []⟩ [inR (((i : Nat) : Int) + 1)] [] (by kernel_rfl) (oc (by unfold inR; omega) on) wn ?_
                      have hf0 : sessF (s.xs.map CSession.abs) n i = 0 := by
                        unfold sessF
                        simp only [hat, hq0, hq1, hq2, hq3]
                        try simp only [h1, h2, h3, h4, h5, h6, h7, h8, h9, h10, emp_size, ne_eq, not_true_eq_false, not_false_eq_true, true_or, or_true, false_or, or_false, and_true, true_and, and_false, false_and, and_self, or_self, if_true, if_false, Bool.true_eq_false, Bool.false_eq_true, reduceIte, Classical.not_not, Bool.and_eq_true, decide_eq_true_eq]
                        repeat (first | rw [if_pos (by omega)] | rw [if_neg (by omega)])
                        all_goals first | rfl | (exfalso; omega)
                      refine l_nil (q_loop (x := (i : Nat)) ((i + 1) : Nat) ⟨by omega, by rw [hI]; exact firstF_step (by omega) hf0⟩ (by omega) (s_start [5, 0, 1] 0 (by kernel_rfl) rfl))
                  | false =>
                    have h9 := of_decide_eq_false h9
                    refine h_quiet [] 10 [(64, vB false), (63, .v (undef)), (62, .v (undef)), (61, .v (undef)), (60, .v (undef)), (59, .v (undef)), (58, .v (undef)), (57, .v (undef)), (56, .v (undef)), (55, .v (undef)), (54, vB false), (53, vB false), (52, vI ((i : Nat) : Int)), (51, vB false), (6, .p 0 0), (5, vI ((i : Nat) : Int)), (0, .v (.slice s.A s.n s.c)), (1, vI n)] [] [] rfl rfl (by kernel_rfl) on wn ?_
                    refine h_nil ?_
                    refine l_nil (q_then_normal ?_)
                    refine c_if false rfl ?_
                    refine c_skip ?_
                    refine q_block_normal (q_then_normal ?_)
                    refine c_region ?_
                    refine JL_run 3 [] [5, 0, 1] 0 ⟨[(5, vI (((i : Nat) : Int) + 1)), (0, .v (.slice s.A s.n s.c)), (1, vI n)], []⟩ [inR (((i : Nat) : Int) + 1)] [] (by kernel_rfl) (oc (by unfold inR; omega) on) wn ?_
                    have hf0 : sessF (s.xs.map CSession.abs) n i = 0 := by
                      unfold sessF
                      simp only [hat, hq0, hq1, hq2, hq3]
                      try simp only [h1, h2, h3, h4, h5, h6, h7, h8, h9, emp_size, ne_eq, not_true_eq_false, not_false_eq_true, true_or, or_true, false_or, or_false, and_true, true_and, and_false, false_and, and_self, or_self, if_true, if_false, Bool.true_eq_false, Bool.false_eq_true, reduceIte, Classical.not_not, Bool.and_eq_true, decide_eq_true_eq]
                      repeat (first | rw [if_pos (by omega)] | rw [if_neg (by omega)])
                      all_goals first | rfl | (exfalso; omega)
                    refine l_nil (q_loop (x := (i : Nat)) ((i + 1) : Nat) ⟨by omega, by rw [hI]; exact firstF_step (by omega) hf0⟩ (by omega) (s_start [5, 0, 1] 0 (by kernel_rfl) rfl))
                | false =>
                  refine c_if true rfl ?_
                  refine c_seq ?_
                  refine c_region ?_
                  refine JL_run 1 [] [4] 0 ⟨[(4, vI 4)], []⟩ [] [] (by kernel_rfl) on wn ?_
                  refine l_nil (q_then_normal ?_)
                  refine c_ret ?_
                  refine q_then_ret (q_block_ret (q_then_ret (q_then_ret (q_block_ret (q_then_ret (q_ret (.inl rfl) [vI 4] rfl (fun bs w hS => ?_)))))))
                  refine ⟨?_, hS.kp⟩
                  simp only [retOf, den, List.map_cons, List.map_nil]
                  have hf : sessF (s.xs.map CSession.abs) n i = 4 := by
                    unfold sessF
                    simp only [hat, hq0, hq1, hq2, hq3]
                    try simp only [h1, h2, h3, h4, h5, h6, h7, h8, emp_size, ne_eq, not_true_eq_false, not_false_eq_true, true_or, or_true, false_or, or_false, and_true, true_and, and_false, false_and, and_self, or_self, if_true, if_false, Bool.true_eq_false, Bool.false_eq_true, reduceIte, Classical.not_not, Bool.and_eq_true, decide_eq_true_eq]
                    repeat (first | rw [if_pos (by omega)] | rw [if_neg (by omega)])
                    all_goals first | rfl | (exfalso; omega)
                  rw [hI, firstF_here (by omega) hf (by omega)]
              | false =>
                simp only [inB, Bool.and_eq_true, Bool.and_eq_false_iff, decide_eq_true_eq, decide_eq_false_iff_not] at h7
                refine c_if true rfl ?_
                refine c_seq ?_
                refine c_region ?_
                refine JL_run 1 [] [4] 0 ⟨[(4, vI 2)], []⟩ [] [] (by kernel_rfl) on wn ?_
                refine l_nil (q_then_normal ?_)
                refine c_ret ?_
                refine q_then_ret (q_block_ret (q_then_ret (q_then_ret (q_block_ret (q_then_ret (q_ret (.inl rfl) [vI 2] rfl (fun bs w hS => ?_)))))))
                refine ⟨?_, hS.kp⟩
                simp only [retOf, den, List.map_cons, List.map_nil]
                have hf : sessF (s.xs.map CSession.abs) n i = 2 := by
                  unfold sessF
                  simp only [hat, hq0, hq1, hq2, hq3]
                  try simp only [h1, h2, h3, h4, h5, h6, h7, emp_size, ne_eq, not_true_eq_false, not_false_eq_true, true_or, or_true, false_or, or_false, and_true, true_and, and_false, false_and, and_self, or_self, if_true, if_false, Bool.true_eq_false, Bool.false_eq_true, reduceIte, Classical.not_not, Bool.and_eq_true, decide_eq_true_eq]
                  repeat (first | rw [if_pos (by omega)] | rw [if_neg (by omega)])
                  all_goals first | rfl | (exfalso; omega)
                rw [hI, firstF_here (by omega) hf (by omega)]
            | false =>
              simp only [inB, Bool.and_eq_true, Bool.and_eq_false_iff, decide_eq_true_eq, decide_eq_false_iff_not] at h6
              refine JL_run 8 [] [48, 6, 5, 0, 1] 1 ⟨[(48, vB true), (6, .p 0 0), (5, vI ((i : Nat) : Int)), (0, .v (.slice s.A s.n s.c)), (1, vI n)], [⟨98, [vI (s.at i).client, vI (s.at i).id, vI (s.at i).acked, vI (s.at i).last, .v (.slice (s.at i).replies.A (s.at i).replies.n (s.at i).replies.c)]⟩]⟩ [] [] (by kernel_rfl) on wn ?_
              refine l_nil (q_then_normal ?_)
              refine c_if true rfl ?_
              refine c_seq ?_
              refine c_region ?_
              refine JL_run 1 [] [4] 0 ⟨[(4, vI 2)], []⟩ [] [] (by kernel_rfl) on wn ?_
              refine l_nil (q_then_normal ?_)
              refine c_ret ?_
              refine q_then_ret (q_block_ret (q_then_ret (q_then_ret (q_block_ret (q_then_ret (q_ret (.inl rfl) [vI 2] rfl (fun bs w hS => ?_)))))))
              refine ⟨?_, hS.kp⟩
              simp only [retOf, den, List.map_cons, List.map_nil]
              have hf : sessF (s.xs.map CSession.abs) n i = 2 := by
                unfold sessF
                simp only [hat, hq0, hq1, hq2, hq3]
                try simp only [h1, h2, h3, h4, h5, h6, emp_size, ne_eq, not_true_eq_false, not_false_eq_true, true_or, or_true, false_or, or_false, and_true, true_and, and_false, false_and, and_self, or_self, if_true, if_false, Bool.true_eq_false, Bool.false_eq_true, reduceIte, Classical.not_not, Bool.and_eq_true, decide_eq_true_eq]
                repeat (first | rw [if_pos (by omega)] | rw [if_neg (by omega)])
                all_goals first | rfl | (exfalso; omega)
              rw [hI, firstF_here (by omega) hf (by omega)]
          | false =>
            simp only [inB, Bool.and_eq_true, Bool.and_eq_false_iff, decide_eq_true_eq, decide_eq_false_iff_not] at h5
            refine JL_run 15 [] [48, 6, 5, 0, 1] 1 ⟨[(48, vB true), (6, .p 0 0), (5, vI ((i : Nat) : Int)), (0, .v (.slice s.A s.n s.c)), (1, vI n)], [⟨98, [vI (s.at i).client, vI (s.at i).id, vI (s.at i).acked, vI (s.at i).last, .v (.slice (s.at i).replies.A (s.at i).replies.n (s.at i).replies.c)]⟩]⟩ [] [] (by kernel_rfl) on wn ?_
            refine l_nil (q_then_normal ?_)
            refine c_if true rfl ?_
            refine c_seq ?_
            refine c_region ?_
            refine JL_run 1 [] [4] 0 ⟨[(4, vI 2)], []⟩ [] [] (by kernel_rfl) on wn ?_
            refine l_nil (q_then_normal ?_)
            refine c_ret ?_
            refine q_then_ret (q_block_ret (q_then_ret (q_then_ret (q_block_ret (q_then_ret (q_ret (.inl rfl) [vI 2] rfl (fun bs w hS => ?_)))))))
            refine ⟨?_, hS.kp⟩
            simp only [retOf, den, List.map_cons, List.map_nil]
            have hf : sessF (s.xs.map CSession.abs) n i = 2 := by
              unfold sessF
              simp only [hat, hq0, hq1, hq2, hq3]
              try simp only [h1, h2, h3, h4, h5, emp_size, ne_eq, not_true_eq_false, not_false_eq_true, true_or, or_true, false_or, or_false, and_true, true_and, and_false, false_and, and_self, or_self, if_true, if_false, Bool.true_eq_false, Bool.false_eq_true, reduceIte, Classical.not_not, Bool.and_eq_true, decide_eq_true_eq]
              repeat (first | rw [if_pos (by omega)] | rw [if_neg (by omega)])
              all_goals first | rfl | (exfalso; omega)
            rw [hI, firstF_here (by omega) hf (by omega)]
        | false =>
          simp only [inB, Bool.and_eq_true, Bool.and_eq_false_iff, decide_eq_true_eq, decide_eq_false_iff_not] at h4
          refine JL_run 21 [] [48, 6, 5, 0, 1] 1 ⟨[(48, vB true), (6, .p 0 0), (5, vI ((i : Nat) : Int)), (0, .v (.slice s.A s.n s.c)), (1, vI n)], [⟨98, [vI (s.at i).client, vI (s.at i).id, vI (s.at i).acked, vI (s.at i).last, .v (.slice (s.at i).replies.A (s.at i).replies.n (s.at i).replies.c)]⟩]⟩ [] [] (by kernel_rfl) on wn ?_
          refine l_nil (q_then_normal ?_)
          refine c_if true rfl ?_
          refine c_seq ?_
          refine c_region ?_
          refine JL_run 1 [] [4] 0 ⟨[(4, vI 2)], []⟩ [] [] (by kernel_rfl) on wn ?_
          refine l_nil (q_then_normal ?_)
          refine c_ret ?_
          refine q_then_ret (q_block_ret (q_then_ret (q_then_ret (q_block_ret (q_then_ret (q_ret (.inl rfl) [vI 2] rfl (fun bs w hS => ?_)))))))
          refine ⟨?_, hS.kp⟩
          simp only [retOf, den, List.map_cons, List.map_nil]
          have hf : sessF (s.xs.map CSession.abs) n i = 2 := by
            unfold sessF
            simp only [hat, hq0, hq1, hq2, hq3]
            try simp only [h1, h2, h3, h4, emp_size, ne_eq, not_true_eq_false, not_false_eq_true, true_or, or_true, false_or, or_false, and_true, true_and, and_false, false_and, and_self, or_self, if_true, if_false, Bool.true_eq_false, Bool.false_eq_true, reduceIte, Classical.not_not, Bool.and_eq_true, decide_eq_true_eq]
            repeat (first | rw [if_pos (by omega)] | rw [if_neg (by omega)])
            all_goals first | rfl | (exfalso; omega)
          rw [hI, firstF_here (by omega) hf (by omega)]
      | false =>
        have h3 := of_decide_eq_false h3
        refine c_if false rfl ?_
        refine c_exit ?_
        refine q_then_exit (q_then_exit (q_block_hit (q_then_normal ?_)))
        refine c_seq ?_
        refine c_region ?_
        refine JL_run 1 [] [4] 0 ⟨[(4, vI 0)], []⟩ [] [] (by kernel_rfl) on wn ?_
        refine l_nil (q_then_normal ?_)
        refine c_ret ?_
        refine q_ret (.inl rfl) [vI 0] rfl (fun bs w hS => ?_)
        refine ⟨?_, hS.kp⟩
        simp only [retOf, den, List.map_cons, List.map_nil]
        rw [hI, firstF_end (by omega)]
  | false =>
    simp only [inB, Bool.and_eq_true, Bool.and_eq_false_iff, decide_eq_true_eq, decide_eq_false_iff_not] at h1
    refine c_if true rfl ?_
    refine c_seq ?_
    refine c_region ?_
    refine JL_run 1 [] [4] 0 ⟨[(4, vI 2)], []⟩ [] [] (by kernel_rfl) on wn ?_
    refine l_nil (q_then_normal ?_)
    refine c_ret ?_
    refine q_then_ret (q_ret (.inl rfl) [vI 2] rfl (fun bs w hS => ?_))
    refine ⟨?_, hS.kp⟩
    simp only [retOf, den, List.map_cons, List.map_nil]
    have hm : mSess (s.xs.map CSession.abs) n = 2 := by
      unfold mSess; rw [hml]
      first | rw [if_pos (by omega)] | rw [if_neg (by omega), if_pos (by omega)]
    rw [hm]

theorem pair_Check {B : Nat → Prop} (s : Sl DPair) (w : World) (hs : s.rd B w) : Calls Try.prog 79 #[.slice s.A s.n s.c] w fun e w' => e = .returned (.int .i64 (mPairs s.xs)) ∧ Kp [] w w' := by
  have oks := Sl.rd.ok hs
  have ncs := Sl.ok.nc oks
  have hns : s.n = s.xs.length := rfl
  refine calls_J0 45 Try.func79 rfl rfl [.slice s.A s.n s.c] rfl ?_
  refine c_seq ?_
  refine c_region ?_
  refine JL_run 1 [] [0] 0 ⟨[(0, .v (.slice s.A s.n s.c))], []⟩ [] [] (by kernel_rfl) on wn ?_
  refine l_nil (q_then_normal ?_)
  refine c_seq ?_
  refine c_seq ?_
  refine c_region ?_
  refine JL_run 3 [] [7, 0] 0 ⟨[(7, vB (decide ((5 : Int) < ((s.n : Nat) : Int)))), (0, .v (.slice s.A s.n s.c))], []⟩ [] [] (by kernel_rfl) on wn ?_
  refine l_nil (q_then_normal ?_)
  cases h1 : decide ((5 : Int) < ((s.n : Nat) : Int)) with
  | true =>
    have h1 := of_decide_eq_true h1
    refine c_if true rfl ?_
    refine c_seq ?_
    refine c_region ?_
    refine JL_run 1 [] [2] 0 ⟨[(2, vI 1)], []⟩ [] [] (by kernel_rfl) on wn ?_
    refine l_nil (q_then_normal ?_)
    refine c_ret ?_
    refine q_then_ret (q_ret (.inl rfl) [vI 1] rfl (fun bs w hS => ?_))
    refine ⟨?_, hS.kp⟩
    simp only [retOf, den, List.map_cons, List.map_nil]
    have hm : mPairs s.xs = 1 := by
      unfold mPairs; rw [if_pos (by omega)]
    rw [hm]
  | false =>
    have h1 := of_decide_eq_false h1
    refine c_if false rfl ?_
    refine c_skip ?_
    refine q_then_normal ?_
    refine c_seq ?_
    refine c_seq ?_
    refine c_region ?_
    refine JL_run 3 [] [10, 9, 8, 0] 0 ⟨[(10, vI 0), (9, vI ((s.n : Nat) : Int)), (8, .v (.slice s.A s.n s.c)), (0, .v (.slice s.A s.n s.c))], []⟩ [] [] (by kernel_rfl) on wn ?_
    refine l_nil (q_then_normal ?_)
    refine c_block ?_
    refine c_loop (σ := Nat) (fun i => i ≤ s.n ∧ mPairs s.xs = firstF (pairF s.xs) (s.n - i) i) (fun i => s.n - i) (fun i => []) (fun i => ⟨[(10, vI ((i : Nat) : Int)), (9, vI ((s.n : Nat) : Int)), (8, .v (.slice s.A s.n s.c)), (0, .v (.slice s.A s.n s.c))], []⟩) 0 ⟨Nat.zero_le _, by unfold mPairs; rw [if_neg (by omega)]⟩ (s_start [10, 9, 8, 0] 0 (by kernel_rfl) rfl) ?_
    rintro i ⟨hi, hI⟩
    have hlt := hi
    refine c_seq ?_
    refine c_region ?_
    refine JL_run 1 [] [11, 10, 9, 8, 0] 0 ⟨[(11, vB (decide (((i : Nat) : Int) < ((s.n : Nat) : Int)))), (10, vI ((i : Nat) : Int)), (9, vI ((s.n : Nat) : Int)), (8, .v (.slice s.A s.n s.c)), (0, .v (.slice s.A s.n s.c))], []⟩ [] [] (by kernel_rfl) on wn ?_
    refine l_nil (q_then_normal ?_)
    refine c_seq ?_
    cases h2 : decide (((i : Nat) : Int) < ((s.n : Nat) : Int)) with
    | true =>
      have h2 := of_decide_eq_true h2
      refine c_if true rfl ?_
      refine c_skip ?_
      refine q_then_normal ?_
      refine c_seq ?_
      refine c_block ?_
      refine c_seq ?_
      refine c_region ?_
      refine JL_run 6 [(1, .idx s.ad i), (2, .ext [.string (s.at i).name, .string (s.at i).value, .int .i64 (s.at i).version])] [3, 4, 10, 9, 8, 0] 1 ⟨[(3, vI ((i : Nat) : Int)), (4, .p 0 0), (10, vI ((i : Nat) : Int)), (9, vI ((s.n : Nat) : Int)), (8, .v (.slice s.A s.n s.c)), (0, .v (.slice s.A s.n s.c))], [⟨142, [vS (s.at i).name, vS (s.at i).value, vI (s.at i).version]⟩]⟩ [s.A = some s.ad, ((i : Nat) : Int) = ((i : Nat) : Int), i < s.n] [(s.ad.add (i * 3), [.string (s.at i).name, .string (s.at i).value, .int .i64 (s.at i).version])] (by kernel_rfl) (oc (Sl.ok.own (s := s) (i := i) oks (by omega)) (oc rfl (oc (by omega) on))) (fun w hk hr => ⟨(Sl.rd.all (s := s) (i := i) (Sl.rd.kp hs hk) (by omega) rfl), trivial⟩) ?_
      refine l_nil (q_then_normal ?_)
      refine c_seq ?_
      refine c_seq ?_
      refine c_region ?_
      refine JL_run 2 [] [16, 3, 4, 10, 9, 8, 0] 1 ⟨[(16, vS (s.at i).name), (3, vI ((i : Nat) : Int)), (4, .p 0 0), (10, vI ((i : Nat) : Int)), (9, vI ((s.n : Nat) : Int)), (8, .v (.slice s.A s.n s.c)), (0, .v (.slice s.A s.n s.c))], [⟨142, [vS (s.at i).name, vS (s.at i).value, vI (s.at i).version]⟩]⟩ [] [] (by kernel_rfl) on wn ?_
      refine l_pure 92 [] [vS (s.at i).name] (.bool (mName (s.at i).name)) Try.call92 rfl rfl rfl rfl (fun bs w hS => lock_Name _ w (And.left (Sl.ok.at (s := s) (i := i) oks (by omega)))) ?_
      refine JL_run 1 [] [18, 3, 4, 10, 9, 8, 0] 1 ⟨[(18, vB (!(mName (s.at i).name))), (3, vI ((i : Nat) : Int)), (4, .p 0 0), (10, vI ((i : Nat) : Int)), (9, vI ((s.n : Nat) : Int)), (8, .v (.slice s.A s.n s.c)), (0, .v (.slice s.A s.n s.c))], [⟨142, [vS (s.at i).name, vS (s.at i).value, vI (s.at i).version]⟩]⟩ [] [] (by kernel_rfl) on wn ?_
      refine l_nil (q_then_normal ?_)
      cases h3 : mName (s.at i).name with
      | true =>
        refine c_if false rfl ?_
        refine c_skip ?_
        refine q_then_normal ?_
        refine c_seq ?_
        refine c_seq ?_
        refine c_region ?_
        refine JL_run 4 [] [22, 3, 4, 10, 9, 8, 0] 1 ⟨[(22, vB (decide ((12 : Int) < ((s.at i).value.size : Int)))), (3, vI ((i : Nat) : Int)), (4, .p 0 0), (10, vI ((i : Nat) : Int)), (9, vI ((s.n : Nat) : Int)), (8, .v (.slice s.A s.n s.c)), (0, .v (.slice s.A s.n s.c))], [⟨142, [vS (s.at i).name, vS (s.at i).value, vI (s.at i).version]⟩]⟩ [] [] (by kernel_rfl) on wn ?_
        refine l_nil (q_then_normal ?_)
        cases h4 : decide ((12 : Int) < ((s.at i).value.size : Int)) with
        | true =>
          have h4 := of_decide_eq_true h4
          refine c_if true rfl ?_
          refine c_seq ?_
          refine c_region ?_
          refine JL_run 1 [] [2] 0 ⟨[(2, vI 1)], []⟩ [] [] (by kernel_rfl) on wn ?_
          refine l_nil (q_then_normal ?_)
          refine c_ret ?_
          refine q_then_ret (q_block_ret (q_then_ret (q_then_ret (q_block_ret (q_then_ret (q_ret (.inl rfl) [vI 1] rfl (fun bs w hS => ?_)))))))
          refine ⟨?_, hS.kp⟩
          simp only [retOf, den, List.map_cons, List.map_nil]
          have hf : pairF s.xs i = 1 := by
            have hat : ∀ q, s.xs.getD q default = s.at q := fun _ => rfl
            unfold pairF
            simp only [hat]
            try simp only [h1, h2, h3, h4, emp_size, ne_eq, not_true_eq_false, not_false_eq_true, true_or, or_true, false_or, or_false, and_true, true_and, and_false, false_and, and_self, or_self, if_true, if_false, Bool.true_eq_false, Bool.false_eq_true, reduceIte, Classical.not_not, Bool.and_eq_true, decide_eq_true_eq]
            repeat (first | rw [if_pos (by omega)] | rw [if_neg (by omega)])
            all_goals first | rfl | (exfalso; omega)
          rw [hI, firstF_here (by omega) hf (by omega)]
        | false =>
          have h4 := of_decide_eq_false h4
          refine c_if false rfl ?_
          refine c_skip ?_
          refine q_then_normal ?_
          refine c_seq ?_
          refine c_seq ?_
          refine c_region ?_
          refine JL_run 4 [] [26, 3, 4, 10, 9, 8, 0] 1 ⟨[(26, vB (decide ((s.at i).version < 1))), (3, vI ((i : Nat) : Int)), (4, .p 0 0), (10, vI ((i : Nat) : Int)), (9, vI ((s.n : Nat) : Int)), (8, .v (.slice s.A s.n s.c)), (0, .v (.slice s.A s.n s.c))], [⟨142, [vS (s.at i).name, vS (s.at i).value, vI (s.at i).version]⟩]⟩ [] [] (by kernel_rfl) on wn ?_
          cases h5 : decide ((s.at i).version < 1) with
          | true =>
            have h5 := of_decide_eq_true h5
            refine JL_run 4 [] [30, 3, 4, 10, 9, 8, 0] 1 ⟨[(30, vB true), (3, vI ((i : Nat) : Int)), (4, .p 0 0), (10, vI ((i : Nat) : Int)), (9, vI ((s.n : Nat) : Int)), (8, .v (.slice s.A s.n s.c)), (0, .v (.slice s.A s.n s.c))], [⟨142, [vS (s.at i).name, vS (s.at i).value, vI (s.at i).version]⟩]⟩ [] [] (by kernel_rfl) on wn ?_
            refine l_nil (q_then_normal ?_)
            refine c_if true rfl ?_
            refine c_seq ?_
            refine c_region ?_
            refine JL_run 1 [] [2] 0 ⟨[(2, vI 2)], []⟩ [] [] (by kernel_rfl) on wn ?_
            refine l_nil (q_then_normal ?_)
            refine c_ret ?_
            refine q_then_ret (q_block_ret (q_then_ret (q_then_ret (q_block_ret (q_then_ret (q_ret (.inl rfl) [vI 2] rfl (fun bs w hS => ?_)))))))
            refine ⟨?_, hS.kp⟩
            simp only [retOf, den, List.map_cons, List.map_nil]
            have hf : pairF s.xs i = 2 := by
              have hat : ∀ q, s.xs.getD q default = s.at q := fun _ => rfl
              unfold pairF
              simp only [hat]
              try simp only [h1, h2, h3, h4, h5, emp_size, ne_eq, not_true_eq_false, not_false_eq_true, true_or, or_true, false_or, or_false, and_true, true_and, and_false, false_and, and_self, or_self, if_true, if_false, Bool.true_eq_false, Bool.false_eq_true, reduceIte, Classical.not_not, Bool.and_eq_true, decide_eq_true_eq]
              repeat (first | rw [if_pos (by omega)] | rw [if_neg (by omega)])
              all_goals first | rfl | (exfalso; omega)
            rw [hI, firstF_here (by omega) hf (by omega)]
          | false =>
            have h5 := of_decide_eq_false h5
            refine JL_run 4 [] [30, 3, 4, 10, 9, 8, 0] 1 ⟨[(30, vB (decide ((1073741824 : Int) < (s.at i).version))), (3, vI ((i : Nat) : Int)), (4, .p 0 0), (10, vI ((i : Nat) : Int)), (9, vI ((s.n : Nat) : Int)), (8, .v (.slice s.A s.n s.c)), (0, .v (.slice s.A s.n s.c))], [⟨142, [vS (s.at i).name, vS (s.at i).value, vI (s.at i).version]⟩]⟩ [] [] (by kernel_rfl) on wn ?_
            refine l_nil (q_then_normal ?_)
            cases h6 : decide ((1073741824 : Int) < (s.at i).version) with
            | true =>
              have h6 := of_decide_eq_true h6
              refine c_if true rfl ?_
              refine c_seq ?_
              refine c_region ?_
              refine JL_run 1 [] [2] 0 ⟨[(2, vI 2)], []⟩ [] [] (by kernel_rfl) on wn ?_
              refine l_nil (q_then_normal ?_)
              refine c_ret ?_
              refine q_then_ret (q_block_ret (q_then_ret (q_then_ret (q_block_ret (q_then_ret (q_ret (.inl rfl) [vI 2] rfl (fun bs w hS => ?_)))))))
              refine ⟨?_, hS.kp⟩
              simp only [retOf, den, List.map_cons, List.map_nil]
              have hf : pairF s.xs i = 2 := by
                have hat : ∀ q, s.xs.getD q default = s.at q := fun _ => rfl
                unfold pairF
                simp only [hat]
                try simp only [h1, h2, h3, h4, h5, h6, emp_size, ne_eq, not_true_eq_false, not_false_eq_true, true_or, or_true, false_or, or_false, and_true, true_and, and_false, false_and, and_self, or_self, if_true, if_false, Bool.true_eq_false, Bool.false_eq_true, reduceIte, Classical.not_not, Bool.and_eq_true, decide_eq_true_eq]
                repeat (first | rw [if_pos (by omega)] | rw [if_neg (by omega)])
                all_goals first | rfl | (exfalso; omega)
              rw [hI, firstF_here (by omega) hf (by omega)]
            | false =>
              have h6 := of_decide_eq_false h6
              refine c_if false rfl ?_
              refine c_skip ?_
              refine q_then_normal ?_
              refine c_seq ?_
              refine c_draw 13 [(0, false), (1, false), (2, false), (3, false), (4, false), (5, false), (6, false), (7, false), (8, false), (9, false), (10, false), (11, false), (12, false)] [] [] Try_mixed (by kernel_rfl) (pq_then (pq_block (pq_then (pq_then (pq_block (pq_then pq_body)))))) (List.Sublist.refl _) ?_
              refine h_quiet [] 3 [(33, vB (decide ((0 : Int) < ((i : Nat) : Int)))), (32, vB (decide ((0 : Int) < ((i : Nat) : Int)))), (31, vI ((i : Nat) : Int)), (30, vB false), (3, vI ((i : Nat) : Int)), (4, .p 0 0), (10, vI ((i : Nat) : Int)), (9, vI ((s.n : Nat) : Int)), (8, .v (.slice s.A s.n s.c)), (0, .v (.slice s.A s.n s.c))] [] [] rfl rfl (by kernel_rfl) on wn ?_
              cases h7 : decide ((0 : Int) < ((i : Nat) : Int)) with
              | true =>
                have h7 := of_decide_eq_true h7
                refine h_quiet [(6, .idx s.ad (i - 1)), (8, .ext [.string (s.at (i - 1)).name])] 10 [(43, vB (!(Op.bytesLess ((s.at (i - 1)).name).toList ((s.at i).name).toList))), (42, vB (!(Op.bytesLess ((s.at (i - 1)).name).toList ((s.at i).name).toList))), (41, vS (s.at i).name), (40, .p 0 0), (39, vS (s.at (i - 1)).name), (38, .v (.pointer (some ((s.ad.add ((i - 1) * 3)).add 0)))), (37, .v (.pointer (some (s.ad.add ((i - 1) * 3))))), (36, vI (((i : Nat) : Int) - 1)), (35, vI ((i : Nat) : Int)), (34, .v (.slice s.A s.n s.c)), (33, vB true), (32, vB true), (31, vI ((i : Nat) : Int)), (30, vB false), (3, vI ((i : Nat) : Int)), (4, .p 0 0), (10, vI ((i : Nat) : Int)), (9, vI ((s.n : Nat) : Int)), (8, .v (.slice s.A s.n s.c)), (0, .v (.slice s.A s.n s.c))] [inR (((i : Nat) : Int) - 1), s.A = some s.ad, ((i : Nat) : Int) - 1 = (((i - 1) : Nat) : Int), (i - 1) < s.n] [((s.ad.add ((i - 1) * 3)).add 0, [.string (s.at (i - 1)).name])] rfl rfl (by kernel_rfl) (oc (by unfold inR; omega) (oc (Sl.ok.own (s := s) (i := (i - 1)) oks (by omega)) (oc (by omega) (oc (by omega) on)))) (fun w hk hr => ⟨(Sl.rd.fld (s := s) (i := (i - 1)) (Sl.rd.kp hs hk) (by omega) 0 1 rfl), trivial⟩) ?_
                refine h_nil ?_
                refine l_nil (q_then_normal ?_)
                cases h8 : Op.bytesLess ((s.at (i - 1)).name).toList ((s.at i).name).toList with
                | true =>
                  refine c_if false rfl ?_
                  refine c_skip ?_
                  refine q_block_normal (q_then_normal ?_)
                  refine c_region ?_
                  refine JL_run 2 [] [10, 9, 8, 0] 0 ⟨[(10, vI (((i : Nat) : Int) + 1)), (9, vI ((s.n : Nat) : Int)), (8, .v (.slice s.A s.n s.c)), (0, .v (.slice s.A s.n s.c))], []⟩ [inR (((i : Nat) : Int) + 1)] [] (by kernel_rfl) (oc (by unfold inR; omega) on) wn ?_
                  have hf0 : pairF s.xs i = 0 := by
                    have hat : ∀ q, s.xs.getD q default = s.at q := fun _ => rfl
                    unfold pairF
                    simp only [hat]
                    try simp only [h1, h2, h3, h4, h5, h6, h7, h8, emp_size, ne_eq, not_true_eq_false, not_false_eq_true, true_or, or_true, false_or, or_false, and_true, true_and, and_false, false_and, and_self, or_self, if_true, if_false, Bool.true_eq_false, Bool.false_eq_true, reduceIte, Classical.not_not, Bool.and_eq_true, decide_eq_true_eq]
                    repeat (first | rw [if_pos (by omega)] | rw [if_neg (by omega)])
                    all_goals first | rfl | (exfalso; omega)
                  refine l_nil (q_loop (x := (i : Nat)) ((i + 1) : Nat) ⟨by omega, by rw [hI]; exact firstF_step (by omega) hf0⟩ (by omega) (s_start [10, 9, 8, 0] 0 (by kernel_rfl) rfl))
                | false =>
                  refine c_if true rfl ?_
                  refine c_seq ?_
                  refine c_region ?_
                  refine JL_run 1 [] [2] 0 ⟨[(2, vI 14)], []⟩ [] [] (by kernel_rfl) on wn ?_
                  refine l_nil (q_then_normal ?_)
                  refine c_ret ?_
                  refine q_block_ret (q_then_ret (q_then_ret (q_block_ret (q_then_ret (q_ret (.inl rfl) [vI 14] rfl (fun bs w hS => ?_))))))
                  refine ⟨?_, hS.kp⟩
                  simp only [retOf, den, List.map_cons, List.map_nil]
                  have hf : pairF s.xs i = 14 := by
                    have hat : ∀ q, s.xs.getD q default = s.at q := fun _ => rfl
                    unfold pairF
                    simp only [hat]
                    try simp only [h1, h2, h3, h4, h5, h6, h7, h8, emp_size, ne_eq, not_true_eq_false, not_false_eq_true, true_or, or_true, false_or, or_false, and_true, true_and, and_false, false_and, and_self, or_self, if_true, if_false, Bool.true_eq_false, Bool.false_eq_true, reduceIte, Classical.not_not, Bool.and_eq_true, decide_eq_true_eq]
                    repeat (first | rw [if_pos (by omega)] | rw [if_neg (by omega)])
                    all_goals first | rfl | (exfalso; omega)
                  rw [hI, firstF_here (by omega) hf (by omega)]
              | false =>
                have h7 := of_decide_eq_false h7
                refine h_quiet [] 10 [(43, vB false), (42, .v (undef)), (41, .v (undef)), (40, .v (undef)), (39, .v (undef)), (38, .v (undef)), (37, .v (undef)), (36, .v (undef)), (35, .v (undef)), (34, .v (undef)), (33, vB false), (32, vB false), (31, vI ((i : Nat) : Int)), (30, vB false), (3, vI ((i : Nat) : Int)), (4, .p 0 0), (10, vI ((i : Nat) : Int)), (9, vI ((s.n : Nat) : Int)), (8, .v (.slice s.A s.n s.c)), (0, .v (.slice s.A s.n s.c))] [] [] rfl rfl (by kernel_rfl) on wn ?_
                refine h_nil ?_
                refine l_nil (q_then_normal ?_)
                refine c_if false rfl ?_
                refine c_skip ?_
                refine q_block_normal (q_then_normal ?_)
                refine c_region ?_
                refine JL_run 2 [] [10, 9, 8, 0] 0 ⟨[(10, vI (((i : Nat) : Int) + 1)), (9, vI ((s.n : Nat) : Int)), (8, .v (.slice s.A s.n s.c)), (0, .v (.slice s.A s.n s.c))], []⟩ [inR (((i : Nat) : Int) + 1)] [] (by kernel_rfl) (oc (by unfold inR; omega) on) wn ?_
                have hf0 : pairF s.xs i = 0 := by
                  have hat : ∀ q, s.xs.getD q default = s.at q := fun _ => rfl
                  unfold pairF
                  simp only [hat]
                  try simp only [h1, h2, h3, h4, h5, h6, h7, emp_size, ne_eq, not_true_eq_false, not_false_eq_true, true_or, or_true, false_or, or_false, and_true, true_and, and_false, false_and, and_self, or_self, if_true, if_false, Bool.true_eq_false, Bool.false_eq_true, reduceIte, Classical.not_not, Bool.and_eq_true, decide_eq_true_eq]
                  repeat (first | rw [if_pos (by omega)] | rw [if_neg (by omega)])
                  all_goals first | rfl | (exfalso; omega)
                refine l_nil (q_loop (x := (i : Nat)) ((i + 1) : Nat) ⟨by omega, by rw [hI]; exact firstF_step (by omega) hf0⟩ (by omega) (s_start [10, 9, 8, 0] 0 (by kernel_rfl) rfl))
      | false =>
        refine c_if true rfl ?_
        refine c_seq ?_
        refine c_region ?_
        refine JL_run 1 [] [2] 0 ⟨[(2, vI 4)], []⟩ [] [] (by kernel_rfl) on wn ?_
        refine l_nil (q_then_normal ?_)
        refine c_ret ?_
        refine q_then_ret (q_block_ret (q_then_ret (q_then_ret (q_block_ret (q_then_ret (q_ret (.inl rfl) [vI 4] rfl (fun bs w hS => ?_)))))))
        refine ⟨?_, hS.kp⟩
        simp only [retOf, den, List.map_cons, List.map_nil]
        have hf : pairF s.xs i = 4 := by
          have hat : ∀ q, s.xs.getD q default = s.at q := fun _ => rfl
          unfold pairF
          simp only [hat]
          try simp only [h1, h2, h3, emp_size, ne_eq, not_true_eq_false, not_false_eq_true, true_or, or_true, false_or, or_false, and_true, true_and, and_false, false_and, and_self, or_self, if_true, if_false, Bool.true_eq_false, Bool.false_eq_true, reduceIte, Classical.not_not, Bool.and_eq_true, decide_eq_true_eq]
          repeat (first | rw [if_pos (by omega)] | rw [if_neg (by omega)])
          all_goals first | rfl | (exfalso; omega)
        rw [hI, firstF_here (by omega) hf (by omega)]
    | false =>
      have h2 := of_decide_eq_false h2
      refine c_if false rfl ?_
      refine c_exit ?_
      refine q_then_exit (q_then_exit (q_block_hit (q_then_normal ?_)))
      refine c_seq ?_
      refine c_region ?_
      refine JL_run 1 [] [2] 0 ⟨[(2, vI 0)], []⟩ [] [] (by kernel_rfl) on wn ?_
      refine l_nil (q_then_normal ?_)
      refine c_ret ?_
      refine q_ret (.inl rfl) [vI 0] rfl (fun bs w hS => ?_)
      refine ⟨?_, hS.kp⟩
      simp only [retOf, den, List.map_cons, List.map_nil]
      rw [hI, firstF_end (by omega)]

theorem ref_PairsFault {B : Nat → Prop} (s : Sl DPair) (w : World) (hs : s.rd B w) : Calls Try.prog 80 #[.slice s.A s.n s.c] w fun e w' => e = .returned (.int .i64 (mPairs s.xs)) ∧ Kp [] w w' := by
  have oks := Sl.rd.ok hs
  have ncs := Sl.ok.nc oks
  have hns : s.n = s.xs.length := rfl
  refine calls_J0 50 Try.func80 rfl rfl [.slice s.A s.n s.c] rfl ?_
  refine c_seq ?_
  refine c_region ?_
  refine JL_run 1 [] [0] 0 ⟨[(0, .v (.slice s.A s.n s.c))], []⟩ [] [] (by kernel_rfl) on wn ?_
  refine l_nil (q_then_normal ?_)
  refine c_seq ?_
  refine c_seq ?_
  refine c_region ?_
  refine JL_run 3 [] [6, 0] 0 ⟨[(6, vB (decide ((5 : Int) < ((s.n : Nat) : Int)))), (0, .v (.slice s.A s.n s.c))], []⟩ [] [] (by kernel_rfl) on wn ?_
  refine l_nil (q_then_normal ?_)
  cases h1 : decide ((5 : Int) < ((s.n : Nat) : Int)) with
  | true =>
    have h1 := of_decide_eq_true h1
    refine c_if true rfl ?_
    refine c_seq ?_
    refine c_region ?_
    refine JL_run 1 [] [2] 0 ⟨[(2, vI 1)], []⟩ [] [] (by kernel_rfl) on wn ?_
    refine l_nil (q_then_normal ?_)
    refine c_ret ?_
    refine q_then_ret (q_ret (.inl rfl) [vI 1] rfl (fun bs w hS => ?_))
    refine ⟨?_, hS.kp⟩
    simp only [retOf, den, List.map_cons, List.map_nil]
    have hm : mPairs s.xs = 1 := by
      unfold mPairs; rw [if_pos (by omega)]
    rw [hm]
  | false =>
    have h1 := of_decide_eq_false h1
    refine c_if false rfl ?_
    refine c_skip ?_
    refine q_then_normal ?_
    refine c_seq ?_
    refine c_seq ?_
    refine c_region ?_
    refine JL_run 1 [] [3, 0] 0 ⟨[(3, vI 0), (0, .v (.slice s.A s.n s.c))], []⟩ [] [] (by kernel_rfl) on wn ?_
    refine l_nil (q_then_normal ?_)
    refine c_block ?_
    refine c_loop (σ := Nat) (fun i => i ≤ s.n ∧ mPairs s.xs = firstF (pairF s.xs) (s.n - i) i) (fun i => s.n - i) (fun i => []) (fun i => ⟨[(3, vI ((i : Nat) : Int)), (0, .v (.slice s.A s.n s.c))], []⟩) 0 ⟨Nat.zero_le _, by unfold mPairs; rw [if_neg (by omega)]⟩ (s_start [3, 0] 0 (by kernel_rfl) rfl) ?_
    rintro i ⟨hi, hI⟩
    have hlt := hi
    refine c_seq ?_
    refine c_seq ?_
    refine c_region ?_
    refine JL_run 4 [] [10, 3, 0] 0 ⟨[(10, vB (decide (((i : Nat) : Int) < ((s.n : Nat) : Int)))), (3, vI ((i : Nat) : Int)), (0, .v (.slice s.A s.n s.c))], []⟩ [] [] (by kernel_rfl) on wn ?_
    refine l_nil (q_then_normal ?_)
    cases h2 : decide (((i : Nat) : Int) < ((s.n : Nat) : Int)) with
    | true =>
      have h2 := of_decide_eq_true h2
      refine c_if true rfl ?_
      refine c_skip ?_
      refine q_then_normal ?_
      refine c_seq ?_
      refine c_block ?_
      refine c_seq ?_
      refine c_seq ?_
      refine c_region ?_
      refine JL_run 5 [(2, .idx s.ad i), (4, .ext [.string (s.at i).name])] [17, 3, 0] 0 ⟨[(17, vS (s.at i).name), (3, vI ((i : Nat) : Int)), (0, .v (.slice s.A s.n s.c))], []⟩ [s.A = some s.ad, ((i : Nat) : Int) = ((i : Nat) : Int), i < s.n] [((s.ad.add (i * 3)).add 0, [.string (s.at i).name])] (by kernel_rfl) (oc (Sl.ok.own (s := s) (i := i) oks (by omega)) (oc rfl (oc (by omega) on))) (fun w hk hr => ⟨(Sl.rd.fld (s := s) (i := i) (Sl.rd.kp hs hk) (by omega) 0 1 rfl), trivial⟩) ?_
      refine l_pure 94 [] [vS (s.at i).name] (.bool (mName (s.at i).name)) Try.call94 rfl rfl rfl rfl (fun bs w hS => ref_NameMay _ w (And.left (Sl.ok.at (s := s) (i := i) oks (by omega)))) ?_
      refine JL_run 1 [] [19, 3, 0] 0 ⟨[(19, vB (!(mName (s.at i).name))), (3, vI ((i : Nat) : Int)), (0, .v (.slice s.A s.n s.c))], []⟩ [] [] (by kernel_rfl) on wn ?_
      refine l_nil (q_then_normal ?_)
      cases h3 : mName (s.at i).name with
      | true =>
        refine c_if false rfl ?_
        refine c_skip ?_
        refine q_then_normal ?_
        refine c_seq ?_
        refine c_seq ?_
        refine c_region ?_
        refine JL_run 7 [(2, .idx s.ad i), (4, .ext [.string (s.at i).value])] [26, 3, 0] 0 ⟨[(26, vB (decide ((12 : Int) < ((s.at i).value.size : Int)))), (3, vI ((i : Nat) : Int)), (0, .v (.slice s.A s.n s.c))], []⟩ [s.A = some s.ad, ((i : Nat) : Int) = ((i : Nat) : Int), i < s.n] [((s.ad.add (i * 3)).add 1, [.string (s.at i).value])] (by kernel_rfl) (oc (Sl.ok.own (s := s) (i := i) oks (by omega)) (oc rfl (oc (by omega) on))) (fun w hk hr => ⟨(Sl.rd.fld (s := s) (i := i) (Sl.rd.kp hs hk) (by omega) 1 1 rfl), trivial⟩) ?_
        refine l_nil (q_then_normal ?_)
        cases h4 : decide ((12 : Int) < ((s.at i).value.size : Int)) with
        | true =>
          have h4 := of_decide_eq_true h4
          refine c_if true rfl ?_
          refine c_seq ?_
          refine c_region ?_
          refine JL_run 1 [] [2] 0 ⟨[(2, vI 1)], []⟩ [] [] (by kernel_rfl) on wn ?_
          refine l_nil (q_then_normal ?_)
          refine c_ret ?_
          refine q_then_ret (q_block_ret (q_then_ret (q_then_ret (q_block_ret (q_then_ret (q_ret (.inl rfl) [vI 1] rfl (fun bs w hS => ?_)))))))
          refine ⟨?_, hS.kp⟩
          simp only [retOf, den, List.map_cons, List.map_nil]
          have hf : pairF s.xs i = 1 := by
            have hat : ∀ q, s.xs.getD q default = s.at q := fun _ => rfl
            unfold pairF
            simp only [hat]
            try simp only [h1, h2, h3, h4, emp_size, ne_eq, not_true_eq_false, not_false_eq_true, true_or, or_true, false_or, or_false, and_true, true_and, and_false, false_and, and_self, or_self, if_true, if_false, Bool.true_eq_false, Bool.false_eq_true, reduceIte, Classical.not_not, Bool.and_eq_true, decide_eq_true_eq]
            repeat (first | rw [if_pos (by omega)] | rw [if_neg (by omega)])
            all_goals first | rfl | (exfalso; omega)
          rw [hI, firstF_here (by omega) hf (by omega)]
        | false =>
          have h4 := of_decide_eq_false h4
          refine c_if false rfl ?_
          refine c_skip ?_
          refine q_then_normal ?_
          refine c_seq ?_
          refine c_seq ?_
          refine c_region ?_
          refine JL_run 5 [(2, .idx s.ad i), (4, .ext [.int .i64 (s.at i).version])] [31, 3, 0] 0 ⟨[(31, vI (s.at i).version), (3, vI ((i : Nat) : Int)), (0, .v (.slice s.A s.n s.c))], []⟩ [s.A = some s.ad, ((i : Nat) : Int) = ((i : Nat) : Int), i < s.n] [((s.ad.add (i * 3)).add 2, [.int .i64 (s.at i).version])] (by kernel_rfl) (oc (Sl.ok.own (s := s) (i := i) oks (by omega)) (oc rfl (oc (by omega) on))) (fun w hk hr => ⟨(Sl.rd.fld (s := s) (i := i) (Sl.rd.kp hs hk) (by omega) 2 1 rfl), trivial⟩) ?_
          refine l_pure 68 [] [vI (s.at i).version, vI 1, vI 1073741824] (.bool (inB (s.at i).version 1 1073741824)) Try.call68 rfl rfl rfl rfl (fun bs w hS => ref_In _ _ _ w) ?_
          refine JL_run 1 [] [33, 3, 0] 0 ⟨[(33, vB (!(inB (s.at i).version 1 1073741824))), (3, vI ((i : Nat) : Int)), (0, .v (.slice s.A s.n s.c))], []⟩ [] [] (by kernel_rfl) on wn ?_
          refine l_nil (q_then_normal ?_)
          cases h5 : inB (s.at i).version 1 1073741824 with
          | true =>
            simp only [inB, Bool.and_eq_true, Bool.and_eq_false_iff, decide_eq_true_eq, decide_eq_false_iff_not] at h5
            refine c_if false rfl ?_
            refine c_skip ?_
            refine q_then_normal ?_
            refine c_seq ?_
            refine c_draw 16 [(0, false), (1, false), (2, false), (3, false), (4, false), (5, false), (6, false), (7, false), (8, false), (9, false), (10, false), (11, false), (12, false), (13, false), (14, false), (15, false)] [] [] Try_mixed (by kernel_rfl) (pq_then (pq_block (pq_then (pq_then (pq_block (pq_then pq_body)))))) (List.Sublist.refl _) ?_
            refine h_quiet [] 3 [(36, vB (decide ((0 : Int) < ((i : Nat) : Int)))), (35, vB (decide ((0 : Int) < ((i : Nat) : Int)))), (34, vI ((i : Nat) : Int)), (33, vB false), (3, vI ((i : Nat) : Int)), (0, .v (.slice s.A s.n s.c))] [] [] rfl rfl (by kernel_rfl) on wn ?_
            cases h6 : decide ((0 : Int) < ((i : Nat) : Int)) with
            | true =>
              have h6 := of_decide_eq_true h6
              refine h_quiet [(5, .idx s.ad i), (7, .ext [.string (s.at i).name]), (11, .idx s.ad (i - 1)), (13, .ext [.string (s.at (i - 1)).name])] 13 [(49, vB (Op.bytesLess ((s.at i).name).toList ((s.at (i - 1)).name).toList || decide ((s.at i).name = (s.at (i - 1)).name))), (48, vB (Op.bytesLess ((s.at i).name).toList ((s.at (i - 1)).name).toList || decide ((s.at i).name = (s.at (i - 1)).name))), (47, vS (s.at (i - 1)).name), (46, .v (.pointer (some ((s.ad.add ((i - 1) * 3)).add 0)))), (45, .v (.pointer (some (s.ad.add ((i - 1) * 3))))), (44, vI (((i : Nat) : Int) - 1)), (43, vI ((i : Nat) : Int)), (42, .v (.slice s.A s.n s.c)), (41, vS (s.at i).name), (40, .v (.pointer (some ((s.ad.add (i * 3)).add 0)))), (39, .v (.pointer (some (s.ad.add (i * 3))))), (38, vI ((i : Nat) : Int)), (37, .v (.slice s.A s.n s.c)), (36, vB true), (35, vB true), (34, vI ((i : Nat) : Int)), (33, vB false), (3, vI ((i : Nat) : Int)), (0, .v (.slice s.A s.n s.c))] [s.A = some s.ad, ((i : Nat) : Int) = ((i : Nat) : Int), i < s.n, inR (((i : Nat) : Int) - 1), s.A = some s.ad, ((i : Nat) : Int) - 1 = (((i - 1) : Nat) : Int), (i - 1) < s.n] [((s.ad.add (i * 3)).add 0, [.string (s.at i).name]), ((s.ad.add ((i - 1) * 3)).add 0, [.string (s.at (i - 1)).name])] rfl rfl (by kernel_rfl) (oc (Sl.ok.own (s := s) (i := i) oks (by omega)) (oc rfl (oc (by omega) (oc (by unfold inR; omega) (oc (Sl.ok.own (s := s) (i := (i - 1)) oks (by omega)) (oc (by omega) (oc (by omega) on))))))) (fun w hk hr => ⟨(Sl.rd.fld (s := s) (i := i) (Sl.rd.kp hs hk) (by omega) 0 1 rfl), ⟨(Sl.rd.fld (s := s) (i := (i - 1)) (Sl.rd.kp hs hk) (by omega) 0 1 rfl), trivial⟩⟩) ?_
              refine h_nil ?_
              refine l_nil (q_then_normal ?_)
              cases h7 : Op.bytesLess ((s.at i).name).toList ((s.at (i - 1)).name).toList || decide ((s.at i).name = (s.at (i - 1)).name) with
              | true =>
                rw [bytes_total] at h7
                simp only [Bool.not_eq_true', Bool.not_eq_false', Bool.not_eq_true, Bool.not_eq_false] at h7
                refine c_if true rfl ?_
                refine c_seq ?_
                refine c_region ?_
                refine JL_run 1 [] [2] 0 ⟨[(2, vI 14)], []⟩ [] [] (by kernel_rfl) on wn ?_
                refine l_nil (q_then_normal ?_)
                refine c_ret ?_
                refine q_block_ret (q_then_ret (q_then_ret (q_block_ret (q_then_ret (q_ret (.inl rfl) [vI 14] rfl (fun bs w hS => ?_))))))
                refine ⟨?_, hS.kp⟩
                simp only [retOf, den, List.map_cons, List.map_nil]
                have hf : pairF s.xs i = 14 := by
                  have hat : ∀ q, s.xs.getD q default = s.at q := fun _ => rfl
                  unfold pairF
                  simp only [hat]
                  try simp only [h1, h2, h3, h4, h5, h6, h7, emp_size, ne_eq, not_true_eq_false, not_false_eq_true, true_or, or_true, false_or, or_false, and_true, true_and, and_false, false_and, and_self, or_self, if_true, if_false, Bool.true_eq_false, Bool.false_eq_true, reduceIte, Classical.not_not, Bool.and_eq_true, decide_eq_true_eq]
                  repeat (first | rw [if_pos (by omega)] | rw [if_neg (by omega)])
                  all_goals first | rfl | (exfalso; omega)
                rw [hI, firstF_here (by omega) hf (by omega)]
              | false =>
                rw [bytes_total] at h7
                simp only [Bool.not_eq_true', Bool.not_eq_false', Bool.not_eq_true, Bool.not_eq_false] at h7
                refine c_if false rfl ?_
                refine c_skip ?_
                refine q_block_normal (q_then_normal ?_)
                refine c_region ?_
                refine JL_run 3 [] [3, 0] 0 ⟨[(3, vI (((i : Nat) : Int) + 1)), (0, .v (.slice s.A s.n s.c))], []⟩ [inR (((i : Nat) : Int) + 1)] [] (by kernel_rfl) (oc (by unfold inR; omega) on) wn ?_
                have hf0 : pairF s.xs i = 0 := by
                  have hat : ∀ q, s.xs.getD q default = s.at q := fun _ => rfl
                  unfold pairF
                  simp only [hat]
                  try simp only [h1, h2, h3, h4, h5, h6, h7, emp_size, ne_eq, not_true_eq_false, not_false_eq_true, true_or, or_true, false_or, or_false, and_true, true_and, and_false, false_and, and_self, or_self, if_true, if_false, Bool.true_eq_false, Bool.false_eq_true, reduceIte, Classical.not_not, Bool.and_eq_true, decide_eq_true_eq]
                  repeat (first | rw [if_pos (by omega)] | rw [if_neg (by omega)])
                  all_goals first | rfl | (exfalso; omega)
                refine l_nil (q_loop (x := (i : Nat)) ((i + 1) : Nat) ⟨by omega, by rw [hI]; exact firstF_step (by omega) hf0⟩ (by omega) (s_start [3, 0] 0 (by kernel_rfl) rfl))
            | false =>
              have h6 := of_decide_eq_false h6
              refine h_quiet [] 13 [(49, vB false), (48, .v (undef)), (47, .v (undef)), (46, .v (undef)), (45, .v (undef)), (44, .v (undef)), (43, .v (undef)), (42, .v (undef)), (41, .v (undef)), (40, .v (undef)), (39, .v (undef)), (38, .v (undef)), (37, .v (undef)), (36, vB false), (35, vB false), (34, vI ((i : Nat) : Int)), (33, vB false), (3, vI ((i : Nat) : Int)), (0, .v (.slice s.A s.n s.c))] [] [] rfl rfl (by kernel_rfl) on wn ?_
              refine h_nil ?_
              refine l_nil (q_then_normal ?_)
              refine c_if false rfl ?_
              refine c_skip ?_
              refine q_block_normal (q_then_normal ?_)
              refine c_region ?_
              refine JL_run 3 [] [3, 0] 0 ⟨[(3, vI (((i : Nat) : Int) + 1)), (0, .v (.slice s.A s.n s.c))], []⟩ [inR (((i : Nat) : Int) + 1)] [] (by kernel_rfl) (oc (by unfold inR; omega) on) wn ?_
              have hf0 : pairF s.xs i = 0 := by
                have hat : ∀ q, s.xs.getD q default = s.at q := fun _ => rfl
                unfold pairF
                simp only [hat]
                try simp only [h1, h2, h3, h4, h5, h6, emp_size, ne_eq, not_true_eq_false, not_false_eq_true, true_or, or_true, false_or, or_false, and_true, true_and, and_false, false_and, and_self, or_self, if_true, if_false, Bool.true_eq_false, Bool.false_eq_true, reduceIte, Classical.not_not, Bool.and_eq_true, decide_eq_true_eq]
                repeat (first | rw [if_pos (by omega)] | rw [if_neg (by omega)])
                all_goals first | rfl | (exfalso; omega)
              refine l_nil (q_loop (x := (i : Nat)) ((i + 1) : Nat) ⟨by omega, by rw [hI]; exact firstF_step (by omega) hf0⟩ (by omega) (s_start [3, 0] 0 (by kernel_rfl) rfl))
          | false =>
            simp only [inB, Bool.and_eq_true, Bool.and_eq_false_iff, decide_eq_true_eq, decide_eq_false_iff_not] at h5
            refine c_if true rfl ?_
            refine c_seq ?_
            refine c_region ?_
            refine JL_run 1 [] [2] 0 ⟨[(2, vI 2)], []⟩ [] [] (by kernel_rfl) on wn ?_
            refine l_nil (q_then_normal ?_)
            refine c_ret ?_
            refine q_then_ret (q_block_ret (q_then_ret (q_then_ret (q_block_ret (q_then_ret (q_ret (.inl rfl) [vI 2] rfl (fun bs w hS => ?_)))))))
            refine ⟨?_, hS.kp⟩
            simp only [retOf, den, List.map_cons, List.map_nil]
            have hf : pairF s.xs i = 2 := by
              have hat : ∀ q, s.xs.getD q default = s.at q := fun _ => rfl
              unfold pairF
              simp only [hat]
              try simp only [h1, h2, h3, h4, h5, emp_size, ne_eq, not_true_eq_false, not_false_eq_true, true_or, or_true, false_or, or_false, and_true, true_and, and_false, false_and, and_self, or_self, if_true, if_false, Bool.true_eq_false, Bool.false_eq_true, reduceIte, Classical.not_not, Bool.and_eq_true, decide_eq_true_eq]
              repeat (first | rw [if_pos (by omega)] | rw [if_neg (by omega)])
              all_goals first | rfl | (exfalso; omega)
            rw [hI, firstF_here (by omega) hf (by omega)]
      | false =>
        refine c_if true rfl ?_
        refine c_seq ?_
        refine c_region ?_
        refine JL_run 1 [] [2] 0 ⟨[(2, vI 4)], []⟩ [] [] (by kernel_rfl) on wn ?_
        refine l_nil (q_then_normal ?_)
        refine c_ret ?_
        refine q_then_ret (q_block_ret (q_then_ret (q_then_ret (q_block_ret (q_then_ret (q_ret (.inl rfl) [vI 4] rfl (fun bs w hS => ?_)))))))
        refine ⟨?_, hS.kp⟩
        simp only [retOf, den, List.map_cons, List.map_nil]
        have hf : pairF s.xs i = 4 := by
          have hat : ∀ q, s.xs.getD q default = s.at q := fun _ => rfl
          unfold pairF
          simp only [hat]
          try simp only [h1, h2, h3, emp_size, ne_eq, not_true_eq_false, not_false_eq_true, true_or, or_true, false_or, or_false, and_true, true_and, and_false, false_and, and_self, or_self, if_true, if_false, Bool.true_eq_false, Bool.false_eq_true, reduceIte, Classical.not_not, Bool.and_eq_true, decide_eq_true_eq]
          repeat (first | rw [if_pos (by omega)] | rw [if_neg (by omega)])
          all_goals first | rfl | (exfalso; omega)
        rw [hI, firstF_here (by omega) hf (by omega)]
    | false =>
      have h2 := of_decide_eq_false h2
      refine c_if false rfl ?_
      refine c_exit ?_
      refine q_then_exit (q_then_exit (q_block_hit (q_then_normal ?_)))
      refine c_seq ?_
      refine c_region ?_
      refine JL_run 1 [] [2] 0 ⟨[(2, vI 0)], []⟩ [] [] (by kernel_rfl) on wn ?_
      refine l_nil (q_then_normal ?_)
      refine c_ret ?_
      refine q_ret (.inl rfl) [vI 0] rfl (fun bs w hS => ?_)
      refine ⟨?_, hS.kp⟩
      simp only [retOf, den, List.map_cons, List.map_nil]
      rw [hI, firstF_end (by omega)]

theorem machine_Check {B : Nat → Prop} (x : CState) (w : World) (hx : Rds.sub B w x) : Calls Try.prog 33 #[.agg #[.int .i64 x.index, .slice x.locks.A x.locks.n x.locks.c, .slice x.pairs.A x.pairs.n x.pairs.c, .slice x.sessions.A x.sessions.n x.sessions.c]] w fun e w' => e = .returned (.int .i64 (mState x.abs)) ∧ Kp [] w w' := by
  have okx := Rds.okof hx
  refine calls_J0 22 Try.func33 rfl rfl [.agg #[.int .i64 x.index, .slice x.locks.A x.locks.n x.locks.c, .slice x.pairs.A x.pairs.n x.pairs.c, .slice x.sessions.A x.sessions.n x.sessions.c]] rfl ?_
  refine c_seq ?_
  refine c_region ?_
  refine JL_run 2 [] [1] 1 ⟨[(1, .p 0 0)], [⟨59, [vI x.index, .v (.slice x.locks.A x.locks.n x.locks.c), .v (.slice x.pairs.A x.pairs.n x.pairs.c), .v (.slice x.sessions.A x.sessions.n x.sessions.c)]⟩]⟩ [] [] (by kernel_rfl) on wn ?_
  refine l_nil (q_then_normal ?_)
  refine c_seq ?_
  refine c_seq ?_
  refine c_region ?_
  refine JL_run 4 [] [8, 6, 1] 1 ⟨[(8, vI x.index), (6, .v (.slice x.sessions.A x.sessions.n x.sessions.c)), (1, .p 0 0)], [⟨59, [vI x.index, .v (.slice x.locks.A x.locks.n x.locks.c), .v (.slice x.pairs.A x.pairs.n x.pairs.c), .v (.slice x.sessions.A x.sessions.n x.sessions.c)]⟩]⟩ [] [] (by kernel_rfl) on wn ?_
  refine l_pure 59 [] [.v (.slice x.sessions.A x.sessions.n x.sessions.c), vI x.index] (.int .i64 (mSess (x.sessions.xs.map CSession.abs) x.index)) Try.call59 rfl rfl rfl rfl (fun bs w hS => session_Check x.sessions x.index w (And.right (And.right (Rds.kp hx hS.kp)))) ?_
  refine JL_run 1 [] [3, 1] 1 ⟨[(3, vI (mSess (x.sessions.xs.map CSession.abs) x.index)), (1, .p 0 0)], [⟨59, [vI x.index, .v (.slice x.locks.A x.locks.n x.locks.c), .v (.slice x.pairs.A x.pairs.n x.pairs.c), .v (.slice x.sessions.A x.sessions.n x.sessions.c)]⟩]⟩ [] [] (by kernel_rfl) on wn ?_
  refine l_nil (q_then_normal ?_)
  refine c_seq ?_
  refine c_region ?_
  refine JL_run 2 [] [11, 3, 1] 1 ⟨[(11, vB (!(decide (mSess (x.sessions.xs.map CSession.abs) x.index = 0)))), (3, vI (mSess (x.sessions.xs.map CSession.abs) x.index)), (1, .p 0 0)], [⟨59, [vI x.index, .v (.slice x.locks.A x.locks.n x.locks.c), .v (.slice x.pairs.A x.pairs.n x.pairs.c), .v (.slice x.sessions.A x.sessions.n x.sessions.c)]⟩]⟩ [] [] (by kernel_rfl) on wn ?_
  refine l_nil (q_then_normal ?_)
  cases h1 : decide (mSess (x.sessions.xs.map CSession.abs) x.index = 0) with
  | true =>
    have h1 := of_decide_eq_true h1
    refine c_if false rfl ?_
    refine c_skip ?_
    refine q_then_normal ?_
    refine c_seq ?_
    refine c_seq ?_
    refine c_region ?_
    refine JL_run 2 [] [14, 1] 1 ⟨[(14, .v (.slice x.locks.A x.locks.n x.locks.c)), (1, .p 0 0)], [⟨59, [vI x.index, .v (.slice x.locks.A x.locks.n x.locks.c), .v (.slice x.pairs.A x.pairs.n x.pairs.c), .v (.slice x.sessions.A x.sessions.n x.sessions.c)]⟩]⟩ [] [] (by kernel_rfl) on wn ?_
    refine l_pure 52 [] [.v (.slice x.locks.A x.locks.n x.locks.c)] (.int .i64 (mLocks (x.locks.xs.map CLock.abs))) Try.call52 rfl rfl rfl rfl (fun bs w hS => lock_Check x.locks w (And.left (Rds.kp hx hS.kp))) ?_
    refine JL_run 1 [] [4, 1] 1 ⟨[(4, vI (mLocks (x.locks.xs.map CLock.abs))), (1, .p 0 0)], [⟨59, [vI x.index, .v (.slice x.locks.A x.locks.n x.locks.c), .v (.slice x.pairs.A x.pairs.n x.pairs.c), .v (.slice x.sessions.A x.sessions.n x.sessions.c)]⟩]⟩ [] [] (by kernel_rfl) on wn ?_
    refine l_nil (q_then_normal ?_)
    refine c_seq ?_
    refine c_region ?_
    refine JL_run 2 [] [17, 4, 1] 1 ⟨[(17, vB (!(decide (mLocks (x.locks.xs.map CLock.abs) = 0)))), (4, vI (mLocks (x.locks.xs.map CLock.abs))), (1, .p 0 0)], [⟨59, [vI x.index, .v (.slice x.locks.A x.locks.n x.locks.c), .v (.slice x.pairs.A x.pairs.n x.pairs.c), .v (.slice x.sessions.A x.sessions.n x.sessions.c)]⟩]⟩ [] [] (by kernel_rfl) on wn ?_
    refine l_nil (q_then_normal ?_)
    cases h2 : decide (mLocks (x.locks.xs.map CLock.abs) = 0) with
    | true =>
      have h2 := of_decide_eq_true h2
      refine c_if false rfl ?_
      refine c_skip ?_
      refine q_then_normal ?_
      refine c_seq ?_
      refine c_region ?_
      refine JL_run 2 [] [20] 0 ⟨[(20, .v (.slice x.pairs.A x.pairs.n x.pairs.c))], []⟩ [] [] (by kernel_rfl) on wn ?_
      refine l_pure 79 [] [.v (.slice x.pairs.A x.pairs.n x.pairs.c)] (.int .i64 (mPairs x.pairs.xs)) Try.call79 rfl rfl rfl rfl (fun bs w hS => pair_Check x.pairs w (And.left (And.right (Rds.kp hx hS.kp)))) ?_
      refine JL_run 1 [] [2] 0 ⟨[(2, vI (mPairs x.pairs.xs))], []⟩ [] [] (by kernel_rfl) on wn ?_
      refine l_nil (q_then_normal ?_)
      refine c_ret ?_
      refine q_ret (.inl rfl) [vI (mPairs x.pairs.xs)] rfl (fun bs w hS => ?_)
      refine ⟨?_, hS.kp⟩
      have hm : mState x.abs = mPairs x.pairs.xs := by
        have q1 : x.abs.sessions = x.sessions.xs.map CSession.abs := rfl
        have q2 : x.abs.locks = x.locks.xs.map CLock.abs := rfl
        have q3 : x.abs.pairs = x.pairs.xs := rfl
        have q4 : x.abs.index = x.index := rfl
        unfold mState; rw [q1, q2, q3, q4]; simp only [h1, h2, if_true, if_false, reduceIte]
      rw [hm]
      rfl
    | false =>
      have h2 := of_decide_eq_false h2
      refine c_if true rfl ?_
      refine c_seq ?_
      refine c_region ?_
      refine JL_run 2 [] [2] 0 ⟨[(2, vI (mLocks (x.locks.xs.map CLock.abs)))], []⟩ [] [] (by kernel_rfl) on wn ?_
      refine l_nil (q_then_normal ?_)
      refine c_ret ?_
      refine q_then_ret (q_ret (.inl rfl) [vI (mLocks (x.locks.xs.map CLock.abs))] rfl (fun bs w hS => ?_))
      refine ⟨?_, hS.kp⟩
      have hm : mState x.abs = mLocks (x.locks.xs.map CLock.abs) := by
        have q1 : x.abs.sessions = x.sessions.xs.map CSession.abs := rfl
        have q2 : x.abs.locks = x.locks.xs.map CLock.abs := rfl
        have q3 : x.abs.pairs = x.pairs.xs := rfl
        have q4 : x.abs.index = x.index := rfl
        unfold mState; rw [q1, q2, q3, q4]; simp only [h1, h2, if_true, if_false, reduceIte]
      rw [hm]
      rfl
  | false =>
    have h1 := of_decide_eq_false h1
    refine c_if true rfl ?_
    refine c_seq ?_
    refine c_region ?_
    refine JL_run 2 [] [2] 0 ⟨[(2, vI (mSess (x.sessions.xs.map CSession.abs) x.index))], []⟩ [] [] (by kernel_rfl) on wn ?_
    refine l_nil (q_then_normal ?_)
    refine c_ret ?_
    refine q_then_ret (q_ret (.inl rfl) [vI (mSess (x.sessions.xs.map CSession.abs) x.index)] rfl (fun bs w hS => ?_))
    refine ⟨?_, hS.kp⟩
    have hm : mState x.abs = mSess (x.sessions.xs.map CSession.abs) x.index := by
      have q1 : x.abs.sessions = x.sessions.xs.map CSession.abs := rfl
      have q2 : x.abs.locks = x.locks.xs.map CLock.abs := rfl
      have q3 : x.abs.pairs = x.pairs.xs := rfl
      have q4 : x.abs.index = x.index := rfl
      unfold mState; rw [q1, q2, q3, q4]; simp only [h1, if_true, if_false, reduceIte]
    rw [hm]
    rfl

theorem ref_StateFault {B : Nat → Prop} (x : CState) (w : World) (hx : Rds.sub B w x) : Calls Try.prog 34 #[.agg #[.int .i64 x.index, .slice x.locks.A x.locks.n x.locks.c, .slice x.pairs.A x.pairs.n x.pairs.c, .slice x.sessions.A x.sessions.n x.sessions.c]] w fun e w' => e = .returned (.int .i64 (mState x.abs)) ∧ Kp [] w w' := by
  have okx := Rds.okof hx
  refine calls_J0 20 Try.func34 rfl rfl [.agg #[.int .i64 x.index, .slice x.locks.A x.locks.n x.locks.c, .slice x.pairs.A x.pairs.n x.pairs.c, .slice x.sessions.A x.sessions.n x.sessions.c]] rfl ?_
  refine c_seq ?_
  refine c_region ?_
  refine JL_run 2 [] [1] 1 ⟨[(1, .p 0 0)], [⟨59, [vI x.index, .v (.slice x.locks.A x.locks.n x.locks.c), .v (.slice x.pairs.A x.pairs.n x.pairs.c), .v (.slice x.sessions.A x.sessions.n x.sessions.c)]⟩]⟩ [] [] (by kernel_rfl) on wn ?_
  refine l_nil (q_then_normal ?_)
  refine c_seq ?_
  refine c_region ?_
  refine JL_run 4 [] [7, 5, 1] 1 ⟨[(7, vI x.index), (5, .v (.slice x.sessions.A x.sessions.n x.sessions.c)), (1, .p 0 0)], [⟨59, [vI x.index, .v (.slice x.locks.A x.locks.n x.locks.c), .v (.slice x.pairs.A x.pairs.n x.pairs.c), .v (.slice x.sessions.A x.sessions.n x.sessions.c)]⟩]⟩ [] [] (by kernel_rfl) on wn ?_
  refine l_pure 63 [] [.v (.slice x.sessions.A x.sessions.n x.sessions.c), vI x.index] (.int .i64 (mSess (x.sessions.xs.map CSession.abs) x.index)) Try.call63 rfl rfl rfl rfl (fun bs w hS => ref_SessionsFault x.sessions x.index w (And.right (And.right (Rds.kp hx hS.kp)))) ?_
  refine JL_run 1 [] [3, 1] 1 ⟨[(3, vI (mSess (x.sessions.xs.map CSession.abs) x.index)), (1, .p 0 0)], [⟨59, [vI x.index, .v (.slice x.locks.A x.locks.n x.locks.c), .v (.slice x.pairs.A x.pairs.n x.pairs.c), .v (.slice x.sessions.A x.sessions.n x.sessions.c)]⟩]⟩ [] [] (by kernel_rfl) on wn ?_
  refine l_nil (q_then_normal ?_)
  refine c_seq ?_
  refine c_seq ?_
  refine c_region ?_
  refine JL_run 2 [] [10, 3, 1] 1 ⟨[(10, vB (decide (mSess (x.sessions.xs.map CSession.abs) x.index = 0))), (3, vI (mSess (x.sessions.xs.map CSession.abs) x.index)), (1, .p 0 0)], [⟨59, [vI x.index, .v (.slice x.locks.A x.locks.n x.locks.c), .v (.slice x.pairs.A x.pairs.n x.pairs.c), .v (.slice x.sessions.A x.sessions.n x.sessions.c)]⟩]⟩ [] [] (by kernel_rfl) on wn ?_
  refine l_nil (q_then_normal ?_)
  cases h1 : decide (mSess (x.sessions.xs.map CSession.abs) x.index = 0) with
  | true =>
    have h1 := of_decide_eq_true h1
    refine c_if true rfl ?_
    refine c_region ?_
    refine JL_run 2 [] [12, 1] 1 ⟨[(12, .v (.slice x.locks.A x.locks.n x.locks.c)), (1, .p 0 0)], [⟨59, [vI x.index, .v (.slice x.locks.A x.locks.n x.locks.c), .v (.slice x.pairs.A x.pairs.n x.pairs.c), .v (.slice x.sessions.A x.sessions.n x.sessions.c)]⟩]⟩ [] [] (by kernel_rfl) on wn ?_
    refine l_pure 56 [] [.v (.slice x.locks.A x.locks.n x.locks.c)] (.int .i64 (mLocks (x.locks.xs.map CLock.abs))) Try.call56 rfl rfl rfl rfl (fun bs w hS => ref_LocksFault x.locks w (And.left (Rds.kp hx hS.kp))) ?_
    refine JL_run 1 [] [3, 1] 1 ⟨[(3, vI (mLocks (x.locks.xs.map CLock.abs))), (1, .p 0 0)], [⟨59, [vI x.index, .v (.slice x.locks.A x.locks.n x.locks.c), .v (.slice x.pairs.A x.pairs.n x.pairs.c), .v (.slice x.sessions.A x.sessions.n x.sessions.c)]⟩]⟩ [] [] (by kernel_rfl) on wn ?_
    refine l_nil (q_then_normal ?_)
    refine c_seq ?_
    refine c_seq ?_
    refine c_region ?_
    refine JL_run 2 [] [15, 3, 1] 1 ⟨[(15, vB (decide (mLocks (x.locks.xs.map CLock.abs) = 0))), (3, vI (mLocks (x.locks.xs.map CLock.abs))), (1, .p 0 0)], [⟨59, [vI x.index, .v (.slice x.locks.A x.locks.n x.locks.c), .v (.slice x.pairs.A x.pairs.n x.pairs.c), .v (.slice x.sessions.A x.sessions.n x.sessions.c)]⟩]⟩ [] [] (by kernel_rfl) on wn ?_
    refine l_nil (q_then_normal ?_)
    cases h2 : decide (mLocks (x.locks.xs.map CLock.abs) = 0) with
    | true =>
      have h2 := of_decide_eq_true h2
      refine c_if true rfl ?_
      refine c_region ?_
      refine JL_run 2 [] [17] 0 ⟨[(17, .v (.slice x.pairs.A x.pairs.n x.pairs.c))], []⟩ [] [] (by kernel_rfl) on wn ?_
      refine l_pure 80 [] [.v (.slice x.pairs.A x.pairs.n x.pairs.c)] (.int .i64 (mPairs x.pairs.xs)) Try.call80 rfl rfl rfl rfl (fun bs w hS => ref_PairsFault x.pairs w (And.left (And.right (Rds.kp hx hS.kp)))) ?_
      refine JL_run 1 [] [3] 0 ⟨[(3, vI (mPairs x.pairs.xs))], []⟩ [] [] (by kernel_rfl) on wn ?_
      refine l_nil (q_then_normal ?_)
      refine c_seq ?_
      refine c_region ?_
      refine JL_run 2 [] [2] 0 ⟨[(2, vI (mPairs x.pairs.xs))], []⟩ [] [] (by kernel_rfl) on wn ?_
      refine l_nil (q_then_normal ?_)
      refine c_ret ?_
      refine q_ret (.inl rfl) [vI (mPairs x.pairs.xs)] rfl (fun bs w hS => ?_)
      refine ⟨?_, hS.kp⟩
      have hm : mState x.abs = mPairs x.pairs.xs := by
        have q1 : x.abs.sessions = x.sessions.xs.map CSession.abs := rfl
        have q2 : x.abs.locks = x.locks.xs.map CLock.abs := rfl
        have q3 : x.abs.pairs = x.pairs.xs := rfl
        have q4 : x.abs.index = x.index := rfl
        unfold mState; rw [q1, q2, q3, q4]; simp only [h1, h2, if_true, if_false, reduceIte]
      rw [hm]
      rfl
    | false =>
      have h2 := of_decide_eq_false h2
      refine c_if false rfl ?_
      refine c_skip ?_
      refine q_then_normal ?_
      refine c_seq ?_
      refine c_region ?_
      refine JL_run 2 [] [2] 0 ⟨[(2, vI (mLocks (x.locks.xs.map CLock.abs)))], []⟩ [] [] (by kernel_rfl) on wn ?_
      refine l_nil (q_then_normal ?_)
      refine c_ret ?_
      refine q_ret (.inl rfl) [vI (mLocks (x.locks.xs.map CLock.abs))] rfl (fun bs w hS => ?_)
      refine ⟨?_, hS.kp⟩
      have hm : mState x.abs = mLocks (x.locks.xs.map CLock.abs) := by
        have q1 : x.abs.sessions = x.sessions.xs.map CSession.abs := rfl
        have q2 : x.abs.locks = x.locks.xs.map CLock.abs := rfl
        have q3 : x.abs.pairs = x.pairs.xs := rfl
        have q4 : x.abs.index = x.index := rfl
        unfold mState; rw [q1, q2, q3, q4]; simp only [h1, h2, if_true, if_false, reduceIte]
      rw [hm]
      rfl
  | false =>
    have h1 := of_decide_eq_false h1
    refine c_if false rfl ?_
    refine c_skip ?_
    refine q_then_normal ?_
    refine c_seq ?_
    refine c_seq ?_
    refine c_region ?_
    refine JL_run 2 [] [15, 3, 1] 1 ⟨[(15, vB (decide (mSess (x.sessions.xs.map CSession.abs) x.index = 0))), (3, vI (mSess (x.sessions.xs.map CSession.abs) x.index)), (1, .p 0 0)], [⟨59, [vI x.index, .v (.slice x.locks.A x.locks.n x.locks.c), .v (.slice x.pairs.A x.pairs.n x.pairs.c), .v (.slice x.sessions.A x.sessions.n x.sessions.c)]⟩]⟩ [] [] (by kernel_rfl) on wn ?_
    refine l_nil (q_then_normal ?_)
    cases h3 : decide (mSess (x.sessions.xs.map CSession.abs) x.index = 0) with
    | true =>
      have h3 := of_decide_eq_true h3
      exact absurd h3 h1
    | false =>
      have h3 := of_decide_eq_false h3
      refine c_if false rfl ?_
      refine c_skip ?_
      refine q_then_normal ?_
      refine c_seq ?_
      refine c_region ?_
      refine JL_run 2 [] [2] 0 ⟨[(2, vI (mSess (x.sessions.xs.map CSession.abs) x.index))], []⟩ [] [] (by kernel_rfl) on wn ?_
      refine l_nil (q_then_normal ?_)
      refine c_ret ?_
      refine q_ret (.inl rfl) [vI (mSess (x.sessions.xs.map CSession.abs) x.index)] rfl (fun bs w hS => ?_)
      refine ⟨?_, hS.kp⟩
      have hm : mState x.abs = mSess (x.sessions.xs.map CSession.abs) x.index := by
        have q1 : x.abs.sessions = x.sessions.xs.map CSession.abs := rfl
        have q2 : x.abs.locks = x.locks.xs.map CLock.abs := rfl
        have q3 : x.abs.pairs = x.pairs.xs := rfl
        have q4 : x.abs.index = x.index := rfl
        unfold mState; rw [q1, q2, q3, q4]; simp only [h1, h3, if_true, if_false, reduceIte]
      rw [hm]
      rfl

theorem law_MachineChecks {B : Nat → Prop} (x : CState) (w : World) (hx : Rds.sub B w x) : Calls Try.prog 9 #[.agg #[.int .i64 x.index, .slice x.locks.A x.locks.n x.locks.c, .slice x.pairs.A x.pairs.n x.pairs.c, .slice x.sessions.A x.sessions.n x.sessions.c]] w fun e w' => e = .returned (.bool true) ∧ Kp [] w w' := by
  have okx := Rds.okof hx
  refine calls_J0 12 Try.func9 rfl rfl [.agg #[.int .i64 x.index, .slice x.locks.A x.locks.n x.locks.c, .slice x.pairs.A x.pairs.n x.pairs.c, .slice x.sessions.A x.sessions.n x.sessions.c]] rfl ?_
  refine c_seq ?_
  refine c_region ?_
  refine JL_run 2 [] [1] 1 ⟨[(1, .p 0 0)], [⟨59, [vI x.index, .v (.slice x.locks.A x.locks.n x.locks.c), .v (.slice x.pairs.A x.pairs.n x.pairs.c), .v (.slice x.sessions.A x.sessions.n x.sessions.c)]⟩]⟩ [] [] (by kernel_rfl) on wn ?_
  refine l_nil (q_then_normal ?_)
  refine c_seq ?_
  refine c_region ?_
  refine JL_run 1 [] [5, 1] 1 ⟨[(5, .v (.agg #[.int .i64 x.index, .slice x.locks.A x.locks.n x.locks.c, .slice x.pairs.A x.pairs.n x.pairs.c, .slice x.sessions.A x.sessions.n x.sessions.c])), (1, .p 0 0)], [⟨59, [vI x.index, .v (.slice x.locks.A x.locks.n x.locks.c), .v (.slice x.pairs.A x.pairs.n x.pairs.c), .v (.slice x.sessions.A x.sessions.n x.sessions.c)]⟩]⟩ [] [] (by kernel_rfl) on wn ?_
  refine l_pure 33 [] [.v (.agg #[.int .i64 x.index, .slice x.locks.A x.locks.n x.locks.c, .slice x.pairs.A x.pairs.n x.pairs.c, .slice x.sessions.A x.sessions.n x.sessions.c])] (.int .i64 (mState x.abs)) Try.call33 rfl rfl rfl rfl (fun bs w hS => machine_Check x w (Rds.kp hx hS.kp)) ?_
  refine JL_run 1 [] [3, 1] 1 ⟨[(3, vI (mState x.abs)), (1, .p 0 0)], [⟨59, [vI x.index, .v (.slice x.locks.A x.locks.n x.locks.c), .v (.slice x.pairs.A x.pairs.n x.pairs.c), .v (.slice x.sessions.A x.sessions.n x.sessions.c)]⟩]⟩ [] [] (by kernel_rfl) on wn ?_
  refine l_nil (q_then_normal ?_)
  refine c_seq ?_
  refine c_region ?_
  refine JL_run 1 [] [7, 3] 0 ⟨[(7, .v (.agg #[.int .i64 x.index, .slice x.locks.A x.locks.n x.locks.c, .slice x.pairs.A x.pairs.n x.pairs.c, .slice x.sessions.A x.sessions.n x.sessions.c])), (3, vI (mState x.abs))], []⟩ [] [] (by kernel_rfl) on wn ?_
  refine l_pure 34 [] [.v (.agg #[.int .i64 x.index, .slice x.locks.A x.locks.n x.locks.c, .slice x.pairs.A x.pairs.n x.pairs.c, .slice x.sessions.A x.sessions.n x.sessions.c])] (.int .i64 (mState x.abs)) Try.call34 rfl rfl rfl rfl (fun bs w hS => ref_StateFault x w (Rds.kp hx hS.kp)) ?_
  refine JL_run 1 [] [4, 3] 0 ⟨[(4, vI (mState x.abs)), (3, vI (mState x.abs))], []⟩ [] [] (by kernel_rfl) on wn ?_
  refine l_nil (q_then_normal ?_)
  refine c_seq ?_
  refine c_region ?_
  refine JL_run 4 [] [2] 0 ⟨[(2, vB (decide (mState x.abs = mState x.abs)))], []⟩ [] [] (by kernel_rfl) on wn ?_
  refine l_nil (q_then_normal ?_)
  refine c_ret ?_
  refine q_ret (.inl rfl) [vB (decide (mState x.abs = mState x.abs))] rfl (fun bs w hS => ?_)
  refine ⟨?_, hS.kp⟩
  simp [retOf, den]

end Go.Proofs.Ytececkgjacccmac.W
