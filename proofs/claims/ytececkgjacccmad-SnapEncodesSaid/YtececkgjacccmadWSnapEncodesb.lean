/-
  The functions that the law SnapEncodes reaches, walked: each returns what its model says.
  Conditions: those that each theorem states.
-/
import Derived.Test.YtececkgjacccmadWSnapEncodesa
set_option linter.unusedVariables false
set_option linter.unusedSimpArgs false
set_option maxRecDepth 100000
namespace Go.Proofs.Ytececkgjacccmad.W
open Go.Proofs.Ytececkgjacccmad.Fw Go.RowKit

theorem ref_repliesMay {B : Nat → Prop} (x : CSession) (w : World) (hx : Rds.sub B w x) (hb : 0 ≤ x.acked ∧ x.acked ≤ 1048576) : Calls Try.prog 88 #[.agg #[.int .i64 x.client, .int .i64 x.id, .int .i64 x.acked, .int .i64 x.last, .slice x.replies.A x.replies.n x.replies.c]] w fun e w' => e = .returned (.bool (mReplies x.abs)) ∧ Kp [] w w' := by
  have okx := Rds.okof hx
  have ncx := Sl.ok.nc okx
  have hns : x.replies.n = x.replies.xs.length := rfl
  have hat : ∀ q, x.abs.replies.getD q default = x.replies.at q := fun _ => rfl
  have hac : x.abs.acked = x.acked := rfl
  have hln : x.abs.replies.length = x.replies.n := rfl
  refine calls_J0 52 Try.func88 rfl rfl [.agg #[.int .i64 x.client, .int .i64 x.id, .int .i64 x.acked, .int .i64 x.last, .slice x.replies.A x.replies.n x.replies.c]] rfl ?_
  refine c_seq ?_
  refine c_region ?_
  refine JL_run 2 [] [1] 1 ⟨[(1, .p 0 0)], [⟨113, [vI x.client, vI x.id, vI x.acked, vI x.last, .v (.slice x.replies.A x.replies.n x.replies.c)]⟩]⟩ [] [] (by kernel_rfl) on wn ?_
  refine l_nil (q_then_normal ?_)
  refine c_seq ?_
  refine c_region ?_
  refine JL_run 3 [] [3, 1] 1 ⟨[(3, vI x.acked), (1, .p 0 0)], [⟨113, [vI x.client, vI x.id, vI x.acked, vI x.last, .v (.slice x.replies.A x.replies.n x.replies.c)]⟩]⟩ [] [] (by kernel_rfl) on wn ?_
  refine l_nil (q_then_normal ?_)
  refine c_seq ?_
  refine c_seq ?_
  refine c_region ?_
  refine JL_run 1 [] [4, 3, 1] 1 ⟨[(4, vI 0), (3, vI x.acked), (1, .p 0 0)], [⟨113, [vI x.client, vI x.id, vI x.acked, vI x.last, .v (.slice x.replies.A x.replies.n x.replies.c)]⟩]⟩ [] [] (by kernel_rfl) on wn ?_
  refine l_nil (q_then_normal ?_)
  refine c_block ?_
  refine c_loop (σ := Nat × Int) (fun ⟨i, la⟩ => i ≤ x.replies.n ∧ allTo (keptOk x.abs) i = true ∧ x.acked ≤ la ∧ la ≤ x.acked + 4 ∧ (i = 0 → la = x.acked) ∧ (0 < i → la = (x.replies.at (i - 1)).seq)) (fun ⟨i, la⟩ => x.replies.n - i) (fun ⟨i, la⟩ => []) (fun ⟨i, la⟩ => ⟨[(4, vI ((i : Nat) : Int)), (3, vI la), (1, .p 0 0)], [⟨113, [vI x.client, vI x.id, vI x.acked, vI x.last, .v (.slice x.replies.A x.replies.n x.replies.c)]⟩]⟩) ⟨0, x.acked⟩ ⟨Nat.zero_le _, rfl, by omega, by omega, fun _ => rfl, fun h => absurd h (by omega)⟩ (s_start [4, 3, 1] 1 (by kernel_rfl) rfl) ?_
  rintro ⟨i, la⟩ ⟨hi, hI, hl1, hl2, hl3, hl4⟩
  have hz : i = 0 ∧ la = x.acked ∨ 0 < i ∧ la = (x.replies.at (i - 1)).seq := by rcases Nat.eq_zero_or_pos i with h | h; exact .inl ⟨h, hl3 h⟩; exact .inr ⟨h, hl4 h⟩
  refine c_seq ?_
  refine c_seq ?_
  refine c_region ?_
  refine JL_run 5 [] [12, 4, 3, 1] 1 ⟨[(12, vB (decide (((i : Nat) : Int) < ((x.replies.n : Nat) : Int)))), (4, vI ((i : Nat) : Int)), (3, vI la), (1, .p 0 0)], [⟨113, [vI x.client, vI x.id, vI x.acked, vI x.last, .v (.slice x.replies.A x.replies.n x.replies.c)]⟩]⟩ [] [] (by kernel_rfl) on wn ?_
  refine l_nil (q_then_normal ?_)
  cases h1 : decide (((i : Nat) : Int) < ((x.replies.n : Nat) : Int)) with
  | true =>
    have h1 := of_decide_eq_true h1
    refine c_if true rfl ?_
    refine c_skip ?_
    refine q_then_normal ?_
    refine c_seq ?_
    refine c_block ?_
    refine c_seq ?_
    refine c_region ?_
    refine JL_run 7 [(3, .idx x.replies.ad i), (4, .ext [.int .i64 (x.replies.at i).seq, .int .i64 (x.replies.at i).reply.code, .int .i64 (x.replies.at i).reply.n, .string (x.replies.at i).reply.text])] [5, 4, 3, 1] 2 ⟨[(5, .p 1 0), (4, vI ((i : Nat) : Int)), (3, vI la), (1, .p 0 0)], [⟨113, [vI x.client, vI x.id, vI x.acked, vI x.last, .v (.slice x.replies.A x.replies.n x.replies.c)]⟩, ⟨115, [vI (x.replies.at i).seq, vI (x.replies.at i).reply.code, vI (x.replies.at i).reply.n, vS (x.replies.at i).reply.text]⟩]⟩ [x.replies.A = some x.replies.ad, ((i : Nat) : Int) = ((i : Nat) : Int), i < x.replies.n] [(x.replies.ad.add (i * 4), [.int .i64 (x.replies.at i).seq, .int .i64 (x.replies.at i).reply.code, .int .i64 (x.replies.at i).reply.n, .string (x.replies.at i).reply.text])] (by kernel_rfl) (oc (Sl.ok.own (s := x.replies) (i := i) okx (by omega)) (oc rfl (oc (by omega) on))) (fun w hk hr => ⟨(Sl.rd.all (s := x.replies) (i := i) (Rds.kp hx hk) (by omega) rfl), trivial⟩) ?_
    refine l_nil (q_then_normal ?_)
    refine c_seq ?_
    refine c_seq ?_
    refine c_region ?_
    refine JL_run 7 [] [26, 23, 21, 5, 4, 1] 2 ⟨[(26, vI (x.acked + 4)), (23, vI (la + 1)), (21, vI (x.replies.at i).seq), (5, .p 1 0), (4, vI ((i : Nat) : Int)), (1, .p 0 0)], [⟨113, [vI x.client, vI x.id, vI x.acked, vI x.last, .v (.slice x.replies.A x.replies.n x.replies.c)]⟩, ⟨115, [vI (x.replies.at i).seq, vI (x.replies.at i).reply.code, vI (x.replies.at i).reply.n, vS (x.replies.at i).reply.text]⟩]⟩ [inR (la + 1), inR (x.acked + 4)] [] (by kernel_rfl) (oc (by unfold inR; omega) (oc (by unfold inR; omega) on)) wn ?_
    refine l_pure 64 [] [vI (x.replies.at i).seq, vI (la + 1), vI (x.acked + 4)] (.bool (inB (x.replies.at i).seq (la + 1) (x.acked + 4))) Try.call64 rfl rfl rfl rfl (fun bs w hS => ref_In _ _ _ w) ?_
    refine JL_run 2 [] [29, 5, 4, 1] 2 ⟨[(29, vB (!(inB (x.replies.at i).seq (la + 1) (x.acked + 4)))), (5, .p 1 0), (4, vI ((i : Nat) : Int)), (1, .p 0 0)], [⟨113, [vI x.client, vI x.id, vI x.acked, vI x.last, .v (.slice x.replies.A x.replies.n x.replies.c)]⟩, ⟨115, [vI (x.replies.at i).seq, vI (x.replies.at i).reply.code, vI (x.replies.at i).reply.n, vS (x.replies.at i).reply.text]⟩]⟩ [] [] (by kernel_rfl) on wn ?_
    cases h2 : inB (x.replies.at i).seq (la + 1) (x.acked + 4) with
    | true =>
      simp only [inB, Bool.and_eq_true, Bool.and_eq_false_iff, decide_eq_true_eq, decide_eq_false_iff_not] at h2
      refine JL_run 3 [] [32, 29, 5, 4, 1] 2 ⟨[(32, vI (x.replies.at i).reply.code), (29, vB false), (5, .p 1 0), (4, vI ((i : Nat) : Int)), (1, .p 0 0)], [⟨113, [vI x.client, vI x.id, vI x.acked, vI x.last, .v (.slice x.replies.A x.replies.n x.replies.c)]⟩, ⟨115, [vI (x.replies.at i).seq, vI (x.replies.at i).reply.code, vI (x.replies.at i).reply.n, vS (x.replies.at i).reply.text]⟩]⟩ [] [] (by kernel_rfl) on wn ?_
      refine l_pure 64 [] [vI (x.replies.at i).reply.code, vI 0, vI 15] (.bool (inB (x.replies.at i).reply.code 0 15)) Try.call64 rfl rfl rfl rfl (fun bs w hS => ref_In _ _ _ w) ?_
      refine JL_run 3 [] [36, 5, 4, 1] 2 ⟨[(36, vB (!(inB (x.replies.at i).reply.code 0 15))), (5, .p 1 0), (4, vI ((i : Nat) : Int)), (1, .p 0 0)], [⟨113, [vI x.client, vI x.id, vI x.acked, vI x.last, .v (.slice x.replies.A x.replies.n x.replies.c)]⟩, ⟨115, [vI (x.replies.at i).seq, vI (x.replies.at i).reply.code, vI (x.replies.at i).reply.n, vS (x.replies.at i).reply.text]⟩]⟩ [] [] (by kernel_rfl) on wn ?_
      cases h3 : inB (x.replies.at i).reply.code 0 15 with
      | true =>
        simp only [inB, Bool.and_eq_true, Bool.and_eq_false_iff, decide_eq_true_eq, decide_eq_false_iff_not] at h3
        refine JL_run 3 [] [39, 36, 5, 4, 1] 2 ⟨[(39, vI (x.replies.at i).reply.n), (36, vB false), (5, .p 1 0), (4, vI ((i : Nat) : Int)), (1, .p 0 0)], [⟨113, [vI x.client, vI x.id, vI x.acked, vI x.last, .v (.slice x.replies.A x.replies.n x.replies.c)]⟩, ⟨115, [vI (x.replies.at i).seq, vI (x.replies.at i).reply.code, vI (x.replies.at i).reply.n, vS (x.replies.at i).reply.text]⟩]⟩ [] [] (by kernel_rfl) on wn ?_
        refine l_pure 64 [] [vI (x.replies.at i).reply.n, vI 0, vI 1073741824] (.bool (inB (x.replies.at i).reply.n 0 1073741824)) Try.call64 rfl rfl rfl rfl (fun bs w hS => ref_In _ _ _ w) ?_
        refine JL_run 3 [] [43, 5, 4, 1] 2 ⟨[(43, vB (!(inB (x.replies.at i).reply.n 0 1073741824))), (5, .p 1 0), (4, vI ((i : Nat) : Int)), (1, .p 0 0)], [⟨113, [vI x.client, vI x.id, vI x.acked, vI x.last, .v (.slice x.replies.A x.replies.n x.replies.c)]⟩, ⟨115, [vI (x.replies.at i).seq, vI (x.replies.at i).reply.code, vI (x.replies.at i).reply.n, vS (x.replies.at i).reply.text]⟩]⟩ [] [] (by kernel_rfl) on wn ?_
        cases h4 : inB (x.replies.at i).reply.n 0 1073741824 with
        | true =>
          simp only [inB, Bool.and_eq_true, Bool.and_eq_false_iff, decide_eq_true_eq, decide_eq_false_iff_not] at h4
          refine JL_run 6 [] [49, 5, 4, 1] 2 ⟨[(49, vB (decide ((12 : Int) < ((x.replies.at i).reply.text.size : Int)))), (5, .p 1 0), (4, vI ((i : Nat) : Int)), (1, .p 0 0)], [⟨113, [vI x.client, vI x.id, vI x.acked, vI x.last, .v (.slice x.replies.A x.replies.n x.replies.c)]⟩, ⟨115, [vI (x.replies.at i).seq, vI (x.replies.at i).reply.code, vI (x.replies.at i).reply.n, vS (x.replies.at i).reply.text]⟩]⟩ [] [] (by kernel_rfl) on wn ?_
          refine l_nil (q_then_normal ?_)
          cases h5 : decide ((12 : Int) < ((x.replies.at i).reply.text.size : Int)) with
          | true =>
            have h5 := of_decide_eq_true h5
            refine c_if true rfl ?_
            refine c_seq ?_
            refine c_region ?_
            refine JL_run 1 [] [2] 0 ⟨[(2, vB false)], []⟩ [] [] (by kernel_rfl) on wn ?_
            refine l_nil (q_then_normal ?_)
            refine c_ret ?_
            refine q_then_ret (q_block_ret (q_then_ret (q_then_ret (q_block_ret (q_then_ret (q_ret (.inl rfl) [vB false] rfl (fun bs w hS => ?_)))))))
            refine ⟨?_, hS.kp⟩
            have hm : mReplies x.abs = false := allTo_bad (j := i) (decide_eq_false (fun hk => by simp only [hat, hac] at hk; omega)) (show i < x.abs.replies.length by rw [hln]; omega)
            rw [hm]
            rfl
          | false =>
            have h5 := of_decide_eq_false h5
            refine c_if false rfl ?_
            refine c_skip ?_
            refine q_then_normal ?_
            refine c_region ?_
            refine JL_run 3 [] [3, 4, 1] 1 ⟨[(3, vI (x.replies.at i).seq), (4, vI ((i : Nat) : Int)), (1, .p 0 0)], [⟨113, [vI x.client, vI x.id, vI x.acked, vI x.last, .v (.slice x.replies.A x.replies.n x.replies.c)]⟩]⟩ [] [] (by kernel_rfl) on wn ?_
            refine l_nil (q_block_normal (q_then_normal ?_))
            refine c_region ?_
            refine JL_run 3 [] [4, 3, 1] 1 ⟨[(4, vI (((i : Nat) : Int) + 1)), (3, vI (x.replies.at i).seq), (1, .p 0 0)], [⟨113, [vI x.client, vI x.id, vI x.acked, vI x.last, .v (.slice x.replies.A x.replies.n x.replies.c)]⟩]⟩ [inR (((i : Nat) : Int) + 1)] [] (by kernel_rfl) (oc (by unfold inR; omega) on) wn ?_
            refine l_nil (q_loop (x := (⟨i, la⟩ : Nat × Int)) (⟨i + 1, (x.replies.at i).seq⟩ : Nat × Int) ⟨by omega, allTo_step hI (decide_eq_true (by simp only [hat, hac]; exact ⟨by omega, by omega, by omega, by omega, by omega, by omega, by omega, by omega⟩)), by omega, by omega, fun h => absurd h (by omega), fun _ => rfl⟩ (by show x.replies.n - (i + 1) < x.replies.n - i; omega) (s_start [4, 3, 1] 1 (by kernel_rfl) rfl))
        | false =>
          simp only [inB, Bool.and_eq_true, Bool.and_eq_false_iff, decide_eq_true_eq, decide_eq_false_iff_not] at h4
          refine JL_run 6 [] [49, 5, 4, 1] 2 ⟨[(49, vB true), (5, .p 1 0), (4, vI ((i : Nat) : Int)), (1, .p 0 0)], [⟨113, [vI x.client, vI x.id, vI x.acked, vI x.last, .v (.slice x.replies.A x.replies.n x.replies.c)]⟩, ⟨115, [vI (x.replies.at i).seq, vI (x.replies.at i).reply.code, vI (x.replies.at i).reply.n, vS (x.replies.at i).reply.text]⟩]⟩ [] [] (by kernel_rfl) on wn ?_
          refine l_nil (q_then_normal ?_)
          refine c_if true rfl ?_
          refine c_seq ?_
          refine c_region ?_
          refine JL_run 1 [] [2] 0 ⟨[(2, vB false)], []⟩ [] [] (by kernel_rfl) on wn ?_
          refine l_nil (q_then_normal ?_)
          refine c_ret ?_
          refine q_then_ret (q_block_ret (q_then_ret (q_then_ret (q_block_ret (q_then_ret (q_ret (.inl rfl) [vB false] rfl (fun bs w hS => ?_)))))))
          refine ⟨?_, hS.kp⟩
          have hm : mReplies x.abs = false := allTo_bad (j := i) (decide_eq_false (fun hk => by simp only [hat, hac] at hk; omega)) (show i < x.abs.replies.length by rw [hln]; omega)
          rw [hm]
          rfl
      | false =>
        simp only [inB, Bool.and_eq_true, Bool.and_eq_false_iff, decide_eq_true_eq, decide_eq_false_iff_not] at h3
        refine JL_run 13 [] [49, 5, 4, 1] 2 ⟨[(49, vB true), (5, .p 1 0), (4, vI ((i : Nat) : Int)), (1, .p 0 0)], [⟨113, [vI x.client, vI x.id, vI x.acked, vI x.last, .v (.slice x.replies.A x.replies.n x.replies.c)]⟩, ⟨115, [vI (x.replies.at i).seq, vI (x.replies.at i).reply.code, vI (x.replies.at i).reply.n, vS (x.replies.at i).reply.text]⟩]⟩ [] [] (by kernel_rfl) on wn ?_
        refine l_nil (q_then_normal ?_)
        refine c_if true rfl ?_
        refine c_seq ?_
        refine c_region ?_
        refine JL_run 1 [] [2] 0 ⟨[(2, vB false)], []⟩ [] [] (by kernel_rfl) on wn ?_
        refine l_nil (q_then_normal ?_)
        refine c_ret ?_
        refine q_then_ret (q_block_ret (q_then_ret (q_then_ret (q_block_ret (q_then_ret (q_ret (.inl rfl) [vB false] rfl (fun bs w hS => ?_)))))))
        refine ⟨?_, hS.kp⟩
        have hm : mReplies x.abs = false := allTo_bad (j := i) (decide_eq_false (fun hk => by simp only [hat, hac] at hk; omega)) (show i < x.abs.replies.length by rw [hln]; omega)
        rw [hm]
        rfl
    | false =>
      simp only [inB, Bool.and_eq_true, Bool.and_eq_false_iff, decide_eq_true_eq, decide_eq_false_iff_not] at h2
      refine JL_run 20 [] [49, 5, 4, 1] 2 ⟨[(49, vB true), (5, .p 1 0), (4, vI ((i : Nat) : Int)), (1, .p 0 0)], [⟨113, [vI x.client, vI x.id, vI x.acked, vI x.last, .v (.slice x.replies.A x.replies.n x.replies.c)]⟩, ⟨115, [vI (x.replies.at i).seq, vI (x.replies.at i).reply.code, vI (x.replies.at i).reply.n, vS (x.replies.at i).reply.text]⟩]⟩ [] [] (by kernel_rfl) on wn ?_
      refine l_nil (q_then_normal ?_)
      refine c_if true rfl ?_
      refine c_seq ?_
      refine c_region ?_
      refine JL_run 1 [] [2] 0 ⟨[(2, vB false)], []⟩ [] [] (by kernel_rfl) on wn ?_
      refine l_nil (q_then_normal ?_)
      refine c_ret ?_
      refine q_then_ret (q_block_ret (q_then_ret (q_then_ret (q_block_ret (q_then_ret (q_ret (.inl rfl) [vB false] rfl (fun bs w hS => ?_)))))))
      refine ⟨?_, hS.kp⟩
      have hm : mReplies x.abs = false := allTo_bad (j := i) (decide_eq_false (fun hk => by simp only [hat, hac] at hk; omega)) (show i < x.abs.replies.length by rw [hln]; omega)
      rw [hm]
      rfl
  | false =>
    have h1 := of_decide_eq_false h1
    refine c_if false rfl ?_
    refine c_exit ?_
    refine q_then_exit (q_then_exit (q_block_hit (q_then_normal ?_)))
    refine c_seq ?_
    refine c_region ?_
    refine JL_run 1 [] [2] 0 ⟨[(2, vB true)], []⟩ [] [] (by kernel_rfl) on wn ?_
    refine l_nil (q_then_normal ?_)
    refine c_ret ?_
    refine q_ret (.inl rfl) [vB true] rfl (fun bs w hS => ?_)
    refine ⟨?_, hS.kp⟩
    have hm : mReplies x.abs = true := by show allTo _ x.abs.replies.length = true; rw [hln, show x.replies.n = i by omega]; exact hI
    rw [hm]
    rfl

theorem session_Check {B : Nat → Prop} (s : Sl CSession) (n : Int) (w : World) (hs : s.rd B w) : Calls Try.prog 78 #[.slice s.A s.n s.c, .int .i64 n] w fun e w' => e = .returned (.int .i64 (mSess (s.xs.map CSession.abs) n)) ∧ Kp [] w w' := by
  have oks := Sl.rd.ok hs
  have ncs := Sl.ok.nc oks
  have hns : s.n = s.xs.length := rfl
  have hat : ∀ q, (s.xs.map CSession.abs).getD q default = (s.at q).abs := fun q => sabs_at q
  have hq0 : ∀ q, (s.at q).abs.client = (s.at q).client := fun _ => rfl
  have hq1 : ∀ q, (s.at q).abs.id = (s.at q).id := fun _ => rfl
  have hq2 : ∀ q, (s.at q).abs.acked = (s.at q).acked := fun _ => rfl
  have hq3 : ∀ q, (s.at q).abs.last = (s.at q).last := fun _ => rfl
  have hml : (s.xs.map CSession.abs).length = s.n := by simp
  refine calls_J0 76 Try.func78 rfl rfl [.slice s.A s.n s.c, .int .i64 n] rfl ?_
  refine c_seq ?_
  refine c_region ?_
  refine JL_run 1 [] [0, 1] 0 ⟨[(0, .v (.slice s.A s.n s.c)), (1, vI n)], []⟩ [] [] (by kernel_rfl) on wn ?_
  refine l_nil (q_then_normal ?_)
  refine c_seq ?_
  refine c_seq ?_
  refine c_region ?_
  refine JL_run 3 [] [9, 0, 1] 0 ⟨[(9, vB (decide (n < 0))), (0, .v (.slice s.A s.n s.c)), (1, vI n)], []⟩ [] [] (by kernel_rfl) on wn ?_
  cases h1 : decide (n < 0) with
  | true =>
    have h1 := of_decide_eq_true h1
    refine JL_run 3 [] [12, 0, 1] 0 ⟨[(12, vB true), (0, .v (.slice s.A s.n s.c)), (1, vI n)], []⟩ [] [] (by kernel_rfl) on wn ?_
    refine l_nil (q_then_normal ?_)
    refine c_if true rfl ?_
    refine c_seq ?_
    refine c_region ?_
    refine JL_run 1 [] [4] 0 ⟨[(4, vI 2)], []⟩ [] [] (by kernel_rfl) on wn ?_
    refine l_nil (q_then_normal ?_)
    refine c_ret ?_
    refine q_then_ret (q_ret (.inl rfl) [vI 2] rfl (fun bs w hS => ?_))
    refine ⟨?_, hS.kp⟩
    simp only [retOf, den, List.map_cons, List.map_nil]
    have hm : mSess (s.xs.map CSession.abs) n = 2 := by
      unfold mSess; rw [hml]
      first | rw [if_pos (by omega)] | rw [if_neg (by omega), if_pos (by omega)]
    rw [hm]
  | false =>
    have h1 := of_decide_eq_false h1
    refine JL_run 3 [] [12, 0, 1] 0 ⟨[(12, vB (decide ((1073741824 : Int) < n))), (0, .v (.slice s.A s.n s.c)), (1, vI n)], []⟩ [] [] (by kernel_rfl) on wn ?_
    refine l_nil (q_then_normal ?_)
    cases h2 : decide ((1073741824 : Int) < n) with
    | true =>
      have h2 := of_decide_eq_true h2
      refine c_if true rfl ?_
      refine c_seq ?_
      refine c_region ?_
      refine JL_run 1 [] [4] 0 ⟨[(4, vI 2)], []⟩ [] [] (by kernel_rfl) on wn ?_
      refine l_nil (q_then_normal ?_)
      refine c_ret ?_
      refine q_then_ret (q_ret (.inl rfl) [vI 2] rfl (fun bs w hS => ?_))
      refine ⟨?_, hS.kp⟩
      simp only [retOf, den, List.map_cons, List.map_nil]
      have hm : mSess (s.xs.map CSession.abs) n = 2 := by
        unfold mSess; rw [hml]
        first | rw [if_pos (by omega)] | rw [if_neg (by omega), if_pos (by omega)]
      rw [hm]
    | false =>
      have h2 := of_decide_eq_false h2
      refine c_if false rfl ?_
      refine c_skip ?_
      refine q_then_normal ?_
      refine c_seq ?_
      refine c_seq ?_
      refine c_region ?_
      refine JL_run 3 [] [15, 0, 1] 0 ⟨[(15, vB (decide ((4 : Int) < ((s.n : Nat) : Int)))), (0, .v (.slice s.A s.n s.c)), (1, vI n)], []⟩ [] [] (by kernel_rfl) on wn ?_
      refine l_nil (q_then_normal ?_)
      cases h3 : decide ((4 : Int) < ((s.n : Nat) : Int)) with
      | true =>
        have h3 := of_decide_eq_true h3
        refine c_if true rfl ?_
        refine c_seq ?_
        refine c_region ?_
        refine JL_run 1 [] [4] 0 ⟨[(4, vI 1)], []⟩ [] [] (by kernel_rfl) on wn ?_
        refine l_nil (q_then_normal ?_)
        refine c_ret ?_
        refine q_then_ret (q_ret (.inl rfl) [vI 1] rfl (fun bs w hS => ?_))
        refine ⟨?_, hS.kp⟩
        simp only [retOf, den, List.map_cons, List.map_nil]
        have hm : mSess (s.xs.map CSession.abs) n = 1 := by
          unfold mSess; rw [hml]
          first | rw [if_pos (by omega)] | rw [if_neg (by omega), if_pos (by omega)]
        rw [hm]
      | false =>
        have h3 := of_decide_eq_false h3
        refine c_if false rfl ?_
        refine c_skip ?_
        refine q_then_normal ?_
        refine c_seq ?_
        refine c_seq ?_
        refine c_region ?_
        refine JL_run 3 [] [18, 17, 16, 0, 1] 0 ⟨[(18, vI 0), (17, vI ((s.n : Nat) : Int)), (16, .v (.slice s.A s.n s.c)), (0, .v (.slice s.A s.n s.c)), (1, vI n)], []⟩ [] [] (by kernel_rfl) on wn ?_
        refine l_nil (q_then_normal ?_)
        refine c_block ?_
        refine c_loop (σ := Nat) (fun i => i ≤ s.n ∧ mSess (s.xs.map CSession.abs) n = firstF (sessF (s.xs.map CSession.abs) n) (s.n - i) i) (fun i => s.n - i) (fun i => []) (fun i => ⟨[(18, vI ((i : Nat) : Int)), (17, vI ((s.n : Nat) : Int)), (16, .v (.slice s.A s.n s.c)), (0, .v (.slice s.A s.n s.c)), (1, vI n)], []⟩) 0 ⟨Nat.zero_le _, by unfold mSess; rw [hml, if_neg (by omega), if_neg (by omega)]⟩ (s_start [18, 17, 16, 0, 1] 0 (by kernel_rfl) rfl) ?_
        rintro i ⟨hi, hI⟩
        refine c_seq ?_
        refine c_region ?_
        refine JL_run 1 [] [19, 18, 17, 16, 0, 1] 0 ⟨[(19, vB (decide (((i : Nat) : Int) < ((s.n : Nat) : Int)))), (18, vI ((i : Nat) : Int)), (17, vI ((s.n : Nat) : Int)), (16, .v (.slice s.A s.n s.c)), (0, .v (.slice s.A s.n s.c)), (1, vI n)], []⟩ [] [] (by kernel_rfl) on wn ?_
        refine l_nil (q_then_normal ?_)
        refine c_seq ?_
        cases h4 : decide (((i : Nat) : Int) < ((s.n : Nat) : Int)) with
        | true =>
          have h4 := of_decide_eq_true h4
          refine c_if true rfl ?_
          refine c_skip ?_
          refine q_then_normal ?_
          refine c_seq ?_
          refine c_block ?_
          refine c_seq ?_
          refine c_region ?_
          refine JL_run 6 [(1, .idx s.ad i), (2, .ext [.int .i64 (s.at i).client, .int .i64 (s.at i).id, .int .i64 (s.at i).acked, .int .i64 (s.at i).last, .slice (s.at i).replies.A (s.at i).replies.n (s.at i).replies.c])] [5, 6, 18, 17, 16, 0, 1] 1 ⟨[(5, vI ((i : Nat) : Int)), (6, .p 0 0), (18, vI ((i : Nat) : Int)), (17, vI ((s.n : Nat) : Int)), (16, .v (.slice s.A s.n s.c)), (0, .v (.slice s.A s.n s.c)), (1, vI n)], [⟨113, [vI (s.at i).client, vI (s.at i).id, vI (s.at i).acked, vI (s.at i).last, .v (.slice (s.at i).replies.A (s.at i).replies.n (s.at i).replies.c)]⟩]⟩ [s.A = some s.ad, ((i : Nat) : Int) = ((i : Nat) : Int), i < s.n] [(s.ad.add (i * 5), [.int .i64 (s.at i).client, .int .i64 (s.at i).id, .int .i64 (s.at i).acked, .int .i64 (s.at i).last, .slice (s.at i).replies.A (s.at i).replies.n (s.at i).replies.c])] (by kernel_rfl) (oc (Sl.ok.own (s := s) (i := i) oks (by omega)) (oc rfl (oc (by omega) on))) (fun w hk hr => ⟨(Sl.rd.all (s := s) (i := i) (Sl.rd.kp hs hk) (by omega) rfl), trivial⟩) ?_
          refine l_nil (q_then_normal ?_)
          refine c_seq ?_
          refine c_seq ?_
          refine c_region ?_
          refine JL_run 4 [] [26, 5, 6, 18, 17, 16, 0, 1] 1 ⟨[(26, vB (decide ((s.at i).client < 1))), (5, vI ((i : Nat) : Int)), (6, .p 0 0), (18, vI ((i : Nat) : Int)), (17, vI ((s.n : Nat) : Int)), (16, .v (.slice s.A s.n s.c)), (0, .v (.slice s.A s.n s.c)), (1, vI n)], [⟨113, [vI (s.at i).client, vI (s.at i).id, vI (s.at i).acked, vI (s.at i).last, .v (.slice (s.at i).replies.A (s.at i).replies.n (s.at i).replies.c)]⟩]⟩ [] [] (by kernel_rfl) on wn ?_
          cases h5 : decide ((s.at i).client < 1) with
          | true =>
            have h5 := of_decide_eq_true h5
            refine JL_run 32 [] [58, 5, 6, 18, 17, 16, 0, 1] 1 ⟨[(58, vB true), (5, vI ((i : Nat) : Int)), (6, .p 0 0), (18, vI ((i : Nat) : Int)), (17, vI ((s.n : Nat) : Int)), (16, .v (.slice s.A s.n s.c)), (0, .v (.slice s.A s.n s.c)), (1, vI n)], [⟨113, [vI (s.at i).client, vI (s.at i).id, vI (s.at i).acked, vI (s.at i).last, .v (.slice (s.at i).replies.A (s.at i).replies.n (s.at i).replies.c)]⟩]⟩ [] [] (by kernel_rfl) on wn ?_
            refine l_nil (q_then_normal ?_)
            refine c_if true rfl ?_
            refine c_seq ?_
            refine c_region ?_
            refine JL_run 1 [] [4] 0 ⟨[(4, vI 2)], []⟩ [] [] (by kernel_rfl) on wn ?_
            refine l_nil (q_then_normal ?_)
            refine c_ret ?_
            refine q_then_ret (q_block_ret (q_then_ret (q_then_ret (q_block_ret (q_then_ret (q_ret (.inl rfl) [vI 2] rfl (fun bs w hS => ?_)))))))
            refine ⟨?_, hS.kp⟩
            simp only [retOf, den, List.map_cons, List.map_nil]
            have hf : sessF (s.xs.map CSession.abs) n i = 2 := by
              unfold sessF
              simp only [hat, hq0, hq1, hq2, hq3]
              try simp only [h1, h2, h3, h4, h5, emp_size, ne_eq, not_true_eq_false, not_false_eq_true, true_or, or_true, false_or, or_false, and_true, true_and, and_false, false_and, and_self, or_self, if_true, if_false, Bool.true_eq_false, Bool.false_eq_true, reduceIte, Classical.not_not, Bool.and_eq_true, decide_eq_true_eq]
              repeat (first | rw [if_pos (by omega)] | rw [if_neg (by omega)])
              all_goals first | rfl | (exfalso; omega)
            rw [hI, firstF_here (by omega) hf (by omega)]
          | false =>
            have h5 := of_decide_eq_false h5
            refine JL_run 5 [] [31, 5, 6, 18, 17, 16, 0, 1] 1 ⟨[(31, vB (decide ((9 : Int) < (s.at i).client))), (5, vI ((i : Nat) : Int)), (6, .p 0 0), (18, vI ((i : Nat) : Int)), (17, vI ((s.n : Nat) : Int)), (16, .v (.slice s.A s.n s.c)), (0, .v (.slice s.A s.n s.c)), (1, vI n)], [⟨113, [vI (s.at i).client, vI (s.at i).id, vI (s.at i).acked, vI (s.at i).last, .v (.slice (s.at i).replies.A (s.at i).replies.n (s.at i).replies.c)]⟩]⟩ [] [] (by kernel_rfl) on wn ?_
            cases h6 : decide ((9 : Int) < (s.at i).client) with
            | true =>
              have h6 := of_decide_eq_true h6
              refine JL_run 27 [] [58, 5, 6, 18, 17, 16, 0, 1] 1 ⟨[(58, vB true), (5, vI ((i : Nat) : Int)), (6, .p 0 0), (18, vI ((i : Nat) : Int)), (17, vI ((s.n : Nat) : Int)), (16, .v (.slice s.A s.n s.c)), (0, .v (.slice s.A s.n s.c)), (1, vI n)], [⟨113, [vI (s.at i).client, vI (s.at i).id, vI (s.at i).acked, vI (s.at i).last, .v (.slice (s.at i).replies.A (s.at i).replies.n (s.at i).replies.c)]⟩]⟩ [] [] (by kernel_rfl) on wn ?_
              refine l_nil (q_then_normal ?_)
              refine c_if true rfl ?_
              refine c_seq ?_
              refine c_region ?_
              refine JL_run 1 [] [4] 0 ⟨[(4, vI 2)], []⟩ [] [] (by kernel_rfl) on wn ?_
              refine l_nil (q_then_normal ?_)
              refine c_ret ?_
              refine q_then_ret (q_block_ret (q_then_ret (q_then_ret (q_block_ret (q_then_ret (q_ret (.inl rfl) [vI 2] rfl (fun bs w hS => ?_)))))))
              refine ⟨?_, hS.kp⟩
              simp only [retOf, den, List.map_cons, List.map_nil]
              have hf : sessF (s.xs.map CSession.abs) n i = 2 := by
                unfold sessF
                simp only [hat, hq0, hq1, hq2, hq3]
                try simp only [h1, h2, h3, h4, h5, h6, emp_size, ne_eq, not_true_eq_false, not_false_eq_true, true_or, or_true, false_or, or_false, and_true, true_and, and_false, false_and, and_self, or_self, if_true, if_false, Bool.true_eq_false, Bool.false_eq_true, reduceIte, Classical.not_not, Bool.and_eq_true, decide_eq_true_eq]
                repeat (first | rw [if_pos (by omega)] | rw [if_neg (by omega)])
                all_goals first | rfl | (exfalso; omega)
              rw [hI, firstF_here (by omega) hf (by omega)]
            | false =>
              have h6 := of_decide_eq_false h6
              refine JL_run 5 [] [36, 5, 6, 18, 17, 16, 0, 1] 1 ⟨[(36, vB (decide ((s.at i).acked < 0))), (5, vI ((i : Nat) : Int)), (6, .p 0 0), (18, vI ((i : Nat) : Int)), (17, vI ((s.n : Nat) : Int)), (16, .v (.slice s.A s.n s.c)), (0, .v (.slice s.A s.n s.c)), (1, vI n)], [⟨113, [vI (s.at i).client, vI (s.at i).id, vI (s.at i).acked, vI (s.at i).last, .v (.slice (s.at i).replies.A (s.at i).replies.n (s.at i).replies.c)]⟩]⟩ [] [] (by kernel_rfl) on wn ?_
              cases h7 : decide ((s.at i).acked < 0) with
              | true =>
                have h7 := of_decide_eq_true h7
                refine JL_run 22 [] [58, 5, 6, 18, 17, 16, 0, 1] 1 ⟨[(58, vB true), (5, vI ((i : Nat) : Int)), (6, .p 0 0), (18, vI ((i : Nat) : Int)), (17, vI ((s.n : Nat) : Int)), (16, .v (.slice s.A s.n s.c)), (0, .v (.slice s.A s.n s.c)), (1, vI n)], [⟨113, [vI (s.at i).client, vI (s.at i).id, vI (s.at i).acked, vI (s.at i).last, .v (.slice (s.at i).replies.A (s.at i).replies.n (s.at i).replies.c)]⟩]⟩ [] [] (by kernel_rfl) on wn ?_
                refine l_nil (q_then_normal ?_)
                refine c_if true rfl ?_
                refine c_seq ?_
                refine c_region ?_
                refine JL_run 1 [] [4] 0 ⟨[(4, vI 2)], []⟩ [] [] (by kernel_rfl) on wn ?_
                refine l_nil (q_then_normal ?_)
                refine c_ret ?_
                refine q_then_ret (q_block_ret (q_then_ret (q_then_ret (q_block_ret (q_then_ret (q_ret (.inl rfl) [vI 2] rfl (fun bs w hS => ?_)))))))
                refine ⟨?_, hS.kp⟩
                simp only [retOf, den, List.map_cons, List.map_nil]
                have hf : sessF (s.xs.map CSession.abs) n i = 2 := by
                  unfold sessF
                  simp only [hat, hq0, hq1, hq2, hq3]
                  try simp only [h1, h2, h3, h4, h5, h6, h7, emp_size, ne_eq, not_true_eq_false, not_false_eq_true, true_or, or_true, false_or, or_false, and_true, true_and, and_false, false_and, and_self, or_self, if_true, if_false, Bool.true_eq_false, Bool.false_eq_true, reduceIte, Classical.not_not, Bool.and_eq_true, decide_eq_true_eq]
                  repeat (first | rw [if_pos (by omega)] | rw [if_neg (by omega)])
                  all_goals first | rfl | (exfalso; omega)
                rw [hI, firstF_here (by omega) hf (by omega)]
              | false =>
                have h7 := of_decide_eq_false h7
                refine JL_run 5 [] [41, 5, 6, 18, 17, 16, 0, 1] 1 ⟨[(41, vB (decide ((1048576 : Int) < (s.at i).acked))), (5, vI ((i : Nat) : Int)), (6, .p 0 0), (18, vI ((i : Nat) : Int)), (17, vI ((s.n : Nat) : Int)), (16, .v (.slice s.A s.n s.c)), (0, .v (.slice s.A s.n s.c)), (1, vI n)], [⟨113, [vI (s.at i).client, vI (s.at i).id, vI (s.at i).acked, vI (s.at i).last, .v (.slice (s.at i).replies.A (s.at i).replies.n (s.at i).replies.c)]⟩]⟩ [] [] (by kernel_rfl) on wn ?_
                cases h8 : decide ((1048576 : Int) < (s.at i).acked) with
                | true =>
                  have h8 := of_decide_eq_true h8
                  refine JL_run 17 [] [58, 5, 6, 18, 17, 16, 0, 1] 1 ⟨[(58, vB true), (5, vI ((i : Nat) : Int)), (6, .p 0 0), (18, vI ((i : Nat) : Int)), (17, vI ((s.n : Nat) : Int)), (16, .v (.slice s.A s.n s.c)), (0, .v (.slice s.A s.n s.c)), (1, vI n)], [⟨113, [vI (s.at i).client, vI (s.at i).id, vI (s.at i).acked, vI (s.at i).last, .v (.slice (s.at i).replies.A (s.at i).replies.n (s.at i).replies.c)]⟩]⟩ [] [] (by kernel_rfl) on wn ?_
                  refine l_nil (q_then_normal ?_)
                  refine c_if true rfl ?_
                  refine c_seq ?_
                  refine c_region ?_
                  refine JL_run 1 [] [4] 0 ⟨[(4, vI 2)], []⟩ [] [] (by kernel_rfl) on wn ?_
                  refine l_nil (q_then_normal ?_)
                  refine c_ret ?_
                  refine q_then_ret (q_block_ret (q_then_ret (q_then_ret (q_block_ret (q_then_ret (q_ret (.inl rfl) [vI 2] rfl (fun bs w hS => ?_)))))))
                  refine ⟨?_, hS.kp⟩
                  simp only [retOf, den, List.map_cons, List.map_nil]
                  have hf : sessF (s.xs.map CSession.abs) n i = 2 := by
                    unfold sessF
                    simp only [hat, hq0, hq1, hq2, hq3]
                    try simp only [h1, h2, h3, h4, h5, h6, h7, h8, emp_size, ne_eq, not_true_eq_false, not_false_eq_true, true_or, or_true, false_or, or_false, and_true, true_and, and_false, false_and, and_self, or_self, if_true, if_false, Bool.true_eq_false, Bool.false_eq_true, reduceIte, Classical.not_not, Bool.and_eq_true, decide_eq_true_eq]
                    repeat (first | rw [if_pos (by omega)] | rw [if_neg (by omega)])
                    all_goals first | rfl | (exfalso; omega)
                  rw [hI, firstF_here (by omega) hf (by omega)]
                | false =>
                  have h8 := of_decide_eq_false h8
                  refine JL_run 5 [] [46, 5, 6, 18, 17, 16, 0, 1] 1 ⟨[(46, vB (decide ((s.at i).id < 1))), (5, vI ((i : Nat) : Int)), (6, .p 0 0), (18, vI ((i : Nat) : Int)), (17, vI ((s.n : Nat) : Int)), (16, .v (.slice s.A s.n s.c)), (0, .v (.slice s.A s.n s.c)), (1, vI n)], [⟨113, [vI (s.at i).client, vI (s.at i).id, vI (s.at i).acked, vI (s.at i).last, .v (.slice (s.at i).replies.A (s.at i).replies.n (s.at i).replies.c)]⟩]⟩ [] [] (by kernel_rfl) on wn ?_
                  cases h9 : decide ((s.at i).id < 1) with
                  | true =>
                    have h9 := of_decide_eq_true h9
                    refine JL_run 12 [] [58, 5, 6, 18, 17, 16, 0, 1] 1 ⟨[(58, vB true), (5, vI ((i : Nat) : Int)), (6, .p 0 0), (18, vI ((i : Nat) : Int)), (17, vI ((s.n : Nat) : Int)), (16, .v (.slice s.A s.n s.c)), (0, .v (.slice s.A s.n s.c)), (1, vI n)], [⟨113, [vI (s.at i).client, vI (s.at i).id, vI (s.at i).acked, vI (s.at i).last, .v (.slice (s.at i).replies.A (s.at i).replies.n (s.at i).replies.c)]⟩]⟩ [] [] (by kernel_rfl) on wn ?_
                    refine l_nil (q_then_normal ?_)
                    refine c_if true rfl ?_
                    refine c_seq ?_
                    refine c_region ?_
                    refine JL_run 1 [] [4] 0 ⟨[(4, vI 2)], []⟩ [] [] (by kernel_rfl) on wn ?_
                    refine l_nil (q_then_normal ?_)
                    refine c_ret ?_
                    refine q_then_ret (q_block_ret (q_then_ret (q_then_ret (q_block_ret (q_then_ret (q_ret (.inl rfl) [vI 2] rfl (fun bs w hS => ?_)))))))
                    refine ⟨?_, hS.kp⟩
                    simp only [retOf, den, List.map_cons, List.map_nil]
                    have hf : sessF (s.xs.map CSession.abs) n i = 2 := by
                      unfold sessF
                      simp only [hat, hq0, hq1, hq2, hq3]
                      try simp only [h1, h2, h3, h4, h5, h6, h7, h8, h9, emp_size, ne_eq, not_true_eq_false, not_false_eq_true, true_or, or_true, false_or, or_false, and_true, true_and, and_false, false_and, and_self, or_self, if_true, if_false, Bool.true_eq_false, Bool.false_eq_true, reduceIte, Classical.not_not, Bool.and_eq_true, decide_eq_true_eq]
                      repeat (first | rw [if_pos (by omega)] | rw [if_neg (by omega)])
                      all_goals first | rfl | (exfalso; omega)
                    rw [hI, firstF_here (by omega) hf (by omega)]
                  | false =>
                    have h9 := of_decide_eq_false h9
                    refine JL_run 7 [] [53, 5, 6, 18, 17, 16, 0, 1] 1 ⟨[(53, vB (decide ((s.at i).last < (s.at i).id))), (5, vI ((i : Nat) : Int)), (6, .p 0 0), (18, vI ((i : Nat) : Int)), (17, vI ((s.n : Nat) : Int)), (16, .v (.slice s.A s.n s.c)), (0, .v (.slice s.A s.n s.c)), (1, vI n)], [⟨113, [vI (s.at i).client, vI (s.at i).id, vI (s.at i).acked, vI (s.at i).last, .v (.slice (s.at i).replies.A (s.at i).replies.n (s.at i).replies.c)]⟩]⟩ [] [] (by kernel_rfl) on wn ?_
                    cases h10 : decide ((s.at i).last < (s.at i).id) with
                    | true =>
                      have h10 := of_decide_eq_true h10
                      refine JL_run 5 [] [58, 5, 6, 18, 17, 16, 0, 1] 1 ⟨[(58, vB true), (5, vI ((i : Nat) : Int)), (6, .p 0 0), (18, vI ((i : Nat) : Int)), (17, vI ((s.n : Nat) : Int)), (16, .v (.slice s.A s.n s.c)), (0, .v (.slice s.A s.n s.c)), (1, vI n)], [⟨113, [vI (s.at i).client, vI (s.at i).id, vI (s.at i).acked, vI (s.at i).last, .v (.slice (s.at i).replies.A (s.at i).replies.n (s.at i).replies.c)]⟩]⟩ [] [] (by kernel_rfl) on wn ?_
                      refine l_nil (q_then_normal ?_)
                      refine c_if true rfl ?_
                      refine c_seq ?_
                      refine c_region ?_
                      refine JL_run 1 [] [4] 0 ⟨[(4, vI 2)], []⟩ [] [] (by kernel_rfl) on wn ?_
                      refine l_nil (q_then_normal ?_)
                      refine c_ret ?_
                      refine q_then_ret (q_block_ret (q_then_ret (q_then_ret (q_block_ret (q_then_ret (q_ret (.inl rfl) [vI 2] rfl (fun bs w hS => ?_)))))))
                      refine ⟨?_, hS.kp⟩
                      simp only [retOf, den, List.map_cons, List.map_nil]
                      have hf : sessF (s.xs.map CSession.abs) n i = 2 := by
                        unfold sessF
                        simp only [hat, hq0, hq1, hq2, hq3]
                        try simp only [h1, h2, h3, h4, h5, h6, h7, h8, h9, h10, emp_size, ne_eq, not_true_eq_false, not_false_eq_true, true_or, or_true, false_or, or_false, and_true, true_and, and_false, false_and, and_self, or_self, if_true, if_false, Bool.true_eq_false, Bool.false_eq_true, reduceIte, Classical.not_not, Bool.and_eq_true, decide_eq_true_eq]
                        repeat (first | rw [if_pos (by omega)] | rw [if_neg (by omega)])
                        all_goals first | rfl | (exfalso; omega)
                      rw [hI, firstF_here (by omega) hf (by omega)]
                    | false =>
                      have h10 := of_decide_eq_false h10
                      refine JL_run 5 [] [58, 5, 6, 18, 17, 16, 0, 1] 1 ⟨[(58, vB (decide (n < (s.at i).last))), (5, vI ((i : Nat) : Int)), (6, .p 0 0), (18, vI ((i : Nat) : Int)), (17, vI ((s.n : Nat) : Int)), (16, .v (.slice s.A s.n s.c)), (0, .v (.slice s.A s.n s.c)), (1, vI n)], [⟨113, [vI (s.at i).client, vI (s.at i).id, vI (s.at i).acked, vI (s.at i).last, .v (.slice (s.at i).replies.A (s.at i).replies.n (s.at i).replies.c)]⟩]⟩ [] [] (by kernel_rfl) on wn ?_
                      refine l_nil (q_then_normal ?_)
                      cases h11 : decide (n < (s.at i).last) with
                      | true =>
                        have h11 := of_decide_eq_true h11
                        refine c_if true rfl ?_
                        refine c_seq ?_
                        refine c_region ?_
                        refine JL_run 1 [] [4] 0 ⟨[(4, vI 2)], []⟩ [] [] (by kernel_rfl) on wn ?_
                        refine l_nil (q_then_normal ?_)
                        refine c_ret ?_
                        refine q_then_ret (q_block_ret (q_then_ret (q_then_ret (q_block_ret (q_then_ret (q_ret (.inl rfl) [vI 2] rfl (fun bs w hS => ?_)))))))
                        refine ⟨?_, hS.kp⟩
                        simp only [retOf, den, List.map_cons, List.map_nil]
                        have hf : sessF (s.xs.map CSession.abs) n i = 2 := by
                          unfold sessF
                          simp only [hat, hq0, hq1, hq2, hq3]
                          try simp only [h1, h2, h3, h4, h5, h6, h7, h8, h9, h10, h11, emp_size, ne_eq, not_true_eq_false, not_false_eq_true, true_or, or_true, false_or, or_false, and_true, true_and, and_false, false_and, and_self, or_self, if_true, if_false, Bool.true_eq_false, Bool.false_eq_true, reduceIte, Classical.not_not, Bool.and_eq_true, decide_eq_true_eq]
                          repeat (first | rw [if_pos (by omega)] | rw [if_neg (by omega)])
                          all_goals first | rfl | (exfalso; omega)
                        rw [hI, firstF_here (by omega) hf (by omega)]
                      | false =>
                        have h11 := of_decide_eq_false h11
                        refine c_if false rfl ?_
                        refine c_skip ?_
                        refine q_then_normal ?_
                        refine c_seq ?_
                        refine c_seq ?_
                        refine c_region ?_
                        refine JL_run 1 [] [59, 5, 6, 18, 17, 16, 0, 1] 1 ⟨[(59, .v (.agg #[.int .i64 (s.at i).client, .int .i64 (s.at i).id, .int .i64 (s.at i).acked, .int .i64 (s.at i).last, .slice (s.at i).replies.A (s.at i).replies.n (s.at i).replies.c])), (5, vI ((i : Nat) : Int)), (6, .p 0 0), (18, vI ((i : Nat) : Int)), (17, vI ((s.n : Nat) : Int)), (16, .v (.slice s.A s.n s.c)), (0, .v (.slice s.A s.n s.c)), (1, vI n)], [⟨113, [vI (s.at i).client, vI (s.at i).id, vI (s.at i).acked, vI (s.at i).last, .v (.slice (s.at i).replies.A (s.at i).replies.n (s.at i).replies.c)]⟩]⟩ [] [] (by kernel_rfl) on wn ?_
                        refine l_pure 87 [] [.v (.agg #[.int .i64 (s.at i).client, .int .i64 (s.at i).id, .int .i64 (s.at i).acked, .int .i64 (s.at i).last, .slice (s.at i).replies.A (s.at i).replies.n (s.at i).replies.c])] (.bool (mReplies (s.at i).abs)) Try.call87 rfl rfl rfl rfl (fun bs w hS => session_replies (s.at i) w (Sl.rd.sub (s := s) (i := i) (Sl.rd.kp hs hS.kp) (by omega)) (by first | exact ⟨by omega, by omega⟩ | (simp only [] at *; exact ⟨by omega, by omega⟩))) ?_
                        refine JL_run 1 [] [61, 5, 6, 18, 17, 16, 0, 1] 1 ⟨[(61, vB (!(mReplies (s.at i).abs))), (5, vI ((i : Nat) : Int)), (6, .p 0 0), (18, vI ((i : Nat) : Int)), (17, vI ((s.n : Nat) : Int)), (16, .v (.slice s.A s.n s.c)), (0, .v (.slice s.A s.n s.c)), (1, vI n)], [⟨113, [vI (s.at i).client, vI (s.at i).id, vI (s.at i).acked, vI (s.at i).last, .v (.slice (s.at i).replies.A (s.at i).replies.n (s.at i).replies.c)]⟩]⟩ [] [] (by kernel_rfl) on wn ?_
                        refine l_nil (q_then_normal ?_)
                        cases h12 : mReplies (s.at i).abs with
                        | true =>
                          refine c_if false rfl ?_
                          refine c_skip ?_
                          refine q_then_normal ?_
                          refine c_seq ?_
                          refine c_draw 13 [] (.p 0 (.p 1 (.p 2 (.p 3 (.p 4 (.p 5 (.p 6 (.p 7 (.q 8 (.p 9 (.q 10 (.p 11 (.p 12 .nil))))))))))))) [] [] Try_mixed (by kernel_rfl) (pq_then (pq_block (pq_then (pq_then (pq_block (pq_then pq_body)))))) .slnil ?_
                          refine h_quiet [] [(0, true), (1, true), (2, true)] [(64, vB (decide ((0 : Int) < ((i : Nat) : Int)))), (63, vB (decide ((0 : Int) < ((i : Nat) : Int)))), (62, vI ((i : Nat) : Int)), (61, vB false), (5, vI ((i : Nat) : Int)), (6, .p 0 0), (18, vI ((i : Nat) : Int)), (17, vI ((s.n : Nat) : Int)), (16, .v (.slice s.A s.n s.c)), (0, .v (.slice s.A s.n s.c)), (1, vI n)] [] [] rfl (by kernel_rfl) on wn ?_
                          cases h13 : decide ((0 : Int) < ((i : Nat) : Int)) with
                          | true =>
                            have h13 := of_decide_eq_true h13
                            refine h_quiet [(6, .idx s.ad (i - 1)), (8, .ext [.int .i64 (s.at (i - 1)).client])] [(3, true), (4, true), (5, true), (6, true), (7, true), (8, false), (9, true), (10, false), (11, true), (12, true)] [(74, vB (decide ((s.at i).client ≤ (s.at (i - 1)).client))), (73, vB (decide ((s.at i).client ≤ (s.at (i - 1)).client))), (72, vI (s.at i).client), (71, .p 0 0), (70, vI (s.at (i - 1)).client), (69, .v (.pointer (some ((s.ad.add ((i - 1) * 5)).add 0)))), (68, .v (.pointer (some (s.ad.add ((i - 1) * 5))))), (67, vI (((i : Nat) : Int) - 1)), (66, vI ((i : Nat) : Int)), (65, .v (.slice s.A s.n s.c)), (64, vB true), (63, vB true), (62, vI ((i : Nat) : Int)), (61, vB false), (5, vI ((i : Nat) : Int)), (6, .p 0 0), (18, vI ((i : Nat) : Int)), (17, vI ((s.n : Nat) : Int)), (16, .v (.slice s.A s.n s.c)), (0, .v (.slice s.A s.n s.c)), (1, vI n)] [inR (((i : Nat) : Int) - 1), s.A = some s.ad, ((i : Nat) : Int) - 1 = (((i - 1) : Nat) : Int), (i - 1) < s.n] [((s.ad.add ((i - 1) * 5)).add 0, [.int .i64 (s.at (i - 1)).client])] rfl (by kernel_rfl) (oc (by unfold inR; omega) (oc (Sl.ok.own (s := s) (i := (i - 1)) oks (by omega)) (oc (by omega) (oc (by omega) on)))) (fun w hk hr => ⟨(Sl.rd.fld (s := s) (i := (i - 1)) (Sl.rd.kp hs hk) (by omega) 0 1 rfl), trivial⟩) ?_
                            refine h_nil ?_
                            refine l_nil (q_then_normal ?_)
                            cases h14 : decide ((s.at i).client ≤ (s.at (i - 1)).client) with
                            | true =>
                              have h14 := of_decide_eq_true h14
                              refine c_if true rfl ?_
                              refine c_seq ?_
                              refine c_region ?_
                              refine JL_run 1 [] [4] 0 ⟨[(4, vI 14)], []⟩ [] [] (by kernel_rfl) on wn ?_
                              refine l_nil (q_then_normal ?_)
                              refine c_ret ?_
                              refine q_block_ret (q_then_ret (q_then_ret (q_block_ret (q_then_ret (q_ret (.inl rfl) [vI 14] rfl (fun bs w hS => ?_))))))
                              refine ⟨?_, hS.kp⟩
                              simp only [retOf, den, List.map_cons, List.map_nil]
                              have hf : sessF (s.xs.map CSession.abs) n i = 14 := by
                                unfold sessF
                                simp only [hat, hq0, hq1, hq2, hq3]
                                try simp only [h1, h2, h3, h4, h5, h6, h7, h8, h9, h10, h11, h12, h13, h14, emp_size, ne_eq, not_true_eq_false, not_false_eq_true, true_or, or_true, false_or, or_false, and_true, true_and, and_false, false_and, and_self, or_self, if_true, if_false, Bool.true_eq_false, Bool.false_eq_true, reduceIte, Classical.not_not, Bool.and_eq_true, decide_eq_true_eq]
                                repeat (first | rw [if_pos (by omega)] | rw [if_neg (by omega)])
                                all_goals first | rfl | (exfalso; omega)
                              rw [hI, firstF_here (by omega) hf (by omega)]
                            | false =>
                              have h14 := of_decide_eq_false h14
                              refine c_if false rfl ?_
                              refine c_skip ?_
                              refine q_block_normal (q_then_normal ?_)
                              refine c_region ?_
                              refine JL_run 2 [] [18, 17, 16, 0, 1] 0 ⟨[(18, vI (((i : Nat) : Int) + 1)), (17, vI ((s.n : Nat) : Int)), (16, .v (.slice s.A s.n s.c)), (0, .v (.slice s.A s.n s.c)), (1, vI n)], []⟩ [inR (((i : Nat) : Int) + 1)] [] (by kernel_rfl) (oc (by unfold inR; omega) on) wn ?_
                              have hf0 : sessF (s.xs.map CSession.abs) n i = 0 := by
                                unfold sessF
                                simp only [hat, hq0, hq1, hq2, hq3]
                                try simp only [h1, h2, h3, h4, h5, h6, h7, h8, h9, h10, h11, h12, h13, h14, emp_size, ne_eq, not_true_eq_false, not_false_eq_true, true_or, or_true, false_or, or_false, and_true, true_and, and_false, false_and, and_self, or_self, if_true, if_false, Bool.true_eq_false, Bool.false_eq_true, reduceIte, Classical.not_not, Bool.and_eq_true, decide_eq_true_eq]
                                repeat (first | rw [if_pos (by omega)] | rw [if_neg (by omega)])
                                all_goals first | rfl | (exfalso; omega)
                              refine l_nil (q_loop (x := (i : Nat)) ((i + 1) : Nat) ⟨by omega, by rw [hI]; exact firstF_step (by omega) hf0⟩ (by omega) (s_start [18, 17, 16, 0, 1] 0 (by kernel_rfl) rfl))
                          | false =>
                            have h13 := of_decide_eq_false h13
                            refine h_quiet [] [(3, true), (4, true), (5, true), (6, true), (7, true), (8, false), (9, true), (10, false), (11, true), (12, true)] [(74, vB false), (73, .v (undef)), (72, .v (undef)), (71, .v (undef)), (70, .v (undef)), (69, .v (undef)), (68, .v (undef)), (67, .v (undef)), (66, .v (undef)), (65, .v (undef)), (64, vB false), (63, vB false), (62, vI ((i : Nat) : Int)), (61, vB false), (5, vI ((i : Nat) : Int)), (6, .p 0 0), (18, vI ((i : Nat) : Int)), (17, vI ((s.n : Nat) : Int)), (16, .v (.slice s.A s.n s.c)), (0, .v (.slice s.A s.n s.c)), (1, vI n)] [] [] rfl (by kernel_rfl) on wn ?_
                            refine h_nil ?_
                            refine l_nil (q_then_normal ?_)
                            refine c_if false rfl ?_
                            refine c_skip ?_
                            refine q_block_normal (q_then_normal ?_)
                            refine c_region ?_
                            refine JL_run 2 [] [18, 17, 16, 0, 1] 0 ⟨[(18, vI (((i : Nat) : Int) + 1)), (17, vI ((s.n : Nat) : Int)), (16, .v (.slice s.A s.n s.c)), (0, .v (.slice s.A s.n s.c)), (1, vI n)], []⟩ [inR (((i : Nat) : Int) + 1)] [] (by kernel_rfl) (oc (by unfold inR; omega) on) wn ?_
                            have hf0 : sessF (s.xs.map CSession.abs) n i = 0 := by
                              unfold sessF
                              simp only [hat, hq0, hq1, hq2, hq3]
                              try simp only [h1, h2, h3, h4, h5, h6, h7, h8, h9, h10, h11, h12, h13, emp_size, ne_eq, not_true_eq_false, not_false_eq_true, true_or, or_true, false_or, or_false, and_true, true_and, and_false, false_and, and_self, or_self, if_true, if_false, Bool.true_eq_false, Bool.false_eq_true, reduceIte, Classical.not_not, Bool.and_eq_true, decide_eq_true_eq]
                              repeat (first | rw [if_pos (by omega)] | rw [if_neg (by omega)])
                              all_goals first | rfl | (exfalso; omega)
                            refine l_nil (q_loop (x := (i : Nat)) ((i + 1) : Nat) ⟨by omega, by rw [hI]; exact firstF_step (by omega) hf0⟩ (by omega) (s_start [18, 17, 16, 0, 1] 0 (by kernel_rfl) rfl))
                        | false =>
                          refine c_if true rfl ?_
                          refine c_seq ?_
                          refine c_region ?_
                          refine JL_run 1 [] [4] 0 ⟨[(4, vI 4)], []⟩ [] [] (by kernel_rfl) on wn ?_
                          refine l_nil (q_then_normal ?_)
                          refine c_ret ?_
                          refine q_then_ret (q_block_ret (q_then_ret (q_then_ret (q_block_ret (q_then_ret (q_ret (.inl rfl) [vI 4] rfl (fun bs w hS => ?_)))))))
                          refine ⟨?_, hS.kp⟩
                          simp only [retOf, den, List.map_cons, List.map_nil]
                          have hf : sessF (s.xs.map CSession.abs) n i = 4 := by
                            unfold sessF
                            simp only [hat, hq0, hq1, hq2, hq3]
                            try simp only [h1, h2, h3, h4, h5, h6, h7, h8, h9, h10, h11, h12, emp_size, ne_eq, not_true_eq_false, not_false_eq_true, true_or, or_true, false_or, or_false, and_true, true_and, and_false, false_and, and_self, or_self, if_true, if_false, Bool.true_eq_false, Bool.false_eq_true, reduceIte, Classical.not_not, Bool.and_eq_true, decide_eq_true_eq]
                            repeat (first | rw [if_pos (by omega)] | rw [if_neg (by omega)])
                            all_goals first | rfl | (exfalso; omega)
                          rw [hI, firstF_here (by omega) hf (by omega)]
        | false =>
          have h4 := of_decide_eq_false h4
          refine c_if false rfl ?_
          refine c_exit ?_
          refine q_then_exit (q_then_exit (q_block_hit (q_then_normal ?_)))
          refine c_seq ?_
          refine c_region ?_
          refine JL_run 1 [] [4] 0 ⟨[(4, vI 0)], []⟩ [] [] (by kernel_rfl) on wn ?_
          refine l_nil (q_then_normal ?_)
          refine c_ret ?_
          refine q_ret (.inl rfl) [vI 0] rfl (fun bs w hS => ?_)
          refine ⟨?_, hS.kp⟩
          simp only [retOf, den, List.map_cons, List.map_nil]
          rw [hI, firstF_end (by omega)]

theorem ref_SessionsFault {B : Nat → Prop} (s : Sl CSession) (n : Int) (w : World) (hs : s.rd B w) : Calls Try.prog 82 #[.slice s.A s.n s.c, .int .i64 n] w fun e w' => e = .returned (.int .i64 (mSess (s.xs.map CSession.abs) n)) ∧ Kp [] w w' := by
  have oks := Sl.rd.ok hs
  have ncs := Sl.ok.nc oks
  have hns : s.n = s.xs.length := rfl
  have hat : ∀ q, (s.xs.map CSession.abs).getD q default = (s.at q).abs := fun q => sabs_at q
  have hq0 : ∀ q, (s.at q).abs.client = (s.at q).client := fun _ => rfl
  have hq1 : ∀ q, (s.at q).abs.id = (s.at q).id := fun _ => rfl
  have hq2 : ∀ q, (s.at q).abs.acked = (s.at q).acked := fun _ => rfl
  have hq3 : ∀ q, (s.at q).abs.last = (s.at q).last := fun _ => rfl
  have hml : (s.xs.map CSession.abs).length = s.n := by simp
  refine calls_J0 65 Try.func82 rfl rfl [.slice s.A s.n s.c, .int .i64 n] rfl ?_
  refine c_seq ?_
  refine c_region ?_
  refine JL_run 1 [] [0, 1] 0 ⟨[(0, .v (.slice s.A s.n s.c)), (1, vI n)], []⟩ [] [] (by kernel_rfl) on wn ?_
  refine l_nil (q_then_normal ?_)
  refine c_seq ?_
  refine c_seq ?_
  refine c_region ?_
  refine JL_run 1 [] [7, 0, 1] 0 ⟨[(7, vI n), (0, .v (.slice s.A s.n s.c)), (1, vI n)], []⟩ [] [] (by kernel_rfl) on wn ?_
  refine l_pure 64 [] [vI n, vI 0, vI 1073741824] (.bool (inB n 0 1073741824)) Try.call64 rfl rfl rfl rfl (fun bs w hS => ref_In _ _ _ w) ?_
  refine JL_run 1 [] [9, 0, 1] 0 ⟨[(9, vB (!(inB n 0 1073741824))), (0, .v (.slice s.A s.n s.c)), (1, vI n)], []⟩ [] [] (by kernel_rfl) on wn ?_
  refine l_nil (q_then_normal ?_)
  cases h1 : inB n 0 1073741824 with
  | true =>
    simp only [inB, Bool.and_eq_true, Bool.and_eq_false_iff, decide_eq_true_eq, decide_eq_false_iff_not] at h1
    refine c_if false rfl ?_
    refine c_skip ?_
    refine q_then_normal ?_
    refine c_seq ?_
    refine c_seq ?_
    refine c_region ?_
    refine JL_run 3 [] [12, 0, 1] 0 ⟨[(12, vB (decide ((4 : Int) < ((s.n : Nat) : Int)))), (0, .v (.slice s.A s.n s.c)), (1, vI n)], []⟩ [] [] (by kernel_rfl) on wn ?_
    refine l_nil (q_then_normal ?_)
    cases h2 : decide ((4 : Int) < ((s.n : Nat) : Int)) with
    | true =>
      have h2 := of_decide_eq_true h2
      refine c_if true rfl ?_
      refine c_seq ?_
      refine c_region ?_
      refine JL_run 1 [] [4] 0 ⟨[(4, vI 1)], []⟩ [] [] (by kernel_rfl) on wn ?_
      refine l_nil (q_then_normal ?_)
      refine c_ret ?_
      refine q_then_ret (q_ret (.inl rfl) [vI 1] rfl (fun bs w hS => ?_))
      refine ⟨?_, hS.kp⟩
      simp only [retOf, den, List.map_cons, List.map_nil]
      have hm : mSess (s.xs.map CSession.abs) n = 1 := by
        unfold mSess; rw [hml]
        first | rw [if_pos (by omega)] | rw [if_neg (by omega), if_pos (by omega)]
      rw [hm]
    | false =>
      have h2 := of_decide_eq_false h2
      refine c_if false rfl ?_
      refine c_skip ?_
      refine q_then_normal ?_
      refine c_seq ?_
      refine c_seq ?_
      refine c_region ?_
      refine JL_run 1 [] [5, 0, 1] 0 ⟨[(5, vI 0), (0, .v (.slice s.A s.n s.c)), (1, vI n)], []⟩ [] [] (by kernel_rfl) on wn ?_
      refine l_nil (q_then_normal ?_)
      refine c_block ?_
      refine c_loop (σ := Nat) (fun i => i ≤ s.n ∧ mSess (s.xs.map CSession.abs) n = firstF (sessF (s.xs.map CSession.abs) n) (s.n - i) i) (fun i => s.n - i) (fun i => []) (fun i => ⟨[(5, vI ((i : Nat) : Int)), (0, .v (.slice s.A s.n s.c)), (1, vI n)], []⟩) 0 ⟨Nat.zero_le _, by unfold mSess; rw [hml, if_neg (by omega), if_neg (by omega)]⟩ (s_start [5, 0, 1] 0 (by kernel_rfl) rfl) ?_
      rintro i ⟨hi, hI⟩
      refine c_seq ?_
      refine c_seq ?_
      refine c_region ?_
      refine JL_run 4 [] [16, 5, 0, 1] 0 ⟨[(16, vB (decide (((i : Nat) : Int) < ((s.n : Nat) : Int)))), (5, vI ((i : Nat) : Int)), (0, .v (.slice s.A s.n s.c)), (1, vI n)], []⟩ [] [] (by kernel_rfl) on wn ?_
      refine l_nil (q_then_normal ?_)
      cases h3 : decide (((i : Nat) : Int) < ((s.n : Nat) : Int)) with
      | true =>
        have h3 := of_decide_eq_true h3
        refine c_if true rfl ?_
        refine c_skip ?_
        refine q_then_normal ?_
        refine c_seq ?_
        refine c_block ?_
        refine c_seq ?_
        refine c_region ?_
        refine JL_run 6 [(2, .idx s.ad i), (3, .ext [.int .i64 (s.at i).client, .int .i64 (s.at i).id, .int .i64 (s.at i).acked, .int .i64 (s.at i).last, .slice (s.at i).replies.A (s.at i).replies.n (s.at i).replies.c])] [6, 5, 0, 1] 1 ⟨[(6, .p 0 0), (5, vI ((i : Nat) : Int)), (0, .v (.slice s.A s.n s.c)), (1, vI n)], [⟨113, [vI (s.at i).client, vI (s.at i).id, vI (s.at i).acked, vI (s.at i).last, .v (.slice (s.at i).replies.A (s.at i).replies.n (s.at i).replies.c)]⟩]⟩ [s.A = some s.ad, ((i : Nat) : Int) = ((i : Nat) : Int), i < s.n] [(s.ad.add (i * 5), [.int .i64 (s.at i).client, .int .i64 (s.at i).id, .int .i64 (s.at i).acked, .int .i64 (s.at i).last, .slice (s.at i).replies.A (s.at i).replies.n (s.at i).replies.c])] (by kernel_rfl) (oc (Sl.ok.own (s := s) (i := i) oks (by omega)) (oc rfl (oc (by omega) on))) (fun w hk hr => ⟨(Sl.rd.all (s := s) (i := i) (Sl.rd.kp hs hk) (by omega) rfl), trivial⟩) ?_
        refine l_nil (q_then_normal ?_)
        refine c_seq ?_
        refine c_seq ?_
        refine c_region ?_
        refine JL_run 2 [] [24, 6, 5, 0, 1] 1 ⟨[(24, vI (s.at i).client), (6, .p 0 0), (5, vI ((i : Nat) : Int)), (0, .v (.slice s.A s.n s.c)), (1, vI n)], [⟨113, [vI (s.at i).client, vI (s.at i).id, vI (s.at i).acked, vI (s.at i).last, .v (.slice (s.at i).replies.A (s.at i).replies.n (s.at i).replies.c)]⟩]⟩ [] [] (by kernel_rfl) on wn ?_
        refine l_pure 64 [] [vI (s.at i).client, vI 1, vI 9] (.bool (inB (s.at i).client 1 9)) Try.call64 rfl rfl rfl rfl (fun bs w hS => ref_In _ _ _ w) ?_
        refine JL_run 2 [] [27, 6, 5, 0, 1] 1 ⟨[(27, vB (!(inB (s.at i).client 1 9))), (6, .p 0 0), (5, vI ((i : Nat) : Int)), (0, .v (.slice s.A s.n s.c)), (1, vI n)], [⟨113, [vI (s.at i).client, vI (s.at i).id, vI (s.at i).acked, vI (s.at i).last, .v (.slice (s.at i).replies.A (s.at i).replies.n (s.at i).replies.c)]⟩]⟩ [] [] (by kernel_rfl) on wn ?_
        cases h4 : inB (s.at i).client 1 9 with
        | true =>
          simp only [inB, Bool.and_eq_true, Bool.and_eq_false_iff, decide_eq_true_eq, decide_eq_false_iff_not] at h4
          refine JL_run 2 [] [29, 27, 6, 5, 0, 1] 1 ⟨[(29, vI (s.at i).acked), (27, vB false), (6, .p 0 0), (5, vI ((i : Nat) : Int)), (0, .v (.slice s.A s.n s.c)), (1, vI n)], [⟨113, [vI (s.at i).client, vI (s.at i).id, vI (s.at i).acked, vI (s.at i).last, .v (.slice (s.at i).replies.A (s.at i).replies.n (s.at i).replies.c)]⟩]⟩ [] [] (by kernel_rfl) on wn ?_
          refine l_pure 64 [] [vI (s.at i).acked, vI 0, vI 1048576] (.bool (inB (s.at i).acked 0 1048576)) Try.call64 rfl rfl rfl rfl (fun bs w hS => ref_In _ _ _ w) ?_
          refine JL_run 3 [] [33, 6, 5, 0, 1] 1 ⟨[(33, vB (!(inB (s.at i).acked 0 1048576))), (6, .p 0 0), (5, vI ((i : Nat) : Int)), (0, .v (.slice s.A s.n s.c)), (1, vI n)], [⟨113, [vI (s.at i).client, vI (s.at i).id, vI (s.at i).acked, vI (s.at i).last, .v (.slice (s.at i).replies.A (s.at i).replies.n (s.at i).replies.c)]⟩]⟩ [] [] (by kernel_rfl) on wn ?_
          cases h5 : inB (s.at i).acked 0 1048576 with
          | true =>
            simp only [inB, Bool.and_eq_true, Bool.and_eq_false_iff, decide_eq_true_eq, decide_eq_false_iff_not] at h5
            refine JL_run 3 [] [36, 35, 33, 6, 5, 0, 1] 1 ⟨[(36, vI n), (35, vI (s.at i).id), (33, vB false), (6, .p 0 0), (5, vI ((i : Nat) : Int)), (0, .v (.slice s.A s.n s.c)), (1, vI n)], [⟨113, [vI (s.at i).client, vI (s.at i).id, vI (s.at i).acked, vI (s.at i).last, .v (.slice (s.at i).replies.A (s.at i).replies.n (s.at i).replies.c)]⟩]⟩ [] [] (by kernel_rfl) on wn ?_
            refine l_pure 64 [] [vI (s.at i).id, vI 1, vI n] (.bool (inB (s.at i).id 1 n)) Try.call64 rfl rfl rfl rfl (fun bs w hS => ref_In _ _ _ w) ?_
            refine JL_run 3 [] [40, 6, 5, 0, 1] 1 ⟨[(40, vB (!(inB (s.at i).id 1 n))), (6, .p 0 0), (5, vI ((i : Nat) : Int)), (0, .v (.slice s.A s.n s.c)), (1, vI n)], [⟨113, [vI (s.at i).client, vI (s.at i).id, vI (s.at i).acked, vI (s.at i).last, .v (.slice (s.at i).replies.A (s.at i).replies.n (s.at i).replies.c)]⟩]⟩ [] [] (by kernel_rfl) on wn ?_
            cases h6 : inB (s.at i).id 1 n with
            | true =>
              simp only [inB, Bool.and_eq_true, Bool.and_eq_false_iff, decide_eq_true_eq, decide_eq_false_iff_not] at h6
              refine JL_run 5 [] [45, 44, 42, 40, 6, 5, 0, 1] 1 ⟨[(45, vI n), (44, vI (s.at i).id), (42, vI (s.at i).last), (40, vB false), (6, .p 0 0), (5, vI ((i : Nat) : Int)), (0, .v (.slice s.A s.n s.c)), (1, vI n)], [⟨113, [vI (s.at i).client, vI (s.at i).id, vI (s.at i).acked, vI (s.at i).last, .v (.slice (s.at i).replies.A (s.at i).replies.n (s.at i).replies.c)]⟩]⟩ [] [] (by kernel_rfl) on wn ?_
              refine l_pure 64 [] [vI (s.at i).last, vI (s.at i).id, vI n] (.bool (inB (s.at i).last (s.at i).id n)) Try.call64 rfl rfl rfl rfl (fun bs w hS => ref_In _ _ _ w) ?_
              refine JL_run 2 [] [48, 6, 5, 0, 1] 1 ⟨[(48, vB (!(inB (s.at i).last (s.at i).id n))), (6, .p 0 0), (5, vI ((i : Nat) : Int)), (0, .v (.slice s.A s.n s.c)), (1, vI n)], [⟨113, [vI (s.at i).client, vI (s.at i).id, vI (s.at i).acked, vI (s.at i).last, .v (.slice (s.at i).replies.A (s.at i).replies.n (s.at i).replies.c)]⟩]⟩ [] [] (by kernel_rfl) on wn ?_
              refine l_nil (q_then_normal ?_)
              cases h7 : inB (s.at i).last (s.at i).id n with
              | true =>
                simp only [inB, Bool.and_eq_true, Bool.and_eq_false_iff, decide_eq_true_eq, decide_eq_false_iff_not] at h7
                refine c_if false rfl ?_
                refine c_skip ?_
                refine q_then_normal ?_
                refine c_seq ?_
                refine c_seq ?_
                refine c_region ?_
                refine JL_run 1 [] [49, 6, 5, 0, 1] 1 ⟨[(49, .v (.agg #[.int .i64 (s.at i).client, .int .i64 (s.at i).id, .int .i64 (s.at i).acked, .int .i64 (s.at i).last, .slice (s.at i).replies.A (s.at i).replies.n (s.at i).replies.c])), (6, .p 0 0), (5, vI ((i : Nat) : Int)), (0, .v (.slice s.A s.n s.c)), (1, vI n)], [⟨113, [vI (s.at i).client, vI (s.at i).id, vI (s.at i).acked, vI (s.at i).last, .v (.slice (s.at i).replies.A (s.at i).replies.n (s.at i).replies.c)]⟩]⟩ [] [] (by kernel_rfl) on wn ?_
                refine l_pure 88 [] [.v (.agg #[.int .i64 (s.at i).client, .int .i64 (s.at i).id, .int .i64 (s.at i).acked, .int .i64 (s.at i).last, .slice (s.at i).replies.A (s.at i).replies.n (s.at i).replies.c])] (.bool (mReplies (s.at i).abs)) Try.call88 rfl rfl rfl rfl (fun bs w hS => ref_repliesMay (s.at i) w (Sl.rd.sub (s := s) (i := i) (Sl.rd.kp hs hS.kp) (by omega)) (by first | exact ⟨by omega, by omega⟩ | (simp only [] at *; exact ⟨by omega, by omega⟩))) ?_
                refine JL_run 1 [] [51, 6, 5, 0, 1] 1 ⟨[(51, vB (!(mReplies (s.at i).abs))), (6, .p 0 0), (5, vI ((i : Nat) : Int)), (0, .v (.slice s.A s.n s.c)), (1, vI n)], [⟨113, [vI (s.at i).client, vI (s.at i).id, vI (s.at i).acked, vI (s.at i).last, .v (.slice (s.at i).replies.A (s.at i).replies.n (s.at i).replies.c)]⟩]⟩ [] [] (by kernel_rfl) on wn ?_
                refine l_nil (q_then_normal ?_)
                cases h8 : mReplies (s.at i).abs with
                | true =>
                  refine c_if false rfl ?_
                  refine c_skip ?_
                  refine q_then_normal ?_
                  refine c_seq ?_
                  refine c_draw 13 [] (.p 0 (.p 1 (.p 2 (.p 3 (.q 4 (.p 5 (.p 6 (.p 7 (.p 8 (.p 9 (.q 10 (.p 11 (.p 12 .nil))))))))))))) [] [] Try_mixed (by kernel_rfl) (pq_then (pq_block (pq_then (pq_then (pq_block (pq_then pq_body)))))) .slnil ?_
                  refine h_quiet [] [(0, true), (1, true), (2, true)] [(54, vB (decide ((0 : Int) < ((i : Nat) : Int)))), (53, vB (decide ((0 : Int) < ((i : Nat) : Int)))), (52, vI ((i : Nat) : Int)), (51, vB false), (6, .p 0 0), (5, vI ((i : Nat) : Int)), (0, .v (.slice s.A s.n s.c)), (1, vI n)] [] [] rfl (by kernel_rfl) on wn ?_
                  cases h9 : decide ((0 : Int) < ((i : Nat) : Int)) with
                  | true =>
                    have h9 := of_decide_eq_true h9
                    refine h_quiet [(8, .idx s.ad (i - 1)), (10, .ext [.int .i64 (s.at (i - 1)).client])] [(3, true), (4, false), (5, true), (6, true), (7, true), (8, true), (9, true), (10, false), (11, true), (12, true)] [(64, vB (decide ((s.at i).client ≤ (s.at (i - 1)).client))), (63, vB (decide ((s.at i).client ≤ (s.at (i - 1)).client))), (62, vI (s.at (i - 1)).client), (61, .v (.pointer (some ((s.ad.add ((i - 1) * 5)).add 0)))), (60, .v (.pointer (some (s.ad.add ((i - 1) * 5))))), (59, vI (((i : Nat) : Int) - 1)), (58, vI ((i : Nat) : Int)), (57, .v (.slice s.A s.n s.c)), (56, vI (s.at i).client), (55, .p 0 0), (54, vB true), (53, vB true), (52, vI ((i : Nat) : Int)), (51, vB false), (6, .p 0 0), (5, vI ((i : Nat) : Int)), (0, .v (.slice s.A s.n s.c)), (1, vI n)] [inR (((i : Nat) : Int) - 1), s.A = some s.ad, ((i : Nat) : Int) - 1 = (((i - 1) : Nat) : Int), (i - 1) < s.n] [((s.ad.add ((i - 1) * 5)).add 0, [.int .i64 (s.at (i - 1)).client])] rfl (by kernel_rfl) (oc (by unfold inR; omega) (oc (Sl.ok.own (s := s) (i := (i - 1)) oks (by omega)) (oc (by omega) (oc (by omega) on)))) (fun w hk hr => ⟨(Sl.rd.fld (s := s) (i := (i - 1)) (Sl.rd.kp hs hk) (by omega) 0 1 rfl), trivial⟩) ?_
                    refine h_nil ?_
                    refine l_nil (q_then_normal ?_)
                    cases h10 : decide ((s.at i).client ≤ (s.at (i - 1)).client) with
                    | true =>
                      have h10 := of_decide_eq_true h10
                      refine c_if true rfl ?_
                      refine c_seq ?_
                      refine c_region ?_
                      refine JL_run 1 [] [4] 0 ⟨[(4, vI 14)], []⟩ [] [] (by kernel_rfl) on wn ?_
                      refine l_nil (q_then_normal ?_)
                      refine c_ret ?_
                      refine q_block_ret (q_then_ret (q_then_ret (q_block_ret (q_then_ret (q_ret (.inl rfl) [vI 14] rfl (fun bs w hS => ?_))))))
                      refine ⟨?_, hS.kp⟩
                      simp only [retOf, den, List.map_cons, List.map_nil]
                      have hf : sessF (s.xs.map CSession.abs) n i = 14 := by
                        unfold sessF
                        simp only [hat, hq0, hq1, hq2, hq3]
                        try simp only [h1, h2, h3, h4, h5, h6, h7, h8, h9, h10, emp_size, ne_eq, not_true_eq_false, not_false_eq_true, true_or, or_true, false_or, or_false, and_true, true_and, and_false, false_and, and_self, or_self, if_true, if_false, Bool.true_eq_false, Bool.false_eq_true, reduceIte, Classical.not_not, Bool.and_eq_true, decide_eq_true_eq]
                        repeat (first | rw [if_pos (by omega)] | rw [if_neg (by omega)])
                        all_goals first | rfl | (exfalso; omega)
                      rw [hI, firstF_here (by omega) hf (by omega)]
                    | false =>
                      have h10 := of_decide_eq_false h10
                      refine c_if false rfl ?_
                      refine c_skip ?_
                      refine q_block_normal (q_then_normal ?_)
                      refine c_region ?_
                      refine JL_run 3 [] [5, 0, 1] 0 ⟨[(5, vI (((i : Nat) : Int) + 1)), (0, .v (.slice s.A s.n s.c)), (1, vI n)], []⟩ [inR (((i : Nat) : Int) + 1)] [] (by kernel_rfl) (oc (by unfold inR; omega) on) wn ?_
                      have hf0 : sessF (s.xs.map CSession.abs) n i = 0 := by
                        unfold sessF
                        simp only [hat, hq0, hq1, hq2, hq3]
                        try simp only [h1, h2, h3, h4, h5, h6, h7, h8, h9, h10, emp_size, ne_eq, not_true_eq_false, not_false_eq_true, true_or, or_true, false_or, or_false, and_true, true_and, and_false, false_and, and_self, or_self, if_true, if_false, Bool.true_eq_false, Bool.false_eq_true, reduceIte, Classical.not_not, Bool.and_eq_true, decide_eq_true_eq]
                        repeat (first | rw [if_pos (by omega)] | rw [if_neg (by omega)])
                        all_goals first | rfl | (exfalso; omega)
                      refine l_nil (q_loop (x := (i : Nat)) ((i + 1) : Nat) ⟨by omega, by rw [hI]; exact firstF_step (by omega) hf0⟩ (by omega) (s_start [5, 0, 1] 0 (by kernel_rfl) rfl))
                  | false =>
                    have h9 := of_decide_eq_false h9
                    refine h_quiet [] [(3, true), (4, false), (5, true), (6, true), (7, true), (8, true), (9, true), (10, false), (11, true), (12, true)] [(64, vB false), (63, .v (undef)), (62, .v (undef)), (61, .v (undef)), (60, .v (undef)), (59, .v (undef)), (58, .v (undef)), (57, .v (undef)), (56, .v (undef)), (55, .v (undef)), (54, vB false), (53, vB false), (52, vI ((i : Nat) : Int)), (51, vB false), (6, .p 0 0), (5, vI ((i : Nat) : Int)), (0, .v (.slice s.A s.n s.c)), (1, vI n)] [] [] rfl (by kernel_rfl) on wn ?_
                    refine h_nil ?_
                    refine l_nil (q_then_normal ?_)
                    refine c_if false rfl ?_
                    refine c_skip ?_
                    refine q_block_normal (q_then_normal ?_)
                    refine c_region ?_
                    refine JL_run 3 [] [5, 0, 1] 0 ⟨[(5, vI (((i : Nat) : Int) + 1)), (0, .v (.slice s.A s.n s.c)), (1, vI n)], []⟩ [inR (((i : Nat) : Int) + 1)] [] (by kernel_rfl) (oc (by unfold inR; omega) on) wn ?_
                    have hf0 : sessF (s.xs.map CSession.abs) n i = 0 := by
                      unfold sessF
                      simp only [hat, hq0, hq1, hq2, hq3]
                      try simp only [h1, h2, h3, h4, h5, h6, h7, h8, h9, emp_size, ne_eq, not_true_eq_false, not_false_eq_true, true_or, or_true, false_or, or_false, and_true, true_and, and_false, false_and, and_self, or_self, if_true, if_false, Bool.true_eq_false, Bool.false_eq_true, reduceIte, Classical.not_not, Bool.and_eq_true, decide_eq_true_eq]
                      repeat (first | rw [if_pos (by omega)] | rw [if_neg (by omega)])
                      all_goals first | rfl | (exfalso; omega)
                    refine l_nil (q_loop (x := (i : Nat)) ((i + 1) : Nat) ⟨by omega, by rw [hI]; exact firstF_step (by omega) hf0⟩ (by omega) (s_start [5, 0, 1] 0 (by kernel_rfl) rfl))
                | false =>
                  refine c_if true rfl ?_
                  refine c_seq ?_
                  refine c_region ?_
                  refine JL_run 1 [] [4] 0 ⟨[(4, vI 4)], []⟩ [] [] (by kernel_rfl) on wn ?_
                  refine l_nil (q_then_normal ?_)
                  refine c_ret ?_
                  refine q_then_ret (q_block_ret (q_then_ret (q_then_ret (q_block_ret (q_then_ret (q_ret (.inl rfl) [vI 4] rfl (fun bs w hS => ?_)))))))
                  refine ⟨?_, hS.kp⟩
                  simp only [retOf, den, List.map_cons, List.map_nil]
                  have hf : sessF (s.xs.map CSession.abs) n i = 4 := by
                    unfold sessF
                    simp only [hat, hq0, hq1, hq2, hq3]
                    try simp only [h1, h2, h3, h4, h5, h6, h7, h8, emp_size, ne_eq, not_true_eq_false, not_false_eq_true, true_or, or_true, false_or, or_false, and_true, true_and, and_false, false_and, and_self, or_self, if_true, if_false, Bool.true_eq_false, Bool.false_eq_true, reduceIte, Classical.not_not, Bool.and_eq_true, decide_eq_true_eq]
                    repeat (first | rw [if_pos (by omega)] | rw [if_neg (by omega)])
                    all_goals first | rfl | (exfalso; omega)
                  rw [hI, firstF_here (by omega) hf (by omega)]
              | false =>
                simp only [inB, Bool.and_eq_true, Bool.and_eq_false_iff, decide_eq_true_eq, decide_eq_false_iff_not] at h7
                refine c_if true rfl ?_
                refine c_seq ?_
                refine c_region ?_
                refine JL_run 1 [] [4] 0 ⟨[(4, vI 2)], []⟩ [] [] (by kernel_rfl) on wn ?_
                refine l_nil (q_then_normal ?_)
                refine c_ret ?_
                refine q_then_ret (q_block_ret (q_then_ret (q_then_ret (q_block_ret (q_then_ret (q_ret (.inl rfl) [vI 2] rfl (fun bs w hS => ?_)))))))
                refine ⟨?_, hS.kp⟩
                simp only [retOf, den, List.map_cons, List.map_nil]
                have hf : sessF (s.xs.map CSession.abs) n i = 2 := by
                  unfold sessF
                  simp only [hat, hq0, hq1, hq2, hq3]
                  try simp only [h1, h2, h3, h4, h5, h6, h7, emp_size, ne_eq, not_true_eq_false, not_false_eq_true, true_or, or_true, false_or, or_false, and_true, true_and, and_false, false_and, and_self, or_self, if_true, if_false, Bool.true_eq_false, Bool.false_eq_true, reduceIte, Classical.not_not, Bool.and_eq_true, decide_eq_true_eq]
                  repeat (first | rw [if_pos (by omega)] | rw [if_neg (by omega)])
                  all_goals first | rfl | (exfalso; omega)
                rw [hI, firstF_here (by omega) hf (by omega)]
            | false =>
              simp only [inB, Bool.and_eq_true, Bool.and_eq_false_iff, decide_eq_true_eq, decide_eq_false_iff_not] at h6
              refine JL_run 8 [] [48, 6, 5, 0, 1] 1 ⟨[(48, vB true), (6, .p 0 0), (5, vI ((i : Nat) : Int)), (0, .v (.slice s.A s.n s.c)), (1, vI n)], [⟨113, [vI (s.at i).client, vI (s.at i).id, vI (s.at i).acked, vI (s.at i).last, .v (.slice (s.at i).replies.A (s.at i).replies.n (s.at i).replies.c)]⟩]⟩ [] [] (by kernel_rfl) on wn ?_
              refine l_nil (q_then_normal ?_)
              refine c_if true rfl ?_
              refine c_seq ?_
              refine c_region ?_
              refine JL_run 1 [] [4] 0 ⟨[(4, vI 2)], []⟩ [] [] (by kernel_rfl) on wn ?_
              refine l_nil (q_then_normal ?_)
              refine c_ret ?_
              refine q_then_ret (q_block_ret (q_then_ret (q_then_ret (q_block_ret (q_then_ret (q_ret (.inl rfl) [vI 2] rfl (fun bs w hS => ?_)))))))
              refine ⟨?_, hS.kp⟩
              simp only [retOf, den, List.map_cons, List.map_nil]
              have hf : sessF (s.xs.map CSession.abs) n i = 2 := by
                unfold sessF
                simp only [hat, hq0, hq1, hq2, hq3]
                try simp only [h1, h2, h3, h4, h5, h6, emp_size, ne_eq, not_true_eq_false, not_false_eq_true, true_or, or_true, false_or, or_false, and_true, true_and, and_false, false_and, and_self, or_self, if_true, if_false, Bool.true_eq_false, Bool.false_eq_true, reduceIte, Classical.not_not, Bool.and_eq_true, decide_eq_true_eq]
                repeat (first | rw [if_pos (by omega)] | rw [if_neg (by omega)])
                all_goals first | rfl | (exfalso; omega)
              rw [hI, firstF_here (by omega) hf (by omega)]
          | false =>
            simp only [inB, Bool.and_eq_true, Bool.and_eq_false_iff, decide_eq_true_eq, decide_eq_false_iff_not] at h5
            refine JL_run 15 [] [48, 6, 5, 0, 1] 1 ⟨[(48, vB true), (6, .p 0 0), (5, vI ((i : Nat) : Int)), (0, .v (.slice s.A s.n s.c)), (1, vI n)], [⟨113, [vI (s.at i).client, vI (s.at i).id, vI (s.at i).acked, vI (s.at i).last, .v (.slice (s.at i).replies.A (s.at i).replies.n (s.at i).replies.c)]⟩]⟩ [] [] (by kernel_rfl) on wn ?_
            refine l_nil (q_then_normal ?_)
            refine c_if true rfl ?_
            refine c_seq ?_
            refine c_region ?_
            refine JL_run 1 [] [4] 0 ⟨[(4, vI 2)], []⟩ [] [] (by kernel_rfl) on wn ?_
            refine l_nil (q_then_normal ?_)
            refine c_ret ?_
            refine q_then_ret (q_block_ret (q_then_ret (q_then_ret (q_block_ret (q_then_ret (q_ret (.inl rfl) [vI 2] rfl (fun bs w hS => ?_)))))))
            refine ⟨?_, hS.kp⟩
            simp only [retOf, den, List.map_cons, List.map_nil]
            have hf : sessF (s.xs.map CSession.abs) n i = 2 := by
              unfold sessF
              simp only [hat, hq0, hq1, hq2, hq3]
              try simp only [h1, h2, h3, h4, h5, emp_size, ne_eq, not_true_eq_false, not_false_eq_true, true_or, or_true, false_or, or_false, and_true, true_and, and_false, false_and, and_self, or_self, if_true, if_false, Bool.true_eq_false, Bool.false_eq_true, reduceIte, Classical.not_not, Bool.and_eq_true, decide_eq_true_eq]
              repeat (first | rw [if_pos (by omega)] | rw [if_neg (by omega)])
              all_goals first | rfl | (exfalso; omega)
            rw [hI, firstF_here (by omega) hf (by omega)]
        | false =>
          simp only [inB, Bool.and_eq_true, Bool.and_eq_false_iff, decide_eq_true_eq, decide_eq_false_iff_not] at h4
          refine JL_run 21 [] [48, 6, 5, 0, 1] 1 ⟨[(48, vB true), (6, .p 0 0), (5, vI ((i : Nat) : Int)), (0, .v (.slice s.A s.n s.c)), (1, vI n)], [⟨113, [vI (s.at i).client, vI (s.at i).id, vI (s.at i).acked, vI (s.at i).last, .v (.slice (s.at i).replies.A (s.at i).replies.n (s.at i).replies.c)]⟩]⟩ [] [] (by kernel_rfl) on wn ?_
          refine l_nil (q_then_normal ?_)
          refine c_if true rfl ?_
          refine c_seq ?_
          refine c_region ?_
          refine JL_run 1 [] [4] 0 ⟨[(4, vI 2)], []⟩ [] [] (by kernel_rfl) on wn ?_
          refine l_nil (q_then_normal ?_)
          refine c_ret ?_
          refine q_then_ret (q_block_ret (q_then_ret (q_then_ret (q_block_ret (q_then_ret (q_ret (.inl rfl) [vI 2] rfl (fun bs w hS => ?_)))))))
          refine ⟨?_, hS.kp⟩
          simp only [retOf, den, List.map_cons, List.map_nil]
          have hf : sessF (s.xs.map CSession.abs) n i = 2 := by
            unfold sessF
            simp only [hat, hq0, hq1, hq2, hq3]
            try simp only [h1, h2, h3, h4, emp_size, ne_eq, not_true_eq_false, not_false_eq_true, true_or, or_true, false_or, or_false, and_true, true_and, and_false, false_and, and_self, or_self, if_true, if_false, Bool.true_eq_false, Bool.false_eq_true, reduceIte, Classical.not_not, Bool.and_eq_true, decide_eq_true_eq]
            repeat (first | rw [if_pos (by omega)] | rw [if_neg (by omega)])
            all_goals first | rfl | (exfalso; omega)
          rw [hI, firstF_here (by omega) hf (by omega)]
      | false =>
        have h3 := of_decide_eq_false h3
        refine c_if false rfl ?_
        refine c_exit ?_
        refine q_then_exit (q_then_exit (q_block_hit (q_then_normal ?_)))
        refine c_seq ?_
        refine c_region ?_
        refine JL_run 1 [] [4] 0 ⟨[(4, vI 0)], []⟩ [] [] (by kernel_rfl) on wn ?_
        refine l_nil (q_then_normal ?_)
        refine c_ret ?_
        refine q_ret (.inl rfl) [vI 0] rfl (fun bs w hS => ?_)
        refine ⟨?_, hS.kp⟩
        simp only [retOf, den, List.map_cons, List.map_nil]
        rw [hI, firstF_end (by omega)]
  | false =>
    simp only [inB, Bool.and_eq_true, Bool.and_eq_false_iff, decide_eq_true_eq, decide_eq_false_iff_not] at h1
    refine c_if true rfl ?_
    refine c_seq ?_
    refine c_region ?_
    refine JL_run 1 [] [4] 0 ⟨[(4, vI 2)], []⟩ [] [] (by kernel_rfl) on wn ?_
    refine l_nil (q_then_normal ?_)
    refine c_ret ?_
    refine q_then_ret (q_ret (.inl rfl) [vI 2] rfl (fun bs w hS => ?_))
    refine ⟨?_, hS.kp⟩
    simp only [retOf, den, List.map_cons, List.map_nil]
    have hm : mSess (s.xs.map CSession.abs) n = 2 := by
      unfold mSess; rw [hml]
      first | rw [if_pos (by omega)] | rw [if_neg (by omega), if_pos (by omega)]
    rw [hm]

theorem pair_Check {B : Nat → Prop} (s : Sl DPair) (w : World) (hs : s.rd B w) : Calls Try.prog 89 #[.slice s.A s.n s.c] w fun e w' => e = .returned (.int .i64 (mPairs s.xs)) ∧ Kp [] w w' := by
  have oks := Sl.rd.ok hs
  have ncs := Sl.ok.nc oks
  have hns : s.n = s.xs.length := rfl
  refine calls_J0 45 Try.func89 rfl rfl [.slice s.A s.n s.c] rfl ?_
  refine c_seq ?_
  refine c_region ?_
  refine JL_run 1 [] [0] 0 ⟨[(0, .v (.slice s.A s.n s.c))], []⟩ [] [] (by kernel_rfl) on wn ?_
  refine l_nil (q_then_normal ?_)
  refine c_seq ?_
  refine c_seq ?_
  refine c_region ?_
  refine JL_run 3 [] [7, 0] 0 ⟨[(7, vB (decide ((5 : Int) < ((s.n : Nat) : Int)))), (0, .v (.slice s.A s.n s.c))], []⟩ [] [] (by kernel_rfl) on wn ?_
  refine l_nil (q_then_normal ?_)
  cases h1 : decide ((5 : Int) < ((s.n : Nat) : Int)) with
  | true =>
    have h1 := of_decide_eq_true h1
    refine c_if true rfl ?_
    refine c_seq ?_
    refine c_region ?_
    refine JL_run 1 [] [2] 0 ⟨[(2, vI 1)], []⟩ [] [] (by kernel_rfl) on wn ?_
    refine l_nil (q_then_normal ?_)
    refine c_ret ?_
    refine q_then_ret (q_ret (.inl rfl) [vI 1] rfl (fun bs w hS => ?_))
    refine ⟨?_, hS.kp⟩
    simp only [retOf, den, List.map_cons, List.map_nil]
    have hm : mPairs s.xs = 1 := by
      unfold mPairs; rw [if_pos (by omega)]
    rw [hm]
  | false =>
    have h1 := of_decide_eq_false h1
    refine c_if false rfl ?_
    refine c_skip ?_
    refine q_then_normal ?_
    refine c_seq ?_
    refine c_seq ?_
    refine c_region ?_
    refine JL_run 3 [] [10, 9, 8, 0] 0 ⟨[(10, vI 0), (9, vI ((s.n : Nat) : Int)), (8, .v (.slice s.A s.n s.c)), (0, .v (.slice s.A s.n s.c))], []⟩ [] [] (by kernel_rfl) on wn ?_
    refine l_nil (q_then_normal ?_)
    refine c_block ?_
    refine c_loop (σ := Nat) (fun i => i ≤ s.n ∧ mPairs s.xs = firstF (pairF s.xs) (s.n - i) i) (fun i => s.n - i) (fun i => []) (fun i => ⟨[(10, vI ((i : Nat) : Int)), (9, vI ((s.n : Nat) : Int)), (8, .v (.slice s.A s.n s.c)), (0, .v (.slice s.A s.n s.c))], []⟩) 0 ⟨Nat.zero_le _, by unfold mPairs; rw [if_neg (by omega)]⟩ (s_start [10, 9, 8, 0] 0 (by kernel_rfl) rfl) ?_
    rintro i ⟨hi, hI⟩
    have hlt := hi
    refine c_seq ?_
    refine c_region ?_
    refine JL_run 1 [] [11, 10, 9, 8, 0] 0 ⟨[(11, vB (decide (((i : Nat) : Int) < ((s.n : Nat) : Int)))), (10, vI ((i : Nat) : Int)), (9, vI ((s.n : Nat) : Int)), (8, .v (.slice s.A s.n s.c)), (0, .v (.slice s.A s.n s.c))], []⟩ [] [] (by kernel_rfl) on wn ?_
    refine l_nil (q_then_normal ?_)
    refine c_seq ?_
    cases h2 : decide (((i : Nat) : Int) < ((s.n : Nat) : Int)) with
    | true =>
      have h2 := of_decide_eq_true h2
      refine c_if true rfl ?_
      refine c_skip ?_
      refine q_then_normal ?_
      refine c_seq ?_
      refine c_block ?_
      refine c_seq ?_
      refine c_region ?_
      refine JL_run 6 [(1, .idx s.ad i), (2, .ext [.string (s.at i).name, .string (s.at i).value, .int .i64 (s.at i).version])] [3, 4, 10, 9, 8, 0] 1 ⟨[(3, vI ((i : Nat) : Int)), (4, .p 0 0), (10, vI ((i : Nat) : Int)), (9, vI ((s.n : Nat) : Int)), (8, .v (.slice s.A s.n s.c)), (0, .v (.slice s.A s.n s.c))], [⟨110, [vS (s.at i).name, vS (s.at i).value, vI (s.at i).version]⟩]⟩ [s.A = some s.ad, ((i : Nat) : Int) = ((i : Nat) : Int), i < s.n] [(s.ad.add (i * 3), [.string (s.at i).name, .string (s.at i).value, .int .i64 (s.at i).version])] (by kernel_rfl) (oc (Sl.ok.own (s := s) (i := i) oks (by omega)) (oc rfl (oc (by omega) on))) (fun w hk hr => ⟨(Sl.rd.all (s := s) (i := i) (Sl.rd.kp hs hk) (by omega) rfl), trivial⟩) ?_
      refine l_nil (q_then_normal ?_)
      refine c_seq ?_
      refine c_seq ?_
      refine c_region ?_
      refine JL_run 2 [] [16, 3, 4, 10, 9, 8, 0] 1 ⟨[(16, vS (s.at i).name), (3, vI ((i : Nat) : Int)), (4, .p 0 0), (10, vI ((i : Nat) : Int)), (9, vI ((s.n : Nat) : Int)), (8, .v (.slice s.A s.n s.c)), (0, .v (.slice s.A s.n s.c))], [⟨110, [vS (s.at i).name, vS (s.at i).value, vI (s.at i).version]⟩]⟩ [] [] (by kernel_rfl) on wn ?_
      refine l_pure 90 [] [vS (s.at i).name] (.bool (mName (s.at i).name)) Try.call90 rfl rfl rfl rfl (fun bs w hS => lock_Name _ w (And.left (Sl.ok.at (s := s) (i := i) oks (by omega)))) ?_
      refine JL_run 1 [] [18, 3, 4, 10, 9, 8, 0] 1 ⟨[(18, vB (!(mName (s.at i).name))), (3, vI ((i : Nat) : Int)), (4, .p 0 0), (10, vI ((i : Nat) : Int)), (9, vI ((s.n : Nat) : Int)), (8, .v (.slice s.A s.n s.c)), (0, .v (.slice s.A s.n s.c))], [⟨110, [vS (s.at i).name, vS (s.at i).value, vI (s.at i).version]⟩]⟩ [] [] (by kernel_rfl) on wn ?_
      refine l_nil (q_then_normal ?_)
      cases h3 : mName (s.at i).name with
      | true =>
        refine c_if false rfl ?_
        refine c_skip ?_
        refine q_then_normal ?_
        refine c_seq ?_
        refine c_seq ?_
        refine c_region ?_
        refine JL_run 4 [] [22, 3, 4, 10, 9, 8, 0] 1 ⟨[(22, vB (decide ((12 : Int) < ((s.at i).value.size : Int)))), (3, vI ((i : Nat) : Int)), (4, .p 0 0), (10, vI ((i : Nat) : Int)), (9, vI ((s.n : Nat) : Int)), (8, .v (.slice s.A s.n s.c)), (0, .v (.slice s.A s.n s.c))], [⟨110, [vS (s.at i).name, vS (s.at i).value, vI (s.at i).version]⟩]⟩ [] [] (by kernel_rfl) on wn ?_
        refine l_nil (q_then_normal ?_)
        cases h4 : decide ((12 : Int) < ((s.at i).value.size : Int)) with
        | true =>
          have h4 := of_decide_eq_true h4
          refine c_if true rfl ?_
          refine c_seq ?_
          refine c_region ?_
          refine JL_run 1 [] [2] 0 ⟨[(2, vI 1)], []⟩ [] [] (by kernel_rfl) on wn ?_
          refine l_nil (q_then_normal ?_)
          refine c_ret ?_
          refine q_then_ret (q_block_ret (q_then_ret (q_then_ret (q_block_ret (q_then_ret (q_ret (.inl rfl) [vI 1] rfl (fun bs w hS => ?_)))))))
          refine ⟨?_, hS.kp⟩
          simp only [retOf, den, List.map_cons, List.map_nil]
          have hf : pairF s.xs i = 1 := by
            have hat : ∀ q, s.xs.getD q default = s.at q := fun _ => rfl
            unfold pairF
            simp only [hat]
            try simp only [h1, h2, h3, h4, emp_size, ne_eq, not_true_eq_false, not_false_eq_true, true_or, or_true, false_or, or_false, and_true, true_and, and_false, false_and, and_self, or_self, if_true, if_false, Bool.true_eq_false, Bool.false_eq_true, reduceIte, Classical.not_not, Bool.and_eq_true, decide_eq_true_eq]
            repeat (first | rw [if_pos (by omega)] | rw [if_neg (by omega)])
            all_goals first | rfl | (exfalso; omega)
          rw [hI, firstF_here (by omega) hf (by omega)]
        | false =>
          have h4 := of_decide_eq_false h4
          refine c_if false rfl ?_
          refine c_skip ?_
          refine q_then_normal ?_
          refine c_seq ?_
          refine c_seq ?_
          refine c_region ?_
          refine JL_run 4 [] [26, 3, 4, 10, 9, 8, 0] 1 ⟨[(26, vB (decide ((s.at i).version < 1))), (3, vI ((i : Nat) : Int)), (4, .p 0 0), (10, vI ((i : Nat) : Int)), (9, vI ((s.n : Nat) : Int)), (8, .v (.slice s.A s.n s.c)), (0, .v (.slice s.A s.n s.c))], [⟨110, [vS (s.at i).name, vS (s.at i).value, vI (s.at i).version]⟩]⟩ [] [] (by kernel_rfl) on wn ?_
          cases h5 : decide ((s.at i).version < 1) with
          | true =>
            have h5 := of_decide_eq_true h5
            refine JL_run 4 [] [30, 3, 4, 10, 9, 8, 0] 1 ⟨[(30, vB true), (3, vI ((i : Nat) : Int)), (4, .p 0 0), (10, vI ((i : Nat) : Int)), (9, vI ((s.n : Nat) : Int)), (8, .v (.slice s.A s.n s.c)), (0, .v (.slice s.A s.n s.c))], [⟨110, [vS (s.at i).name, vS (s.at i).value, vI (s.at i).version]⟩]⟩ [] [] (by kernel_rfl) on wn ?_
            refine l_nil (q_then_normal ?_)
            refine c_if true rfl ?_
            refine c_seq ?_
            refine c_region ?_
            refine JL_run 1 [] [2] 0 ⟨[(2, vI 2)], []⟩ [] [] (by kernel_rfl) on wn ?_
            refine l_nil (q_then_normal ?_)
            refine c_ret ?_
            refine q_then_ret (q_block_ret (q_then_ret (q_then_ret (q_block_ret (q_then_ret (q_ret (.inl rfl) [vI 2] rfl (fun bs w hS => ?_)))))))
            refine ⟨?_, hS.kp⟩
            simp only [retOf, den, List.map_cons, List.map_nil]
            have hf : pairF s.xs i = 2 := by
              have hat : ∀ q, s.xs.getD q default = s.at q := fun _ => rfl
              unfold pairF
              simp only [hat]
              try simp only [h1, h2, h3, h4, h5, emp_size, ne_eq, not_true_eq_false, not_false_eq_true, true_or, or_true, false_or, or_false, and_true, true_and, and_false, false_and, and_self, or_self, if_true, if_false, Bool.true_eq_false, Bool.false_eq_true, reduceIte, Classical.not_not, Bool.and_eq_true, decide_eq_true_eq]
              repeat (first | rw [if_pos (by omega)] | rw [if_neg (by omega)])
              all_goals first | rfl | (exfalso; omega)
            rw [hI, firstF_here (by omega) hf (by omega)]
          | false =>
            have h5 := of_decide_eq_false h5
            refine JL_run 4 [] [30, 3, 4, 10, 9, 8, 0] 1 ⟨[(30, vB (decide ((1073741824 : Int) < (s.at i).version))), (3, vI ((i : Nat) : Int)), (4, .p 0 0), (10, vI ((i : Nat) : Int)), (9, vI ((s.n : Nat) : Int)), (8, .v (.slice s.A s.n s.c)), (0, .v (.slice s.A s.n s.c))], [⟨110, [vS (s.at i).name, vS (s.at i).value, vI (s.at i).version]⟩]⟩ [] [] (by kernel_rfl) on wn ?_
            refine l_nil (q_then_normal ?_)
            cases h6 : decide ((1073741824 : Int) < (s.at i).version) with
            | true =>
              have h6 := of_decide_eq_true h6
              refine c_if true rfl ?_
              refine c_seq ?_
              refine c_region ?_
              refine JL_run 1 [] [2] 0 ⟨[(2, vI 2)], []⟩ [] [] (by kernel_rfl) on wn ?_
              refine l_nil (q_then_normal ?_)
              refine c_ret ?_
              refine q_then_ret (q_block_ret (q_then_ret (q_then_ret (q_block_ret (q_then_ret (q_ret (.inl rfl) [vI 2] rfl (fun bs w hS => ?_)))))))
              refine ⟨?_, hS.kp⟩
              simp only [retOf, den, List.map_cons, List.map_nil]
              have hf : pairF s.xs i = 2 := by
                have hat : ∀ q, s.xs.getD q default = s.at q := fun _ => rfl
                unfold pairF
                simp only [hat]
                try simp only [h1, h2, h3, h4, h5, h6, emp_size, ne_eq, not_true_eq_false, not_false_eq_true, true_or, or_true, false_or, or_false, and_true, true_and, and_false, false_and, and_self, or_self, if_true, if_false, Bool.true_eq_false, Bool.false_eq_true, reduceIte, Classical.not_not, Bool.and_eq_true, decide_eq_true_eq]
                repeat (first | rw [if_pos (by omega)] | rw [if_neg (by omega)])
                all_goals first | rfl | (exfalso; omega)
              rw [hI, firstF_here (by omega) hf (by omega)]
            | false =>
              have h6 := of_decide_eq_false h6
              refine c_if false rfl ?_
              refine c_skip ?_
              refine q_then_normal ?_
              refine c_seq ?_
              refine c_draw 13 [] (.p 0 (.p 1 (.p 2 (.p 3 (.p 4 (.p 5 (.p 6 (.p 7 (.q 8 (.p 9 (.q 10 (.p 11 (.p 12 .nil))))))))))))) [] [] Try_mixed (by kernel_rfl) (pq_then (pq_block (pq_then (pq_then (pq_block (pq_then pq_body)))))) .slnil ?_
              refine h_quiet [] [(0, true), (1, true), (2, true)] [(33, vB (decide ((0 : Int) < ((i : Nat) : Int)))), (32, vB (decide ((0 : Int) < ((i : Nat) : Int)))), (31, vI ((i : Nat) : Int)), (30, vB false), (3, vI ((i : Nat) : Int)), (4, .p 0 0), (10, vI ((i : Nat) : Int)), (9, vI ((s.n : Nat) : Int)), (8, .v (.slice s.A s.n s.c)), (0, .v (.slice s.A s.n s.c))] [] [] rfl (by kernel_rfl) on wn ?_
              cases h7 : decide ((0 : Int) < ((i : Nat) : Int)) with
              | true =>
                have h7 := of_decide_eq_true h7
                refine h_quiet [(6, .idx s.ad (i - 1)), (8, .ext [.string (s.at (i - 1)).name])] [(3, true), (4, true), (5, true), (6, true), (7, true), (8, false), (9, true), (10, false), (11, true), (12, true)] [(43, vB (!(Op.bytesLess ((s.at (i - 1)).name).toList ((s.at i).name).toList))), (42, vB (!(Op.bytesLess ((s.at (i - 1)).name).toList ((s.at i).name).toList))), (41, vS (s.at i).name), (40, .p 0 0), (39, vS (s.at (i - 1)).name), (38, .v (.pointer (some ((s.ad.add ((i - 1) * 3)).add 0)))), (37, .v (.pointer (some (s.ad.add ((i - 1) * 3))))), (36, vI (((i : Nat) : Int) - 1)), (35, vI ((i : Nat) : Int)), (34, .v (.slice s.A s.n s.c)), (33, vB true), (32, vB true), (31, vI ((i : Nat) : Int)), (30, vB false), (3, vI ((i : Nat) : Int)), (4, .p 0 0), (10, vI ((i : Nat) : Int)), (9, vI ((s.n : Nat) : Int)), (8, .v (.slice s.A s.n s.c)), (0, .v (.slice s.A s.n s.c))] [inR (((i : Nat) : Int) - 1), s.A = some s.ad, ((i : Nat) : Int) - 1 = (((i - 1) : Nat) : Int), (i - 1) < s.n] [((s.ad.add ((i - 1) * 3)).add 0, [.string (s.at (i - 1)).name])] rfl (by kernel_rfl) (oc (by unfold inR; omega) (oc (Sl.ok.own (s := s) (i := (i - 1)) oks (by omega)) (oc (by omega) (oc (by omega) on)))) (fun w hk hr => ⟨(Sl.rd.fld (s := s) (i := (i - 1)) (Sl.rd.kp hs hk) (by omega) 0 1 rfl), trivial⟩) ?_
                refine h_nil ?_
                refine l_nil (q_then_normal ?_)
                cases h8 : Op.bytesLess ((s.at (i - 1)).name).toList ((s.at i).name).toList with
                | true =>
                  refine c_if false rfl ?_
                  refine c_skip ?_
                  refine q_block_normal (q_then_normal ?_)
                  refine c_region ?_
                  refine JL_run 2 [] [10, 9, 8, 0] 0 ⟨[(10, vI (((i : Nat) : Int) + 1)), (9, vI ((s.n : Nat) : Int)), (8, .v (.slice s.A s.n s.c)), (0, .v (.slice s.A s.n s.c))], []⟩ [inR (((i : Nat) : Int) + 1)] [] (by kernel_rfl) (oc (by unfold inR; omega) on) wn ?_
                  have hf0 : pairF s.xs i = 0 := by
                    have hat : ∀ q, s.xs.getD q default = s.at q := fun _ => rfl
                    unfold pairF
                    simp only [hat]
                    try simp only [h1, h2, h3, h4, h5, h6, h7, h8, emp_size, ne_eq, not_true_eq_false, not_false_eq_true, true_or, or_true, false_or, or_false, and_true, true_and, and_false, false_and, and_self, or_self, if_true, if_false, Bool.true_eq_false, Bool.false_eq_true, reduceIte, Classical.not_not, Bool.and_eq_true, decide_eq_true_eq]
                    repeat (first | rw [if_pos (by omega)] | rw [if_neg (by omega)])
                    all_goals first | rfl | (exfalso; omega)
                  refine l_nil (q_loop (x := (i : Nat)) ((i + 1) : Nat) ⟨by omega, by rw [hI]; exact firstF_step (by omega) hf0⟩ (by omega) (s_start [10, 9, 8, 0] 0 (by kernel_rfl) rfl))
                | false =>
                  refine c_if true rfl ?_
                  refine c_seq ?_
                  refine c_region ?_
                  refine JL_run 1 [] [2] 0 ⟨[(2, vI 14)], []⟩ [] [] (by kernel_rfl) on wn ?_
                  refine l_nil (q_then_normal ?_)
                  refine c_ret ?_
                  refine q_block_ret (q_then_ret (q_then_ret (q_block_ret (q_then_ret (q_ret (.inl rfl) [vI 14] rfl (fun bs w hS => ?_))))))
                  refine ⟨?_, hS.kp⟩
                  simp only [retOf, den, List.map_cons, List.map_nil]
                  have hf : pairF s.xs i = 14 := by
                    have hat : ∀ q, s.xs.getD q default = s.at q := fun _ => rfl
                    unfold pairF
                    simp only [hat]
                    try simp only [h1, h2, h3, h4, h5, h6, h7, h8, emp_size, ne_eq, not_true_eq_false, not_false_eq_true, true_or, or_true, false_or, or_false, and_true, true_and, and_false, false_and, and_self, or_self, if_true, if_false, Bool.true_eq_false, Bool.false_eq_true, reduceIte, Classical.not_not, Bool.and_eq_true, decide_eq_true_eq]
                    repeat (first | rw [if_pos (by omega)] | rw [if_neg (by omega)])
                    all_goals first | rfl | (exfalso; omega)
                  rw [hI, firstF_here (by omega) hf (by omega)]
              | false =>
                have h7 := of_decide_eq_false h7
                refine h_quiet [] [(3, true), (4, true), (5, true), (6, true), (7, true), (8, false), (9, true), (10, false), (11, true), (12, true)] [(43, vB false), (42, .v (undef)), (41, .v (undef)), (40, .v (undef)), (39, .v (undef)), (38, .v (undef)), (37, .v (undef)), (36, .v (undef)), (35, .v (undef)), (34, .v (undef)), (33, vB false), (32, vB false), (31, vI ((i : Nat) : Int)), (30, vB false), (3, vI ((i : Nat) : Int)), (4, .p 0 0), (10, vI ((i : Nat) : Int)), (9, vI ((s.n : Nat) : Int)), (8, .v (.slice s.A s.n s.c)), (0, .v (.slice s.A s.n s.c))] [] [] rfl (by kernel_rfl) on wn ?_
                refine h_nil ?_
                refine l_nil (q_then_normal ?_)
                refine c_if false rfl ?_
                refine c_skip ?_
                refine q_block_normal (q_then_normal ?_)
                refine c_region ?_
                refine JL_run 2 [] [10, 9, 8, 0] 0 ⟨[(10, vI (((i : Nat) : Int) + 1)), (9, vI ((s.n : Nat) : Int)), (8, .v (.slice s.A s.n s.c)), (0, .v (.slice s.A s.n s.c))], []⟩ [inR (((i : Nat) : Int) + 1)] [] (by kernel_rfl) (oc (by unfold inR; omega) on) wn ?_
                have hf0 : pairF s.xs i = 0 := by
                  have hat : ∀ q, s.xs.getD q default = s.at q := fun _ => rfl
                  unfold pairF
                  simp only [hat]
                  try simp only [h1, h2, h3, h4, h5, h6, h7, emp_size, ne_eq, not_true_eq_false, not_false_eq_true, true_or, or_true, false_or, or_false, and_true, true_and, and_false, false_and, and_self, or_self, if_true, if_false, Bool.true_eq_false, Bool.false_eq_true, reduceIte, Classical.not_not, Bool.and_eq_true, decide_eq_true_eq]
                  repeat (first | rw [if_pos (by omega)] | rw [if_neg (by omega)])
                  all_goals first | rfl | (exfalso; omega)
                refine l_nil (q_loop (x := (i : Nat)) ((i + 1) : Nat) ⟨by omega, by rw [hI]; exact firstF_step (by omega) hf0⟩ (by omega) (s_start [10, 9, 8, 0] 0 (by kernel_rfl) rfl))
      | false =>
        refine c_if true rfl ?_
        refine c_seq ?_
        refine c_region ?_
        refine JL_run 1 [] [2] 0 ⟨[(2, vI 4)], []⟩ [] [] (by kernel_rfl) on wn ?_
        refine l_nil (q_then_normal ?_)
        refine c_ret ?_
        refine q_then_ret (q_block_ret (q_then_ret (q_then_ret (q_block_ret (q_then_ret (q_ret (.inl rfl) [vI 4] rfl (fun bs w hS => ?_)))))))
        refine ⟨?_, hS.kp⟩
        simp only [retOf, den, List.map_cons, List.map_nil]
        have hf : pairF s.xs i = 4 := by
          have hat : ∀ q, s.xs.getD q default = s.at q := fun _ => rfl
          unfold pairF
          simp only [hat]
          try simp only [h1, h2, h3, emp_size, ne_eq, not_true_eq_false, not_false_eq_true, true_or, or_true, false_or, or_false, and_true, true_and, and_false, false_and, and_self, or_self, if_true, if_false, Bool.true_eq_false, Bool.false_eq_true, reduceIte, Classical.not_not, Bool.and_eq_true, decide_eq_true_eq]
          repeat (first | rw [if_pos (by omega)] | rw [if_neg (by omega)])
          all_goals first | rfl | (exfalso; omega)
        rw [hI, firstF_here (by omega) hf (by omega)]
    | false =>
      have h2 := of_decide_eq_false h2
      refine c_if false rfl ?_
      refine c_exit ?_
      refine q_then_exit (q_then_exit (q_block_hit (q_then_normal ?_)))
      refine c_seq ?_
      refine c_region ?_
      refine JL_run 1 [] [2] 0 ⟨[(2, vI 0)], []⟩ [] [] (by kernel_rfl) on wn ?_
      refine l_nil (q_then_normal ?_)
      refine c_ret ?_
      refine q_ret (.inl rfl) [vI 0] rfl (fun bs w hS => ?_)
      refine ⟨?_, hS.kp⟩
      simp only [retOf, den, List.map_cons, List.map_nil]
      rw [hI, firstF_end (by omega)]

theorem ref_PairsFault {B : Nat → Prop} (s : Sl DPair) (w : World) (hs : s.rd B w) : Calls Try.prog 94 #[.slice s.A s.n s.c] w fun e w' => e = .returned (.int .i64 (mPairs s.xs)) ∧ Kp [] w w' := by
  have oks := Sl.rd.ok hs
  have ncs := Sl.ok.nc oks
  have hns : s.n = s.xs.length := rfl
  refine calls_J0 50 Try.func94 rfl rfl [.slice s.A s.n s.c] rfl ?_
  refine c_seq ?_
  refine c_region ?_
  refine JL_run 1 [] [0] 0 ⟨[(0, .v (.slice s.A s.n s.c))], []⟩ [] [] (by kernel_rfl) on wn ?_
  refine l_nil (q_then_normal ?_)
  refine c_seq ?_
  refine c_seq ?_
  refine c_region ?_
  refine JL_run 3 [] [6, 0] 0 ⟨[(6, vB (decide ((5 : Int) < ((s.n : Nat) : Int)))), (0, .v (.slice s.A s.n s.c))], []⟩ [] [] (by kernel_rfl) on wn ?_
  refine l_nil (q_then_normal ?_)
  cases h1 : decide ((5 : Int) < ((s.n : Nat) : Int)) with
  | true =>
    have h1 := of_decide_eq_true h1
    refine c_if true rfl ?_
    refine c_seq ?_
    refine c_region ?_
    refine JL_run 1 [] [2] 0 ⟨[(2, vI 1)], []⟩ [] [] (by kernel_rfl) on wn ?_
    refine l_nil (q_then_normal ?_)
    refine c_ret ?_
    refine q_then_ret (q_ret (.inl rfl) [vI 1] rfl (fun bs w hS => ?_))
    refine ⟨?_, hS.kp⟩
    simp only [retOf, den, List.map_cons, List.map_nil]
    have hm : mPairs s.xs = 1 := by
      unfold mPairs; rw [if_pos (by omega)]
    rw [hm]
  | false =>
    have h1 := of_decide_eq_false h1
    refine c_if false rfl ?_
    refine c_skip ?_
    refine q_then_normal ?_
    refine c_seq ?_
    refine c_seq ?_
    refine c_region ?_
    refine JL_run 1 [] [3, 0] 0 ⟨[(3, vI 0), (0, .v (.slice s.A s.n s.c))], []⟩ [] [] (by kernel_rfl) on wn ?_
    refine l_nil (q_then_normal ?_)
    refine c_block ?_
    refine c_loop (σ := Nat) (fun i => i ≤ s.n ∧ mPairs s.xs = firstF (pairF s.xs) (s.n - i) i) (fun i => s.n - i) (fun i => []) (fun i => ⟨[(3, vI ((i : Nat) : Int)), (0, .v (.slice s.A s.n s.c))], []⟩) 0 ⟨Nat.zero_le _, by unfold mPairs; rw [if_neg (by omega)]⟩ (s_start [3, 0] 0 (by kernel_rfl) rfl) ?_
    rintro i ⟨hi, hI⟩
    have hlt := hi
    refine c_seq ?_
    refine c_seq ?_
    refine c_region ?_
    refine JL_run 4 [] [10, 3, 0] 0 ⟨[(10, vB (decide (((i : Nat) : Int) < ((s.n : Nat) : Int)))), (3, vI ((i : Nat) : Int)), (0, .v (.slice s.A s.n s.c))], []⟩ [] [] (by kernel_rfl) on wn ?_
    refine l_nil (q_then_normal ?_)
    cases h2 : decide (((i : Nat) : Int) < ((s.n : Nat) : Int)) with
    | true =>
      have h2 := of_decide_eq_true h2
      refine c_if true rfl ?_
      refine c_skip ?_
      refine q_then_normal ?_
      refine c_seq ?_
      refine c_block ?_
      refine c_seq ?_
      refine c_seq ?_
      refine c_region ?_
      refine JL_run 5 [(2, .idx s.ad i), (4, .ext [.string (s.at i).name])] [17, 3, 0] 0 ⟨[(17, vS (s.at i).name), (3, vI ((i : Nat) : Int)), (0, .v (.slice s.A s.n s.c))], []⟩ [s.A = some s.ad, ((i : Nat) : Int) = ((i : Nat) : Int), i < s.n] [((s.ad.add (i * 3)).add 0, [.string (s.at i).name])] (by kernel_rfl) (oc (Sl.ok.own (s := s) (i := i) oks (by omega)) (oc rfl (oc (by omega) on))) (fun w hk hr => ⟨(Sl.rd.fld (s := s) (i := i) (Sl.rd.kp hs hk) (by omega) 0 1 rfl), trivial⟩) ?_
      refine l_pure 95 [] [vS (s.at i).name] (.bool (mName (s.at i).name)) Try.call95 rfl rfl rfl rfl (fun bs w hS => ref_NameMay _ w (And.left (Sl.ok.at (s := s) (i := i) oks (by omega)))) ?_
      refine JL_run 1 [] [19, 3, 0] 0 ⟨[(19, vB (!(mName (s.at i).name))), (3, vI ((i : Nat) : Int)), (0, .v (.slice s.A s.n s.c))], []⟩ [] [] (by kernel_rfl) on wn ?_
      refine l_nil (q_then_normal ?_)
      cases h3 : mName (s.at i).name with
      | true =>
        refine c_if false rfl ?_
        refine c_skip ?_
        refine q_then_normal ?_
        refine c_seq ?_
        refine c_seq ?_
        refine c_region ?_
        refine JL_run 7 [(2, .idx s.ad i), (4, .ext [.string (s.at i).value])] [26, 3, 0] 0 ⟨[(26, vB (decide ((12 : Int) < ((s.at i).value.size : Int)))), (3, vI ((i : Nat) : Int)), (0, .v (.slice s.A s.n s.c))], []⟩ [s.A = some s.ad, ((i : Nat) : Int) = ((i : Nat) : Int), i < s.n] [((s.ad.add (i * 3)).add 1, [.string (s.at i).value])] (by kernel_rfl) (oc (Sl.ok.own (s := s) (i := i) oks (by omega)) (oc rfl (oc (by omega) on))) (fun w hk hr => ⟨(Sl.rd.fld (s := s) (i := i) (Sl.rd.kp hs hk) (by omega) 1 1 rfl), trivial⟩) ?_
        refine l_nil (q_then_normal ?_)
        cases h4 : decide ((12 : Int) < ((s.at i).value.size : Int)) with
        | true =>
          have h4 := of_decide_eq_true h4
          refine c_if true rfl ?_
          refine c_seq ?_
          refine c_region ?_
          refine JL_run 1 [] [2] 0 ⟨[(2, vI 1)], []⟩ [] [] (by kernel_rfl) on wn ?_
          refine l_nil (q_then_normal ?_)
          refine c_ret ?_
          refine q_then_ret (q_block_ret (q_then_ret (q_then_ret (q_block_ret (q_then_ret (q_ret (.inl rfl) [vI 1] rfl (fun bs w hS => ?_)))))))
          refine ⟨?_, hS.kp⟩
          simp only [retOf, den, List.map_cons, List.map_nil]
          have hf : pairF s.xs i = 1 := by
            have hat : ∀ q, s.xs.getD q default = s.at q := fun _ => rfl
            unfold pairF
            simp only [hat]
            try simp only [h1, h2, h3, h4, emp_size, ne_eq, not_true_eq_false, not_false_eq_true, true_or, or_true, false_or, or_false, and_true, true_and, and_false, false_and, and_self, or_self, if_true, if_false, Bool.true_eq_false, Bool.false_eq_true, reduceIte, Classical.not_not, Bool.and_eq_true, decide_eq_true_eq]
            repeat (first | rw [if_pos (by omega)] | rw [if_neg (by omega)])
            all_goals first | rfl | (exfalso; omega)
          rw [hI, firstF_here (by omega) hf (by omega)]
        | false =>
          have h4 := of_decide_eq_false h4
          refine c_if false rfl ?_
          refine c_skip ?_
          refine q_then_normal ?_
          refine c_seq ?_
          refine c_seq ?_
          refine c_region ?_
          refine JL_run 5 [(2, .idx s.ad i), (4, .ext [.int .i64 (s.at i).version])] [31, 3, 0] 0 ⟨[(31, vI (s.at i).version), (3, vI ((i : Nat) : Int)), (0, .v (.slice s.A s.n s.c))], []⟩ [s.A = some s.ad, ((i : Nat) : Int) = ((i : Nat) : Int), i < s.n] [((s.ad.add (i * 3)).add 2, [.int .i64 (s.at i).version])] (by kernel_rfl) (oc (Sl.ok.own (s := s) (i := i) oks (by omega)) (oc rfl (oc (by omega) on))) (fun w hk hr => ⟨(Sl.rd.fld (s := s) (i := i) (Sl.rd.kp hs hk) (by omega) 2 1 rfl), trivial⟩) ?_
          refine l_pure 64 [] [vI (s.at i).version, vI 1, vI 1073741824] (.bool (inB (s.at i).version 1 1073741824)) Try.call64 rfl rfl rfl rfl (fun bs w hS => ref_In _ _ _ w) ?_
          refine JL_run 1 [] [33, 3, 0] 0 ⟨[(33, vB (!(inB (s.at i).version 1 1073741824))), (3, vI ((i : Nat) : Int)), (0, .v (.slice s.A s.n s.c))], []⟩ [] [] (by kernel_rfl) on wn ?_
          refine l_nil (q_then_normal ?_)
          cases h5 : inB (s.at i).version 1 1073741824 with
          | true =>
            simp only [inB, Bool.and_eq_true, Bool.and_eq_false_iff, decide_eq_true_eq, decide_eq_false_iff_not] at h5
            refine c_if false rfl ?_
            refine c_skip ?_
            refine q_then_normal ?_
            refine c_seq ?_
            refine c_draw 16 [] (.p 0 (.p 1 (.p 2 (.p 3 (.p 4 (.p 5 (.p 6 (.q 7 (.p 8 (.p 9 (.p 10 (.p 11 (.p 12 (.q 13 (.p 14 (.p 15 .nil)))))))))))))))) [] [] Try_mixed (by kernel_rfl) (pq_then (pq_block (pq_then (pq_then (pq_block (pq_then pq_body)))))) .slnil ?_
            refine h_quiet [] [(0, true), (1, true), (2, true)] [(36, vB (decide ((0 : Int) < ((i : Nat) : Int)))), (35, vB (decide ((0 : Int) < ((i : Nat) : Int)))), (34, vI ((i : Nat) : Int)), (33, vB false), (3, vI ((i : Nat) : Int)), (0, .v (.slice s.A s.n s.c))] [] [] rfl (by kernel_rfl) on wn ?_
            cases h6 : decide ((0 : Int) < ((i : Nat) : Int)) with
            | true =>
              have h6 := of_decide_eq_true h6
              refine h_quiet [(5, .idx s.ad i), (7, .ext [.string (s.at i).name]), (11, .idx s.ad (i - 1)), (13, .ext [.string (s.at (i - 1)).name])] [(3, true), (4, true), (5, true), (6, true), (7, false), (8, true), (9, true), (10, true), (11, true), (12, true), (13, false), (14, true), (15, true)] [(49, vB (Op.bytesLess ((s.at i).name).toList ((s.at (i - 1)).name).toList || decide ((s.at i).name = (s.at (i - 1)).name))), (48, vB (Op.bytesLess ((s.at i).name).toList ((s.at (i - 1)).name).toList || decide ((s.at i).name = (s.at (i - 1)).name))), (47, vS (s.at (i - 1)).name), (46, .v (.pointer (some ((s.ad.add ((i - 1) * 3)).add 0)))), (45, .v (.pointer (some (s.ad.add ((i - 1) * 3))))), (44, vI (((i : Nat) : Int) - 1)), (43, vI ((i : Nat) : Int)), (42, .v (.slice s.A s.n s.c)), (41, vS (s.at i).name), (40, .v (.pointer (some ((s.ad.add (i * 3)).add 0)))), (39, .v (.pointer (some (s.ad.add (i * 3))))), (38, vI ((i : Nat) : Int)), (37, .v (.slice s.A s.n s.c)), (36, vB true), (35, vB true), (34, vI ((i : Nat) : Int)), (33, vB false), (3, vI ((i : Nat) : Int)), (0, .v (.slice s.A s.n s.c))] [s.A = some s.ad, ((i : Nat) : Int) = ((i : Nat) : Int), i < s.n, inR (((i : Nat) : Int) - 1), s.A = some s.ad, ((i : Nat) : Int) - 1 = (((i - 1) : Nat) : Int), (i - 1) < s.n] [((s.ad.add (i * 3)).add 0, [.string (s.at i).name]), ((s.ad.add ((i - 1) * 3)).add 0, [.string (s.at (i - 1)).name])] rfl (by kernel_rfl) (oc (Sl.ok.own (s := s) (i := i) oks (by omega)) (oc rfl (oc (by omega) (oc (by unfold inR; omega) (oc (Sl.ok.own (s := s) (i := (i - 1)) oks (by omega)) (oc (by omega) (oc (by omega) on))))))) (fun w hk hr => ⟨(Sl.rd.fld (s := s) (i := i) (Sl.rd.kp hs hk) (by omega) 0 1 rfl), ⟨(Sl.rd.fld (s := s) (i := (i - 1)) (Sl.rd.kp hs hk) (by omega) 0 1 rfl), trivial⟩⟩) ?_
              refine h_nil ?_
              refine l_nil (q_then_normal ?_)
              cases h7 : Op.bytesLess ((s.at i).name).toList ((s.at (i - 1)).name).toList || decide ((s.at i).name = (s.at (i - 1)).name) with
              | true =>
                rw [bytes_total] at h7
                simp only [Bool.not_eq_true', Bool.not_eq_false', Bool.not_eq_true, Bool.not_eq_false] at h7
                refine c_if true rfl ?_
                refine c_seq ?_
                refine c_region ?_
                refine JL_run 1 [] [2] 0 ⟨[(2, vI 14)], []⟩ [] [] (by kernel_rfl) on wn ?_
                refine l_nil (q_then_normal ?_)
                refine c_ret ?_
                refine q_block_ret (q_then_ret (q_then_ret (q_block_ret (q_then_ret (q_ret (.inl rfl) [vI 14] rfl (fun bs w hS => ?_))))))
                refine ⟨?_, hS.kp⟩
                simp only [retOf, den, List.map_cons, List.map_nil]
                have hf : pairF s.xs i = 14 := by
                  have hat : ∀ q, s.xs.getD q default = s.at q := fun _ => rfl
                  unfold pairF
                  simp only [hat]
                  try simp only [h1, h2, h3, h4, h5, h6, h7, emp_size, ne_eq, not_true_eq_false, not_false_eq_true, true_or, or_true, false_or, or_false, and_true, true_and, and_false, false_and, and_self, or_self, if_true, if_false, Bool.true_eq_false, Bool.false_eq_true, reduceIte, Classical.not_not, Bool.and_eq_true, decide_eq_true_eq]
                  repeat (first | rw [if_pos (by omega)] | rw [if_neg (by omega)])
                  all_goals first | rfl | (exfalso; omega)
                rw [hI, firstF_here (by omega) hf (by omega)]
              | false =>
                rw [bytes_total] at h7
                simp only [Bool.not_eq_true', Bool.not_eq_false', Bool.not_eq_true, Bool.not_eq_false] at h7
                refine c_if false rfl ?_
                refine c_skip ?_
                refine q_block_normal (q_then_normal ?_)
                refine c_region ?_
                refine JL_run 3 [] [3, 0] 0 ⟨[(3, vI (((i : Nat) : Int) + 1)), (0, .v (.slice s.A s.n s.c))], []⟩ [inR (((i : Nat) : Int) + 1)] [] (by kernel_rfl) (oc (by unfold inR; omega) on) wn ?_
                have hf0 : pairF s.xs i = 0 := by
                  have hat : ∀ q, s.xs.getD q default = s.at q := fun _ => rfl
                  unfold pairF
                  simp only [hat]
                  try simp only [h1, h2, h3, h4, h5, h6, h7, emp_size, ne_eq, not_true_eq_false, not_false_eq_true, true_or, or_true, false_or, or_false, and_true, true_and, and_false, false_and, and_self, or_self, if_true, if_false, Bool.true_eq_false, Bool.false_eq_true, reduceIte, Classical.not_not, Bool.and_eq_true, decide_eq_true_eq]
                  repeat (first | rw [if_pos (by omega)] | rw [if_neg (by omega)])
                  all_goals first | rfl | (exfalso; omega)
                refine l_nil (q_loop (x := (i : Nat)) ((i + 1) : Nat) ⟨by omega, by rw [hI]; exact firstF_step (by omega) hf0⟩ (by omega) (s_start [3, 0] 0 (by kernel_rfl) rfl))
            | false =>
              have h6 := of_decide_eq_false h6
              refine h_quiet [] [(3, true), (4, true), (5, true), (6, true), (7, false), (8, true), (9, true), (10, true), (11, true), (12, true), (13, false), (14, true), (15, true)] [(49, vB false), (48, .v (undef)), (47, .v (undef)), (46, .v (undef)), (45, .v (undef)), (44, .v (undef)), (43, .v (undef)), (42, .v (undef)), (41, .v (undef)), (40, .v (undef)), (39, .v (undef)), (38, .v (undef)), (37, .v (undef)), (36, vB false), (35, vB false), (34, vI ((i : Nat) : Int)), (33, vB false), (3, vI ((i : Nat) : Int)), (0, .v (.slice s.A s.n s.c))] [] [] rfl (by kernel_rfl) on wn ?_
              refine h_nil ?_
              refine l_nil (q_then_normal ?_)
              refine c_if false rfl ?_
              refine c_skip ?_
              refine q_block_normal (q_then_normal ?_)
              refine c_region ?_
              refine JL_run 3 [] [3, 0] 0 ⟨[(3, vI (((i : Nat) : Int) + 1)), (0, .v (.slice s.A s.n s.c))], []⟩ [inR (((i : Nat) : Int) + 1)] [] (by kernel_rfl) (oc (by unfold inR; omega) on) wn ?_
              have hf0 : pairF s.xs i = 0 := by
                have hat : ∀ q, s.xs.getD q default = s.at q := fun _ => rfl
                unfold pairF
                simp only [hat]
                try simp only [h1, h2, h3, h4, h5, h6, emp_size, ne_eq, not_true_eq_false, not_false_eq_true, true_or, or_true, false_or, or_false, and_true, true_and, and_false, false_and, and_self, or_self, if_true, if_false, Bool.true_eq_false, Bool.false_eq_true, reduceIte, Classical.not_not, Bool.and_eq_true, decide_eq_true_eq]
                repeat (first | rw [if_pos (by omega)] | rw [if_neg (by omega)])
                all_goals first | rfl | (exfalso; omega)
              refine l_nil (q_loop (x := (i : Nat)) ((i + 1) : Nat) ⟨by omega, by rw [hI]; exact firstF_step (by omega) hf0⟩ (by omega) (s_start [3, 0] 0 (by kernel_rfl) rfl))
          | false =>
            simp only [inB, Bool.and_eq_true, Bool.and_eq_false_iff, decide_eq_true_eq, decide_eq_false_iff_not] at h5
            refine c_if true rfl ?_
            refine c_seq ?_
            refine c_region ?_
            refine JL_run 1 [] [2] 0 ⟨[(2, vI 2)], []⟩ [] [] (by kernel_rfl) on wn ?_
            refine l_nil (q_then_normal ?_)
            refine c_ret ?_
            refine q_then_ret (q_block_ret (q_then_ret (q_then_ret (q_block_ret (q_then_ret (q_ret (.inl rfl) [vI 2] rfl (fun bs w hS => ?_)))))))
            refine ⟨?_, hS.kp⟩
            simp only [retOf, den, List.map_cons, List.map_nil]
            have hf : pairF s.xs i = 2 := by
              have hat : ∀ q, s.xs.getD q default = s.at q := fun _ => rfl
              unfold pairF
              simp only [hat]
              try simp only [h1, h2, h3, h4, h5, emp_size, ne_eq, not_true_eq_false, not_false_eq_true, true_or, or_true, false_or, or_false, and_true, true_and, and_false, false_and, and_self, or_self, if_true, if_false, Bool.true_eq_false, Bool.false_eq_true, reduceIte, Classical.not_not, Bool.and_eq_true, decide_eq_true_eq]
              repeat (first | rw [if_pos (by omega)] | rw [if_neg (by omega)])
              all_goals first | rfl | (exfalso; omega)
            rw [hI, firstF_here (by omega) hf (by omega)]
      | false =>
        refine c_if true rfl ?_
        refine c_seq ?_
        refine c_region ?_
        refine JL_run 1 [] [2] 0 ⟨[(2, vI 4)], []⟩ [] [] (by kernel_rfl) on wn ?_
        refine l_nil (q_then_normal ?_)
        refine c_ret ?_
        refine q_then_ret (q_block_ret (q_then_ret (q_then_ret (q_block_ret (q_then_ret (q_ret (.inl rfl) [vI 4] rfl (fun bs w hS => ?_)))))))
        refine ⟨?_, hS.kp⟩
        simp only [retOf, den, List.map_cons, List.map_nil]
        have hf : pairF s.xs i = 4 := by
          have hat : ∀ q, s.xs.getD q default = s.at q := fun _ => rfl
          unfold pairF
          simp only [hat]
          try simp only [h1, h2, h3, emp_size, ne_eq, not_true_eq_false, not_false_eq_true, true_or, or_true, false_or, or_false, and_true, true_and, and_false, false_and, and_self, or_self, if_true, if_false, Bool.true_eq_false, Bool.false_eq_true, reduceIte, Classical.not_not, Bool.and_eq_true, decide_eq_true_eq]
          repeat (first | rw [if_pos (by omega)] | rw [if_neg (by omega)])
          all_goals first | rfl | (exfalso; omega)
        rw [hI, firstF_here (by omega) hf (by omega)]
    | false =>
      have h2 := of_decide_eq_false h2
      refine c_if false rfl ?_
      refine c_exit ?_
      refine q_then_exit (q_then_exit (q_block_hit (q_then_normal ?_)))
      refine c_seq ?_
      refine c_region ?_
      refine JL_run 1 [] [2] 0 ⟨[(2, vI 0)], []⟩ [] [] (by kernel_rfl) on wn ?_
      refine l_nil (q_then_normal ?_)
      refine c_ret ?_
      refine q_ret (.inl rfl) [vI 0] rfl (fun bs w hS => ?_)
      refine ⟨?_, hS.kp⟩
      simp only [retOf, den, List.map_cons, List.map_nil]
      rw [hI, firstF_end (by omega)]

theorem machine_Check {B : Nat → Prop} (x : CState) (w : World) (hx : Rds.sub B w x) : Calls Try.prog 69 #[.agg #[.int .i64 x.index, .slice x.locks.A x.locks.n x.locks.c, .slice x.pairs.A x.pairs.n x.pairs.c, .slice x.sessions.A x.sessions.n x.sessions.c]] w fun e w' => e = .returned (.int .i64 (mState x.abs)) ∧ Kp [] w w' := by
  have okx := Rds.okof hx
  refine calls_J0 22 Try.func69 rfl rfl [.agg #[.int .i64 x.index, .slice x.locks.A x.locks.n x.locks.c, .slice x.pairs.A x.pairs.n x.pairs.c, .slice x.sessions.A x.sessions.n x.sessions.c]] rfl ?_
  refine c_seq ?_
  refine c_region ?_
  refine JL_run 2 [] [1] 1 ⟨[(1, .p 0 0)], [⟨48, [vI x.index, .v (.slice x.locks.A x.locks.n x.locks.c), .v (.slice x.pairs.A x.pairs.n x.pairs.c), .v (.slice x.sessions.A x.sessions.n x.sessions.c)]⟩]⟩ [] [] (by kernel_rfl) on wn ?_
  refine l_nil (q_then_normal ?_)
  refine c_seq ?_
  refine c_seq ?_
  refine c_region ?_
  refine JL_run 4 [] [8, 6, 1] 1 ⟨[(8, vI x.index), (6, .v (.slice x.sessions.A x.sessions.n x.sessions.c)), (1, .p 0 0)], [⟨48, [vI x.index, .v (.slice x.locks.A x.locks.n x.locks.c), .v (.slice x.pairs.A x.pairs.n x.pairs.c), .v (.slice x.sessions.A x.sessions.n x.sessions.c)]⟩]⟩ [] [] (by kernel_rfl) on wn ?_
  refine l_pure 78 [] [.v (.slice x.sessions.A x.sessions.n x.sessions.c), vI x.index] (.int .i64 (mSess (x.sessions.xs.map CSession.abs) x.index)) Try.call78 rfl rfl rfl rfl (fun bs w hS => session_Check x.sessions x.index w (And.right (And.right (Rds.kp hx hS.kp)))) ?_
  refine JL_run 1 [] [3, 1] 1 ⟨[(3, vI (mSess (x.sessions.xs.map CSession.abs) x.index)), (1, .p 0 0)], [⟨48, [vI x.index, .v (.slice x.locks.A x.locks.n x.locks.c), .v (.slice x.pairs.A x.pairs.n x.pairs.c), .v (.slice x.sessions.A x.sessions.n x.sessions.c)]⟩]⟩ [] [] (by kernel_rfl) on wn ?_
  refine l_nil (q_then_normal ?_)
  refine c_seq ?_
  refine c_region ?_
  refine JL_run 2 [] [11, 3, 1] 1 ⟨[(11, vB (!(decide (mSess (x.sessions.xs.map CSession.abs) x.index = 0)))), (3, vI (mSess (x.sessions.xs.map CSession.abs) x.index)), (1, .p 0 0)], [⟨48, [vI x.index, .v (.slice x.locks.A x.locks.n x.locks.c), .v (.slice x.pairs.A x.pairs.n x.pairs.c), .v (.slice x.sessions.A x.sessions.n x.sessions.c)]⟩]⟩ [] [] (by kernel_rfl) on wn ?_
  refine l_nil (q_then_normal ?_)
  cases h1 : decide (mSess (x.sessions.xs.map CSession.abs) x.index = 0) with
  | true =>
    have h1 := of_decide_eq_true h1
    refine c_if false rfl ?_
    refine c_skip ?_
    refine q_then_normal ?_
    refine c_seq ?_
    refine c_seq ?_
    refine c_region ?_
    refine JL_run 2 [] [14, 1] 1 ⟨[(14, .v (.slice x.locks.A x.locks.n x.locks.c)), (1, .p 0 0)], [⟨48, [vI x.index, .v (.slice x.locks.A x.locks.n x.locks.c), .v (.slice x.pairs.A x.pairs.n x.pairs.c), .v (.slice x.sessions.A x.sessions.n x.sessions.c)]⟩]⟩ [] [] (by kernel_rfl) on wn ?_
    refine l_pure 107 [] [.v (.slice x.locks.A x.locks.n x.locks.c)] (.int .i64 (mLocks (x.locks.xs.map CLock.abs))) Try.call107 rfl rfl rfl rfl (fun bs w hS => lock_Check x.locks w (And.left (Rds.kp hx hS.kp))) ?_
    refine JL_run 1 [] [4, 1] 1 ⟨[(4, vI (mLocks (x.locks.xs.map CLock.abs))), (1, .p 0 0)], [⟨48, [vI x.index, .v (.slice x.locks.A x.locks.n x.locks.c), .v (.slice x.pairs.A x.pairs.n x.pairs.c), .v (.slice x.sessions.A x.sessions.n x.sessions.c)]⟩]⟩ [] [] (by kernel_rfl) on wn ?_
    refine l_nil (q_then_normal ?_)
    refine c_seq ?_
    refine c_region ?_
    refine JL_run 2 [] [17, 4, 1] 1 ⟨[(17, vB (!(decide (mLocks (x.locks.xs.map CLock.abs) = 0)))), (4, vI (mLocks (x.locks.xs.map CLock.abs))), (1, .p 0 0)], [⟨48, [vI x.index, .v (.slice x.locks.A x.locks.n x.locks.c), .v (.slice x.pairs.A x.pairs.n x.pairs.c), .v (.slice x.sessions.A x.sessions.n x.sessions.c)]⟩]⟩ [] [] (by kernel_rfl) on wn ?_
    refine l_nil (q_then_normal ?_)
    cases h2 : decide (mLocks (x.locks.xs.map CLock.abs) = 0) with
    | true =>
      have h2 := of_decide_eq_true h2
      refine c_if false rfl ?_
      refine c_skip ?_
      refine q_then_normal ?_
      refine c_seq ?_
      refine c_region ?_
      refine JL_run 2 [] [20] 0 ⟨[(20, .v (.slice x.pairs.A x.pairs.n x.pairs.c))], []⟩ [] [] (by kernel_rfl) on wn ?_
      refine l_pure 89 [] [.v (.slice x.pairs.A x.pairs.n x.pairs.c)] (.int .i64 (mPairs x.pairs.xs)) Try.call89 rfl rfl rfl rfl (fun bs w hS => pair_Check x.pairs w (And.left (And.right (Rds.kp hx hS.kp)))) ?_
      refine JL_run 1 [] [2] 0 ⟨[(2, vI (mPairs x.pairs.xs))], []⟩ [] [] (by kernel_rfl) on wn ?_
      refine l_nil (q_then_normal ?_)
      refine c_ret ?_
      refine q_ret (.inl rfl) [vI (mPairs x.pairs.xs)] rfl (fun bs w hS => ?_)
      refine ⟨?_, hS.kp⟩
      have hm : mState x.abs = mPairs x.pairs.xs := by
        have q1 : x.abs.sessions = x.sessions.xs.map CSession.abs := rfl
        have q2 : x.abs.locks = x.locks.xs.map CLock.abs := rfl
        have q3 : x.abs.pairs = x.pairs.xs := rfl
        have q4 : x.abs.index = x.index := rfl
        unfold mState; rw [q1, q2, q3, q4]; simp only [h1, h2, if_true, if_false, reduceIte]
      rw [hm]
      rfl
    | false =>
      have h2 := of_decide_eq_false h2
      refine c_if true rfl ?_
      refine c_seq ?_
      refine c_region ?_
      refine JL_run 2 [] [2] 0 ⟨[(2, vI (mLocks (x.locks.xs.map CLock.abs)))], []⟩ [] [] (by kernel_rfl) on wn ?_
      refine l_nil (q_then_normal ?_)
      refine c_ret ?_
      refine q_then_ret (q_ret (.inl rfl) [vI (mLocks (x.locks.xs.map CLock.abs))] rfl (fun bs w hS => ?_))
      refine ⟨?_, hS.kp⟩
      have hm : mState x.abs = mLocks (x.locks.xs.map CLock.abs) := by
        have q1 : x.abs.sessions = x.sessions.xs.map CSession.abs := rfl
        have q2 : x.abs.locks = x.locks.xs.map CLock.abs := rfl
        have q3 : x.abs.pairs = x.pairs.xs := rfl
        have q4 : x.abs.index = x.index := rfl
        unfold mState; rw [q1, q2, q3, q4]; simp only [h1, h2, if_true, if_false, reduceIte]
      rw [hm]
      rfl
  | false =>
    have h1 := of_decide_eq_false h1
    refine c_if true rfl ?_
    refine c_seq ?_
    refine c_region ?_
    refine JL_run 2 [] [2] 0 ⟨[(2, vI (mSess (x.sessions.xs.map CSession.abs) x.index))], []⟩ [] [] (by kernel_rfl) on wn ?_
    refine l_nil (q_then_normal ?_)
    refine c_ret ?_
    refine q_then_ret (q_ret (.inl rfl) [vI (mSess (x.sessions.xs.map CSession.abs) x.index)] rfl (fun bs w hS => ?_))
    refine ⟨?_, hS.kp⟩
    have hm : mState x.abs = mSess (x.sessions.xs.map CSession.abs) x.index := by
      have q1 : x.abs.sessions = x.sessions.xs.map CSession.abs := rfl
      have q2 : x.abs.locks = x.locks.xs.map CLock.abs := rfl
      have q3 : x.abs.pairs = x.pairs.xs := rfl
      have q4 : x.abs.index = x.index := rfl
      unfold mState; rw [q1, q2, q3, q4]; simp only [h1, if_true, if_false, reduceIte]
    rw [hm]
    rfl

theorem ref_StateFault {B : Nat → Prop} (x : CState) (w : World) (hx : Rds.sub B w x) : Calls Try.prog 73 #[.agg #[.int .i64 x.index, .slice x.locks.A x.locks.n x.locks.c, .slice x.pairs.A x.pairs.n x.pairs.c, .slice x.sessions.A x.sessions.n x.sessions.c]] w fun e w' => e = .returned (.int .i64 (mState x.abs)) ∧ Kp [] w w' := by
  have okx := Rds.okof hx
  refine calls_J0 20 Try.func73 rfl rfl [.agg #[.int .i64 x.index, .slice x.locks.A x.locks.n x.locks.c, .slice x.pairs.A x.pairs.n x.pairs.c, .slice x.sessions.A x.sessions.n x.sessions.c]] rfl ?_
  refine c_seq ?_
  refine c_region ?_
  refine JL_run 2 [] [1] 1 ⟨[(1, .p 0 0)], [⟨48, [vI x.index, .v (.slice x.locks.A x.locks.n x.locks.c), .v (.slice x.pairs.A x.pairs.n x.pairs.c), .v (.slice x.sessions.A x.sessions.n x.sessions.c)]⟩]⟩ [] [] (by kernel_rfl) on wn ?_
  refine l_nil (q_then_normal ?_)
  refine c_seq ?_
  refine c_region ?_
  refine JL_run 4 [] [7, 5, 1] 1 ⟨[(7, vI x.index), (5, .v (.slice x.sessions.A x.sessions.n x.sessions.c)), (1, .p 0 0)], [⟨48, [vI x.index, .v (.slice x.locks.A x.locks.n x.locks.c), .v (.slice x.pairs.A x.pairs.n x.pairs.c), .v (.slice x.sessions.A x.sessions.n x.sessions.c)]⟩]⟩ [] [] (by kernel_rfl) on wn ?_
  refine l_pure 82 [] [.v (.slice x.sessions.A x.sessions.n x.sessions.c), vI x.index] (.int .i64 (mSess (x.sessions.xs.map CSession.abs) x.index)) Try.call82 rfl rfl rfl rfl (fun bs w hS => ref_SessionsFault x.sessions x.index w (And.right (And.right (Rds.kp hx hS.kp)))) ?_
  refine JL_run 1 [] [3, 1] 1 ⟨[(3, vI (mSess (x.sessions.xs.map CSession.abs) x.index)), (1, .p 0 0)], [⟨48, [vI x.index, .v (.slice x.locks.A x.locks.n x.locks.c), .v (.slice x.pairs.A x.pairs.n x.pairs.c), .v (.slice x.sessions.A x.sessions.n x.sessions.c)]⟩]⟩ [] [] (by kernel_rfl) on wn ?_
  refine l_nil (q_then_normal ?_)
  refine c_seq ?_
  refine c_seq ?_
  refine c_region ?_
  refine JL_run 2 [] [10, 3, 1] 1 ⟨[(10, vB (decide (mSess (x.sessions.xs.map CSession.abs) x.index = 0))), (3, vI (mSess (x.sessions.xs.map CSession.abs) x.index)), (1, .p 0 0)], [⟨48, [vI x.index, .v (.slice x.locks.A x.locks.n x.locks.c), .v (.slice x.pairs.A x.pairs.n x.pairs.c), .v (.slice x.sessions.A x.sessions.n x.sessions.c)]⟩]⟩ [] [] (by kernel_rfl) on wn ?_
  refine l_nil (q_then_normal ?_)
  cases h1 : decide (mSess (x.sessions.xs.map CSession.abs) x.index = 0) with
  | true =>
    have h1 := of_decide_eq_true h1
    refine c_if true rfl ?_
    refine c_region ?_
    refine JL_run 2 [] [12, 1] 1 ⟨[(12, .v (.slice x.locks.A x.locks.n x.locks.c)), (1, .p 0 0)], [⟨48, [vI x.index, .v (.slice x.locks.A x.locks.n x.locks.c), .v (.slice x.pairs.A x.pairs.n x.pairs.c), .v (.slice x.sessions.A x.sessions.n x.sessions.c)]⟩]⟩ [] [] (by kernel_rfl) on wn ?_
    refine l_pure 113 [] [.v (.slice x.locks.A x.locks.n x.locks.c)] (.int .i64 (mLocks (x.locks.xs.map CLock.abs))) Try.call113 rfl rfl rfl rfl (fun bs w hS => ref_LocksFault x.locks w (And.left (Rds.kp hx hS.kp))) ?_
    refine JL_run 1 [] [3, 1] 1 ⟨[(3, vI (mLocks (x.locks.xs.map CLock.abs))), (1, .p 0 0)], [⟨48, [vI x.index, .v (.slice x.locks.A x.locks.n x.locks.c), .v (.slice x.pairs.A x.pairs.n x.pairs.c), .v (.slice x.sessions.A x.sessions.n x.sessions.c)]⟩]⟩ [] [] (by kernel_rfl) on wn ?_
    refine l_nil (q_then_normal ?_)
    refine c_seq ?_
    refine c_seq ?_
    refine c_region ?_
    refine JL_run 2 [] [15, 3, 1] 1 ⟨[(15, vB (decide (mLocks (x.locks.xs.map CLock.abs) = 0))), (3, vI (mLocks (x.locks.xs.map CLock.abs))), (1, .p 0 0)], [⟨48, [vI x.index, .v (.slice x.locks.A x.locks.n x.locks.c), .v (.slice x.pairs.A x.pairs.n x.pairs.c), .v (.slice x.sessions.A x.sessions.n x.sessions.c)]⟩]⟩ [] [] (by kernel_rfl) on wn ?_
    refine l_nil (q_then_normal ?_)
    cases h2 : decide (mLocks (x.locks.xs.map CLock.abs) = 0) with
    | true =>
      have h2 := of_decide_eq_true h2
      refine c_if true rfl ?_
      refine c_region ?_
      refine JL_run 2 [] [17] 0 ⟨[(17, .v (.slice x.pairs.A x.pairs.n x.pairs.c))], []⟩ [] [] (by kernel_rfl) on wn ?_
      refine l_pure 94 [] [.v (.slice x.pairs.A x.pairs.n x.pairs.c)] (.int .i64 (mPairs x.pairs.xs)) Try.call94 rfl rfl rfl rfl (fun bs w hS => ref_PairsFault x.pairs w (And.left (And.right (Rds.kp hx hS.kp)))) ?_
      refine JL_run 1 [] [3] 0 ⟨[(3, vI (mPairs x.pairs.xs))], []⟩ [] [] (by kernel_rfl) on wn ?_
      refine l_nil (q_then_normal ?_)
      refine c_seq ?_
      refine c_region ?_
      refine JL_run 2 [] [2] 0 ⟨[(2, vI (mPairs x.pairs.xs))], []⟩ [] [] (by kernel_rfl) on wn ?_
      refine l_nil (q_then_normal ?_)
      refine c_ret ?_
      refine q_ret (.inl rfl) [vI (mPairs x.pairs.xs)] rfl (fun bs w hS => ?_)
      refine ⟨?_, hS.kp⟩
      have hm : mState x.abs = mPairs x.pairs.xs := by
        have q1 : x.abs.sessions = x.sessions.xs.map CSession.abs := rfl
        have q2 : x.abs.locks = x.locks.xs.map CLock.abs := rfl
        have q3 : x.abs.pairs = x.pairs.xs := rfl
        have q4 : x.abs.index = x.index := rfl
        unfold mState; rw [q1, q2, q3, q4]; simp only [h1, h2, if_true, if_false, reduceIte]
      rw [hm]
      rfl
    | false =>
      have h2 := of_decide_eq_false h2
      refine c_if false rfl ?_
      refine c_skip ?_
      refine q_then_normal ?_
      refine c_seq ?_
      refine c_region ?_
      refine JL_run 2 [] [2] 0 ⟨[(2, vI (mLocks (x.locks.xs.map CLock.abs)))], []⟩ [] [] (by kernel_rfl) on wn ?_
      refine l_nil (q_then_normal ?_)
      refine c_ret ?_
      refine q_ret (.inl rfl) [vI (mLocks (x.locks.xs.map CLock.abs))] rfl (fun bs w hS => ?_)
      refine ⟨?_, hS.kp⟩
      have hm : mState x.abs = mLocks (x.locks.xs.map CLock.abs) := by
        have q1 : x.abs.sessions = x.sessions.xs.map CSession.abs := rfl
        have q2 : x.abs.locks = x.locks.xs.map CLock.abs := rfl
        have q3 : x.abs.pairs = x.pairs.xs := rfl
        have q4 : x.abs.index = x.index := rfl
        unfold mState; rw [q1, q2, q3, q4]; simp only [h1, h2, if_true, if_false, reduceIte]
      rw [hm]
      rfl
  | false =>
    have h1 := of_decide_eq_false h1
    refine c_if false rfl ?_
    refine c_skip ?_
    refine q_then_normal ?_
    refine c_seq ?_
    refine c_seq ?_
    refine c_region ?_
    refine JL_run 2 [] [15, 3, 1] 1 ⟨[(15, vB (decide (mSess (x.sessions.xs.map CSession.abs) x.index = 0))), (3, vI (mSess (x.sessions.xs.map CSession.abs) x.index)), (1, .p 0 0)], [⟨48, [vI x.index, .v (.slice x.locks.A x.locks.n x.locks.c), .v (.slice x.pairs.A x.pairs.n x.pairs.c), .v (.slice x.sessions.A x.sessions.n x.sessions.c)]⟩]⟩ [] [] (by kernel_rfl) on wn ?_
    refine l_nil (q_then_normal ?_)
    cases h3 : decide (mSess (x.sessions.xs.map CSession.abs) x.index = 0) with
    | true =>
      have h3 := of_decide_eq_true h3
      exact absurd h3 h1
    | false =>
      have h3 := of_decide_eq_false h3
      refine c_if false rfl ?_
      refine c_skip ?_
      refine q_then_normal ?_
      refine c_seq ?_
      refine c_region ?_
      refine JL_run 2 [] [2] 0 ⟨[(2, vI (mSess (x.sessions.xs.map CSession.abs) x.index))], []⟩ [] [] (by kernel_rfl) on wn ?_
      refine l_nil (q_then_normal ?_)
      refine c_ret ?_
      refine q_ret (.inl rfl) [vI (mSess (x.sessions.xs.map CSession.abs) x.index)] rfl (fun bs w hS => ?_)
      refine ⟨?_, hS.kp⟩
      have hm : mState x.abs = mSess (x.sessions.xs.map CSession.abs) x.index := by
        have q1 : x.abs.sessions = x.sessions.xs.map CSession.abs := rfl
        have q2 : x.abs.locks = x.locks.xs.map CLock.abs := rfl
        have q3 : x.abs.pairs = x.pairs.xs := rfl
        have q4 : x.abs.index = x.index := rfl
        unfold mState; rw [q1, q2, q3, q4]; simp only [h1, h3, if_true, if_false, reduceIte]
      rw [hm]
      rfl

theorem codec_Seal (s : ByteArray) (w : World) (hs : s.size ≤ 9223372036854775807) : Calls Try.prog 72 #[.string s] w fun e w' => e = .returned (.string (mSeal s)) ∧ Kp [] w w' := by
  refine calls_J0 35 Try.func72 rfl rfl [.string s] rfl ?_
  refine c_seq ?_
  refine c_region ?_
  refine JL_run 1 [] [0] 0 ⟨[(0, vS s)], []⟩ [] [] (by kernel_rfl) on wn ?_
  refine l_nil (q_then_normal ?_)
  refine c_seq ?_
  refine c_region ?_
  refine JL_run 2 [] [4, 3, 0] 0 ⟨[(4, vI 0), (3, vI 1), (0, vS s)], []⟩ [] [] (by kernel_rfl) on wn ?_
  refine l_nil (q_then_normal ?_)
  refine c_seq ?_
  refine c_seq ?_
  refine c_region ?_
  refine JL_run 3 [] [8, 7, 4, 3, 0] 0 ⟨[(8, vI 0), (7, vI (s.size : Int)), (4, vI 0), (3, vI 1), (0, vS s)], []⟩ [] [] (by kernel_rfl) on wn ?_
  refine l_nil (q_then_normal ?_)
  refine c_block ?_
  refine c_loop (σ := Nat) (fun k => k ≤ s.size) (fun k => s.size - k) (fun k => []) (fun k => ⟨[(8, vI ((k : Nat) : Int)), (7, vI (s.size : Int)), (4, vI ((sealTo s k).2)), (3, vI ((sealTo s k).1)), (0, vS s)], []⟩) 0 (Nat.zero_le _) (s_start [8, 7, 4, 3, 0] 0 (by kernel_rfl) rfl) ?_
  rintro k hk
  have hb := sealTo_bd s k
  have hu := (s.data.getD k 0).toNat_lt
  refine c_seq ?_
  refine c_region ?_
  refine JL_run 1 [] [9, 8, 7, 4, 3, 0] 0 ⟨[(9, vB (decide (((k : Nat) : Int) < (s.size : Int)))), (8, vI ((k : Nat) : Int)), (7, vI (s.size : Int)), (4, vI ((sealTo s k).2)), (3, vI ((sealTo s k).1)), (0, vS s)], []⟩ [] [] (by kernel_rfl) on wn ?_
  refine l_nil (q_then_normal ?_)
  refine c_seq ?_
  cases h1 : decide (((k : Nat) : Int) < (s.size : Int)) with
  | true =>
    have h1 := of_decide_eq_true h1
    refine c_if true rfl ?_
    refine c_skip ?_
    refine q_then_normal ?_
    refine c_seq ?_
    refine c_block ?_
    refine c_seq ?_
    refine c_region ?_
    refine JL_run 2 [] [5, 8, 7, 4, 3, 0] 0 ⟨[(5, vI ((k : Nat) : Int)), (8, vI ((k : Nat) : Int)), (7, vI (s.size : Int)), (4, vI ((sealTo s k).2)), (3, vI ((sealTo s k).1)), (0, vS s)], []⟩ [] [] (by kernel_rfl) on wn ?_
    refine l_nil (q_then_normal ?_)
    refine c_seq ?_
    refine c_region ?_
    refine JL_run 8 [(3, .sidx k)] [3, 8, 7, 4, 0] 0 ⟨[(3, vI ((((sealTo s k).1) + ((s.data.getD k 0).toNat : Int)) % 65521)), (8, vI ((k : Nat) : Int)), (7, vI (s.size : Int)), (4, vI ((sealTo s k).2)), (0, vS s)], []⟩ [((k : Nat) : Int) = ((k : Nat) : Int), k < s.size, 0 ≤ ((s.data.getD k 0).toNat : Int), ((s.data.getD k 0).toNat : Int) ≤ 255, inR (((sealTo s k).1) + ((s.data.getD k 0).toNat : Int)), 0 ≤ ((sealTo s k).1) + ((s.data.getD k 0).toNat : Int), (0 : Int) < 65521] [] (by kernel_rfl) (oc rfl (oc (by omega) (oc (by omega) (oc (by omega) (oc (by unfold inR; omega) (oc (by omega) (oc (by omega) on))))))) wn ?_
    refine l_nil (q_then_normal ?_)
    refine c_region ?_
    refine JL_run 5 [] [4, 3, 8, 7, 0] 0 ⟨[(4, vI ((((sealTo s k).2) + ((((sealTo s k).1) + ((s.data.getD k 0).toNat : Int)) % 65521)) % 65521)), (3, vI ((((sealTo s k).1) + ((s.data.getD k 0).toNat : Int)) % 65521)), (8, vI ((k : Nat) : Int)), (7, vI (s.size : Int)), (0, vS s)], []⟩ [inR (((sealTo s k).2) + ((((sealTo s k).1) + ((s.data.getD k 0).toNat : Int)) % 65521)), 0 ≤ ((sealTo s k).2) + ((((sealTo s k).1) + ((s.data.getD k 0).toNat : Int)) % 65521), (0 : Int) < 65521] [] (by kernel_rfl) (oc (by unfold inR; omega) (oc (by omega) (oc (by omega) on))) wn ?_
    refine l_nil (q_block_normal (q_then_normal ?_))
    refine c_region ?_
    refine JL_run 2 [] [8, 4, 3, 7, 0] 0 ⟨[(8, vI (((k : Nat) : Int) + 1)), (4, vI ((((sealTo s k).2) + ((((sealTo s k).1) + ((s.data.getD k 0).toNat : Int)) % 65521)) % 65521)), (3, vI ((((sealTo s k).1) + ((s.data.getD k 0).toNat : Int)) % 65521)), (7, vI (s.size : Int)), (0, vS s)], []⟩ [inR (((k : Nat) : Int) + 1)] [] (by kernel_rfl) (oc (by unfold inR; omega) on) wn ?_
    refine l_nil (q_loop (x := (k : Nat)) ((k + 1) : Nat) (by omega) (by omega) (s_start [8, 7, 4, 3, 0] 0 (by kernel_rfl) rfl))
  | false =>
    have h1 := of_decide_eq_false h1
    refine c_if false rfl ?_
    refine c_exit ?_
    refine q_then_exit (q_then_exit (q_block_hit (q_then_normal ?_)))
    refine c_seq ?_
    refine c_region ?_
    refine JL_run 11 [] [33] 1 ⟨[(33, .s 0 0 4 4)], [⟨5, [.v (.int .u8 ((((sealTo s k).2) / 2 ^ (8 : Int).toNat) % 256)), .v (.int .u8 (((sealTo s k).2) % 256)), .v (.int .u8 ((((sealTo s k).1) / 2 ^ (8 : Int).toNat) % 256)), .v (.int .u8 (((sealTo s k).1) % 256))]⟩]⟩ [(0 : Int) ≤ 8, 8 ≤ (64 : Int), (0 : Int) ≤ 8, 8 ≤ (64 : Int)] [] (by kernel_rfl) (oc (by omega) (oc (by omega) (oc (by omega) (oc (by omega) on)))) wn ?_
    refine l_bytes 5 (.s 0 0 4 4) [(((sealTo s k).2) / 2 ^ (8 : Int).toNat) % 256, ((sealTo s k).2) % 256, (((sealTo s k).1) / 2 ^ (8 : Int).toNat) % 256, ((sealTo s k).1) % 256] Try.underlying163 Try.underlying5 Try.underlying9 rfl rfl (fun bs w hS => src_loc (q := 4) hS rfl rfl) ?_
    refine JL_run 1 [] [2] 0 ⟨[(2, vS (bstr ([(((sealTo s k).2) / 2 ^ (8 : Int).toNat) % 256, ((sealTo s k).2) % 256, (((sealTo s k).1) / 2 ^ (8 : Int).toNat) % 256, ((sealTo s k).1) % 256])))], []⟩ [] [] (by kernel_rfl) on wn ?_
    refine l_nil (q_then_normal ?_)
    refine c_ret ?_
    refine q_ret (.inl rfl) [vS (bstr ([(((sealTo s k).2) / 2 ^ (8 : Int).toNat) % 256, ((sealTo s k).2) % 256, (((sealTo s k).1) / 2 ^ (8 : Int).toNat) % 256, ((sealTo s k).1) % 256]))] rfl (fun bs w hS => ?_)
    refine ⟨?_, hS.kp⟩
    have e : k = s.size := by omega
    subst e
    simp [retOf, den, mSeal]

theorem ref_SealOf (s : ByteArray) (w : World) (hs : s.size ≤ 9223372036854775807) : Calls Try.prog 76 #[.string s] w fun e w' => e = .returned (.string (mSeal s)) ∧ Kp [] w w' := by
  refine calls_J0 37 Try.func76 rfl rfl [.string s] rfl ?_
  refine c_seq ?_
  refine c_region ?_
  refine JL_run 1 [] [0] 0 ⟨[(0, vS s)], []⟩ [] [] (by kernel_rfl) on wn ?_
  refine l_nil (q_then_normal ?_)
  refine c_seq ?_
  refine c_region ?_
  refine JL_run 1 [] [3, 0] 0 ⟨[(3, vI 1), (0, vS s)], []⟩ [] [] (by kernel_rfl) on wn ?_
  refine l_nil (q_then_normal ?_)
  refine c_seq ?_
  refine c_region ?_
  refine JL_run 1 [] [4, 3, 0] 0 ⟨[(4, vI 0), (3, vI 1), (0, vS s)], []⟩ [] [] (by kernel_rfl) on wn ?_
  refine l_nil (q_then_normal ?_)
  refine c_seq ?_
  refine c_seq ?_
  refine c_region ?_
  refine JL_run 1 [] [5, 4, 3, 0] 0 ⟨[(5, vI 0), (4, vI 0), (3, vI 1), (0, vS s)], []⟩ [] [] (by kernel_rfl) on wn ?_
  refine l_nil (q_then_normal ?_)
  refine c_block ?_
  refine c_loop (σ := Nat) (fun k => k ≤ s.size) (fun k => s.size - k) (fun k => []) (fun k => ⟨[(5, vI ((k : Nat) : Int)), (4, vI ((sealTo s k).2)), (3, vI ((sealTo s k).1)), (0, vS s)], []⟩) 0 (Nat.zero_le _) (s_start [5, 4, 3, 0] 0 (by kernel_rfl) rfl) ?_
  rintro k hk
  have hb := sealTo_bd s k
  have hu := (s.data.getD k 0).toNat_lt
  refine c_seq ?_
  refine c_seq ?_
  refine c_region ?_
  refine JL_run 4 [] [9, 5, 4, 3, 0] 0 ⟨[(9, vB (decide (((k : Nat) : Int) < (s.size : Int)))), (5, vI ((k : Nat) : Int)), (4, vI ((sealTo s k).2)), (3, vI ((sealTo s k).1)), (0, vS s)], []⟩ [] [] (by kernel_rfl) on wn ?_
  refine l_nil (q_then_normal ?_)
  cases h1 : decide (((k : Nat) : Int) < (s.size : Int)) with
  | true =>
    have h1 := of_decide_eq_true h1
    refine c_if true rfl ?_
    refine c_skip ?_
    refine q_then_normal ?_
    refine c_seq ?_
    refine c_block ?_
    refine c_seq ?_
    refine c_region ?_
    refine JL_run 8 [(3, .sidx k)] [3, 5, 4, 0] 0 ⟨[(3, vI ((((sealTo s k).1) + ((s.data.getD k 0).toNat : Int)) % 65521)), (5, vI ((k : Nat) : Int)), (4, vI ((sealTo s k).2)), (0, vS s)], []⟩ [((k : Nat) : Int) = ((k : Nat) : Int), k < s.size, 0 ≤ ((s.data.getD k 0).toNat : Int), ((s.data.getD k 0).toNat : Int) ≤ 255, inR (((sealTo s k).1) + ((s.data.getD k 0).toNat : Int)), 0 ≤ ((sealTo s k).1) + ((s.data.getD k 0).toNat : Int), (0 : Int) < 65521] [] (by kernel_rfl) (oc rfl (oc (by omega) (oc (by omega) (oc (by omega) (oc (by unfold inR; omega) (oc (by omega) (oc (by omega) on))))))) wn ?_
    refine l_nil (q_then_normal ?_)
    refine c_region ?_
    refine JL_run 5 [] [4, 3, 5, 0] 0 ⟨[(4, vI ((((sealTo s k).2) + ((((sealTo s k).1) + ((s.data.getD k 0).toNat : Int)) % 65521)) % 65521)), (3, vI ((((sealTo s k).1) + ((s.data.getD k 0).toNat : Int)) % 65521)), (5, vI ((k : Nat) : Int)), (0, vS s)], []⟩ [inR (((sealTo s k).2) + ((((sealTo s k).1) + ((s.data.getD k 0).toNat : Int)) % 65521)), 0 ≤ ((sealTo s k).2) + ((((sealTo s k).1) + ((s.data.getD k 0).toNat : Int)) % 65521), (0 : Int) < 65521] [] (by kernel_rfl) (oc (by unfold inR; omega) (oc (by omega) (oc (by omega) on))) wn ?_
    refine l_nil (q_block_normal (q_then_normal ?_))
    refine c_region ?_
    refine JL_run 3 [] [5, 4, 3, 0] 0 ⟨[(5, vI (((k : Nat) : Int) + 1)), (4, vI ((((sealTo s k).2) + ((((sealTo s k).1) + ((s.data.getD k 0).toNat : Int)) % 65521)) % 65521)), (3, vI ((((sealTo s k).1) + ((s.data.getD k 0).toNat : Int)) % 65521)), (0, vS s)], []⟩ [inR (((k : Nat) : Int) + 1)] [] (by kernel_rfl) (oc (by unfold inR; omega) on) wn ?_
    refine l_nil (q_loop (x := (k : Nat)) ((k + 1) : Nat) (by omega) (by omega) (s_start [5, 4, 3, 0] 0 (by kernel_rfl) rfl))
  | false =>
    have h1 := of_decide_eq_false h1
    refine c_if false rfl ?_
    refine c_exit ?_
    refine q_then_exit (q_then_exit (q_block_hit (q_then_normal ?_)))
    refine c_seq ?_
    refine c_region ?_
    refine JL_run 13 [] [35] 1 ⟨[(35, .s 0 0 4 4)], [⟨5, [.v (.int .u8 ((((sealTo s k).2) / 256) % 256)), .v (.int .u8 ((((sealTo s k).2) % 256) % 256)), .v (.int .u8 ((((sealTo s k).1) / 256) % 256)), .v (.int .u8 ((((sealTo s k).1) % 256) % 256))]⟩]⟩ [0 ≤ (sealTo s k).2, (sealTo s k).2 ≤ 9223372036854775807, (0 : Int) < 256, 0 ≤ (sealTo s k).2, (0 : Int) < 256, 0 ≤ (sealTo s k).1, (sealTo s k).1 ≤ 9223372036854775807, (0 : Int) < 256, 0 ≤ (sealTo s k).1, (0 : Int) < 256] [] (by kernel_rfl) (oc (by omega) (oc (by omega) (oc (by omega) (oc (by omega) (oc (by omega) (oc (by omega) (oc (by omega) (oc (by omega) (oc (by omega) (oc (by omega) on)))))))))) wn ?_
    refine l_bytes 5 (.s 0 0 4 4) [(((sealTo s k).2) / 256) % 256, (((sealTo s k).2) % 256) % 256, (((sealTo s k).1) / 256) % 256, (((sealTo s k).1) % 256) % 256] Try.underlying163 Try.underlying5 Try.underlying9 rfl rfl (fun bs w hS => src_loc (q := 4) hS rfl rfl) ?_
    refine JL_run 1 [] [2] 0 ⟨[(2, vS (bstr ([(((sealTo s k).2) / 256) % 256, (((sealTo s k).2) % 256) % 256, (((sealTo s k).1) / 256) % 256, (((sealTo s k).1) % 256) % 256])))], []⟩ [] [] (by kernel_rfl) on wn ?_
    refine l_nil (q_then_normal ?_)
    refine c_ret ?_
    refine q_ret (.inl rfl) [vS (bstr ([(((sealTo s k).2) / 256) % 256, (((sealTo s k).2) % 256) % 256, (((sealTo s k).1) / 256) % 256, (((sealTo s k).1) % 256) % 256]))] rfl (fun bs w hS => ?_)
    refine ⟨?_, hS.kp⟩
    have e : k = s.size := by omega
    subst e
    simp [retOf, den, mSeal]

theorem ref_SnapBytes {B : Nat → Prop} (s : CState) (w : World) (hs : Rds.sub B w s) : Calls Try.prog 29 #[.agg #[.int .i64 s.index, .slice s.locks.A s.locks.n s.locks.c, .slice s.pairs.A s.pairs.n s.pairs.c, .slice s.sessions.A s.sessions.n s.sessions.c]] w fun e w' => e = .returned (.tuple #[.string (mSnap s.abs).1, .int .i64 (mSnap s.abs).2]) ∧ Kp [] w w' := by
  have he0 : emp.size = 0 := rfl
  have okx := Rds.okof hs
  have oks := okx.1
  have okp := okx.2.1
  have oke := okx.2.2
  have ncs := Sl.ok.nc oks
  have ncp := Sl.ok.nc okp
  have nce := Sl.ok.nc oke
  have hns : s.locks.n = s.locks.xs.length := rfl
  have hnp : s.pairs.n = s.pairs.xs.length := rfl
  have hne : s.sessions.n = s.sessions.xs.length := rfl
  have hll : s.abs.locks.length = s.locks.n := List.length_map _
  have hlp : s.abs.pairs.length = s.pairs.n := rfl
  have hle : s.abs.sessions.length = s.sessions.n := List.length_map _
  have hal : ∀ q, s.abs.locks.getD q default = (s.locks.at q).abs := fun q => abs_at q
  have hap : ∀ q, s.abs.pairs.getD q default = s.pairs.at q := fun _ => rfl
  have hae : ∀ q, s.abs.sessions.getD q default = (s.sessions.at q).abs := fun q => sabs_at q
  refine calls_J0 163 Try.func29 rfl rfl [.agg #[.int .i64 s.index, .slice s.locks.A s.locks.n s.locks.c, .slice s.pairs.A s.pairs.n s.pairs.c, .slice s.sessions.A s.sessions.n s.sessions.c]] rfl ?_
  refine c_seq ?_
  refine c_region ?_
  refine JL_run 3 [] [1] 1 ⟨[(1, .p 0 0)], [⟨48, [vI s.index, .v (.slice s.locks.A s.locks.n s.locks.c), .v (.slice s.pairs.A s.pairs.n s.pairs.c), .v (.slice s.sessions.A s.sessions.n s.sessions.c)]⟩]⟩ [] [] (by kernel_rfl) on wn ?_
  refine l_nil (q_then_normal ?_)
  refine c_seq ?_
  refine c_region ?_
  refine JL_run 1 [] [13, 1] 1 ⟨[(13, .v (.agg #[.int .i64 s.index, .slice s.locks.A s.locks.n s.locks.c, .slice s.pairs.A s.pairs.n s.pairs.c, .slice s.sessions.A s.sessions.n s.sessions.c])), (1, .p 0 0)], [⟨48, [vI s.index, .v (.slice s.locks.A s.locks.n s.locks.c), .v (.slice s.pairs.A s.pairs.n s.pairs.c), .v (.slice s.sessions.A s.sessions.n s.sessions.c)]⟩]⟩ [] [] (by kernel_rfl) on wn ?_
  refine l_pure 73 [] [.v (.agg #[.int .i64 s.index, .slice s.locks.A s.locks.n s.locks.c, .slice s.pairs.A s.pairs.n s.pairs.c, .slice s.sessions.A s.sessions.n s.sessions.c])] (.int .i64 (mState s.abs)) Try.call73 rfl rfl rfl rfl (fun bs w hS => ref_StateFault s w (Rds.kp hs hS.kp)) ?_
  refine JL_run 1 [] [4, 1] 1 ⟨[(4, vI (mState s.abs)), (1, .p 0 0)], [⟨48, [vI s.index, .v (.slice s.locks.A s.locks.n s.locks.c), .v (.slice s.pairs.A s.pairs.n s.pairs.c), .v (.slice s.sessions.A s.sessions.n s.sessions.c)]⟩]⟩ [] [] (by kernel_rfl) on wn ?_
  refine l_nil (q_then_normal ?_)
  refine c_seq ?_
  refine c_seq ?_
  refine c_region ?_
  refine JL_run 2 [] [16, 4, 1] 1 ⟨[(16, vB (!(decide (mState s.abs = 0)))), (4, vI (mState s.abs)), (1, .p 0 0)], [⟨48, [vI s.index, .v (.slice s.locks.A s.locks.n s.locks.c), .v (.slice s.pairs.A s.pairs.n s.pairs.c), .v (.slice s.sessions.A s.sessions.n s.sessions.c)]⟩]⟩ [] [] (by kernel_rfl) on wn ?_
  refine l_nil (q_then_normal ?_)
  cases h1 : decide (mState s.abs = 0) with
  | true =>
    have h1 := of_decide_eq_true h1
    have hbd := mState_bd (x := s.abs) (by assumption)
    have hb1 := hbd.1
    have hb2 := hbd.2.1
    have hb3 := hbd.2.2.1
    have hb4 : ∀ q, (s.locks.at q).line.n ≤ 3 := fun q => by
      by_cases hq : q < s.locks.n
      · have := hbd.2.2.2.1 q (by rw [hll]; exact hq); rw [hal] at this; exact this
      · rw [at_out hq]; show 0 ≤ 3; omega
    have hb5 : ∀ q, (s.sessions.at q).replies.n ≤ 4 := fun q => by
      by_cases hq : q < s.sessions.n
      · have := hbd.2.2.2.2 q (by rw [hle]; exact hq); rw [hae] at this; exact this
      · rw [at_out hq]; show 0 ≤ 4; omega
    refine c_if false rfl ?_
    refine c_skip ?_
    refine q_then_normal ?_
    refine c_seq ?_
    refine c_region ?_
    refine JL_run 6 [] [23, 1] 2 ⟨[(23, .s 1 0 2 2), (1, .p 0 0)], [⟨48, [vI s.index, .v (.slice s.locks.A s.locks.n s.locks.c), .v (.slice s.pairs.A s.pairs.n s.pairs.c), .v (.slice s.sessions.A s.sessions.n s.sessions.c)]⟩, ⟨3, [vI s.index, vI ((s.locks.n : Nat) : Int)]⟩]⟩ [] [] (by kernel_rfl) on wn ?_
    have hzj1 := mNums_size [(s.index : Int), (((s.locks.n : Nat) : Int) : Int)]
    simp only [List.length_cons, List.length_nil] at hzj1
    refine l_pure 74 [] [.s 1 0 2 2] (.string (mNums [(s.index : Int), (((s.locks.n : Nat) : Int) : Int)])) Try.call74 rfl rfl rfl rfl (fun bs w hS => ref_joined (⟨some ⟨bs.getD 1 0, 0, none⟩, 2, [(s.index : Int), (((s.locks.n : Nat) : Int) : Int)]⟩ : Sl Int) w (rd_local [(s.index : Int), (((s.locks.n : Nat) : Int) : Int)] (hS.loc 1 _ rfl (by simp)) (by simp)) (by show 2 ≤ 1048576; omega)) ?_
    refine JL_run 1 [] [5, 1] 1 ⟨[(5, vS (mNums [(s.index : Int), (((s.locks.n : Nat) : Int) : Int)])), (1, .p 0 0)], [⟨48, [vI s.index, .v (.slice s.locks.A s.locks.n s.locks.c), .v (.slice s.pairs.A s.pairs.n s.pairs.c), .v (.slice s.sessions.A s.sessions.n s.sessions.c)]⟩]⟩ [] [] (by kernel_rfl) on wn ?_
    refine l_nil (q_then_normal ?_)
    refine c_seq ?_
    refine c_seq ?_
    refine c_region ?_
    refine JL_run 1 [] [6, 5, 1] 1 ⟨[(6, vI 0), (5, vS (mNums [(s.index : Int), (((s.locks.n : Nat) : Int) : Int)])), (1, .p 0 0)], [⟨48, [vI s.index, .v (.slice s.locks.A s.locks.n s.locks.c), .v (.slice s.pairs.A s.pairs.n s.pairs.c), .v (.slice s.sessions.A s.sessions.n s.sessions.c)]⟩]⟩ [] [] (by kernel_rfl) on wn ?_
    refine l_nil (q_then_normal ?_)
    refine c_block ?_
    have hz00 : (mNums [(s.index : Int), (((s.locks.n : Nat) : Int) : Int)]).size ≤ 40 := by first | omega | (simp only [ByteArray.size_append]; omega)
    generalize hu0 : mNums [(s.index : Int), (((s.locks.n : Nat) : Int) : Int)] = z0 at hz00 ⊢
    refine c_loop (σ := Nat × ByteArray) (fun ⟨i0, u0⟩ => i0 ≤ s.locks.n ∧ u0 = (s.abs.locks.take i0).foldl lockS z0 ∧ u0.size ≤ 40 + i0 * 5100) (fun ⟨i0, u0⟩ => s.locks.n - i0) (fun ⟨i0, u0⟩ => []) (fun ⟨i0, u0⟩ => ⟨[(5, vS u0), (6, vI ((i0 : Nat) : Int)), (1, .p 0 0)], [⟨48, [vI s.index, .v (.slice s.locks.A s.locks.n s.locks.c), .v (.slice s.pairs.A s.pairs.n s.pairs.c), .v (.slice s.sessions.A s.sessions.n s.sessions.c)]⟩]⟩) ⟨0, z0⟩ ⟨Nat.zero_le _, rfl, by show z0.size ≤ 40 + 0 * 5100; omega⟩ (s_start [5, 6, 1] 1 (by kernel_rfl) rfl) ?_
    rintro ⟨i0, u0⟩ ⟨hi0, hI0, hz_0⟩
    have hb4i := hb4 i0
    have hb4x : (s.locks.at i0).line.xs.length ≤ 3 := hb4 i0
    refine c_seq ?_
    refine c_seq ?_
    refine c_region ?_
    refine JL_run 5 [] [29, 5, 6, 1] 1 ⟨[(29, vB (decide (((i0 : Nat) : Int) < ((s.locks.n : Nat) : Int)))), (5, vS u0), (6, vI ((i0 : Nat) : Int)), (1, .p 0 0)], [⟨48, [vI s.index, .v (.slice s.locks.A s.locks.n s.locks.c), .v (.slice s.pairs.A s.pairs.n s.pairs.c), .v (.slice s.sessions.A s.sessions.n s.sessions.c)]⟩]⟩ [] [] (by kernel_rfl) on wn ?_
    refine l_nil (q_then_normal ?_)
    cases h2 : decide (((i0 : Nat) : Int) < ((s.locks.n : Nat) : Int)) with
    | true =>
      have h2 := of_decide_eq_true h2
      refine c_if true rfl ?_
      refine c_skip ?_
      refine q_then_normal ?_
      refine c_seq ?_
      refine c_block ?_
      refine c_seq ?_
      refine c_region ?_
      refine JL_run 7 [(3, .idx s.locks.ad i0), (4, .ext [.string (s.locks.at i0).name, .int .i64 (s.locks.at i0).holder, .int .i64 (s.locks.at i0).fence, .slice (s.locks.at i0).line.A (s.locks.at i0).line.n (s.locks.at i0).line.c])] [7, 5, 6, 1] 2 ⟨[(7, .p 1 0), (5, vS u0), (6, vI ((i0 : Nat) : Int)), (1, .p 0 0)], [⟨48, [vI s.index, .v (.slice s.locks.A s.locks.n s.locks.c), .v (.slice s.pairs.A s.pairs.n s.pairs.c), .v (.slice s.sessions.A s.sessions.n s.sessions.c)]⟩, ⟨80, [vS (s.locks.at i0).name, vI (s.locks.at i0).holder, vI (s.locks.at i0).fence, .v (.slice (s.locks.at i0).line.A (s.locks.at i0).line.n (s.locks.at i0).line.c)]⟩]⟩ [s.locks.A = some s.locks.ad, ((i0 : Nat) : Int) = ((i0 : Nat) : Int), i0 < s.locks.n] [(s.locks.ad.add (i0 * 4), [.string (s.locks.at i0).name, .int .i64 (s.locks.at i0).holder, .int .i64 (s.locks.at i0).fence, .slice (s.locks.at i0).line.A (s.locks.at i0).line.n (s.locks.at i0).line.c])] (by kernel_rfl) (oc (Sl.ok.own (s := s.locks) (i := i0) (And.left okx) (by omega)) (oc rfl (oc (by omega) on))) (fun w hk hr => ⟨(Sl.rd.all (s := s.locks) (i := i0) (And.left (Rds.kp hs hk)) (by omega) rfl), trivial⟩) ?_
      refine l_nil (q_then_normal ?_)
      refine c_draw 20 [] (.p 0 (.p 1 (.q 2 (.p 5 (.q 6 (.p 7 (.q 8 (.p 9 (.q 10 (.p 11 (.p 15 (.q 16 (.b 3 (.p 4 (.b 12 (.b 13 (.p 14 (.b 17 (.p 18 (.p 19 .nil)) .z)) .z) .z)) (.b 12 (.b 3 (.p 4 (.b 13 (.p 14 (.b 17 (.p 18 (.p 19 .nil)) .z)) .z)) .z) .z)))))))))))))) [] [] Try_mixed (by kernel_rfl) (pq_block (pq_then (pq_then (pq_block (pq_then pq_body))))) .slnil ?_
      refine h_quiet [] [(0, true), (1, true), (2, false), (5, true), (6, false), (7, true), (8, false), (9, true), (10, false), (11, true), (15, true), (16, false)] [(53, .v (.slice (s.locks.at i0).line.A (s.locks.at i0).line.n (s.locks.at i0).line.c)), (52, .p 1 3), (48, vI (((s.locks.at i0).line.n : Nat) : Int)), (47, .v (.slice (s.locks.at i0).line.A (s.locks.at i0).line.n (s.locks.at i0).line.c)), (46, .p 1 3), (45, vI (s.locks.at i0).fence), (44, .p 1 2), (43, vI (s.locks.at i0).holder), (42, .p 1 1), (39, vS (s.locks.at i0).name), (38, .p 1 0), (37, vS u0), (7, .p 1 0), (5, vS u0), (6, vI ((i0 : Nat) : Int)), (1, .p 0 0)] [] [] rfl (by kernel_rfl) on wn ?_
      refine h_br ?_ ?_
      ·
        have hzt2 := mTextB_size (s.locks.at i0).name
        refine h_pure 75 [] [vS (s.locks.at i0).name] (.string (mTextB (s.locks.at i0).name)) rfl Try.call75 rfl rfl rfl rfl (fun bs w hS => ref_worded _ w (And.left (Sl.ok.at (s := s.locks) (i := i0) (And.left okx) (by omega)))) (fun bs0 bs w hp hl hS => hS.down hp hl rfl (le_same (le_same le_nil)) .slnil) ?_
        refine h_quiet [] [(4, true)] [(41, vS (u0 ++ (mTextB (s.locks.at i0).name))), (40, vS (mTextB (s.locks.at i0).name)), (53, .v (.slice (s.locks.at i0).line.A (s.locks.at i0).line.n (s.locks.at i0).line.c)), (52, .p 1 3), (48, vI (((s.locks.at i0).line.n : Nat) : Int)), (47, .v (.slice (s.locks.at i0).line.A (s.locks.at i0).line.n (s.locks.at i0).line.c)), (46, .p 1 3), (45, vI (s.locks.at i0).fence), (44, .p 1 2), (43, vI (s.locks.at i0).holder), (42, .p 1 1), (39, vS (s.locks.at i0).name), (38, .p 1 0), (37, vS u0), (7, .p 1 0), (5, vS u0), (6, vI ((i0 : Nat) : Int)), (1, .p 0 0)] [u0.size + (mTextB (s.locks.at i0).name).size ≤ 9223372036854775807] [] rfl (by kernel_rfl) (oc (by first | omega | (simp only [ByteArray.size_append]; omega)) on) wn ?_
        refine h_local ⟨[(49, .s 2 0 3 3), (41, vS (u0 ++ (mTextB (s.locks.at i0).name))), (40, vS (mTextB (s.locks.at i0).name)), (53, .v (.slice (s.locks.at i0).line.A (s.locks.at i0).line.n (s.locks.at i0).line.c)), (52, .p 1 3), (48, vI (((s.locks.at i0).line.n : Nat) : Int)), (47, .v (.slice (s.locks.at i0).line.A (s.locks.at i0).line.n (s.locks.at i0).line.c)), (46, .p 1 3), (45, vI (s.locks.at i0).fence), (44, .p 1 2), (43, vI (s.locks.at i0).holder), (42, .p 1 1), (39, vS (s.locks.at i0).name), (38, .p 1 0), (37, vS u0), (7, .p 1 0), (5, vS u0), (6, vI ((i0 : Nat) : Int)), (1, .p 0 0)], [⟨48, [vI s.index, .v (.slice s.locks.A s.locks.n s.locks.c), .v (.slice s.pairs.A s.pairs.n s.pairs.c), .v (.slice s.sessions.A s.sessions.n s.sessions.c)]⟩, ⟨80, [vS (s.locks.at i0).name, vI (s.locks.at i0).holder, vI (s.locks.at i0).fence, .v (.slice (s.locks.at i0).line.A (s.locks.at i0).line.n (s.locks.at i0).line.c)]⟩, ⟨3, [vI (s.locks.at i0).holder, vI (s.locks.at i0).fence, vI (((s.locks.at i0).line.n : Nat) : Int)]⟩]⟩ (by kernel_rfl) (fun bs0 bs w hp hl hS => hS.down hp hl rfl (le_same (le_same le_nil)) .slnil) ?_
        have hzj3 := mNums_size [((s.locks.at i0).holder : Int), ((s.locks.at i0).fence : Int), ((((s.locks.at i0).line.n : Nat) : Int) : Int)]
        simp only [List.length_cons, List.length_nil] at hzj3
        refine h_pure 74 [] [.s 2 0 3 3] (.string (mNums [((s.locks.at i0).holder : Int), ((s.locks.at i0).fence : Int), ((((s.locks.at i0).line.n : Nat) : Int) : Int)])) rfl Try.call74 rfl rfl rfl rfl (fun bs w hS => ref_joined (⟨some ⟨bs.getD 2 0, 0, none⟩, 3, [((s.locks.at i0).holder : Int), ((s.locks.at i0).fence : Int), ((((s.locks.at i0).line.n : Nat) : Int) : Int)]⟩ : Sl Int) w (rd_local [((s.locks.at i0).holder : Int), ((s.locks.at i0).fence : Int), ((((s.locks.at i0).line.n : Nat) : Int) : Int)] (hS.loc 2 _ rfl (by simp)) (by simp)) (by show 3 ≤ 1048576; omega)) (fun bs0 bs w hp hl hS => hS.down hp hl rfl (le_same (le_same le_nil)) .slnil) ?_
        refine h_quiet [] [(14, true)] [(51, vS ((u0 ++ (mTextB (s.locks.at i0).name)) ++ (mNums [((s.locks.at i0).holder : Int), ((s.locks.at i0).fence : Int), ((((s.locks.at i0).line.n : Nat) : Int) : Int)]))), (50, vS (mNums [((s.locks.at i0).holder : Int), ((s.locks.at i0).fence : Int), ((((s.locks.at i0).line.n : Nat) : Int) : Int)])), (49, .s 2 0 3 3), (41, vS (u0 ++ (mTextB (s.locks.at i0).name))), (40, vS (mTextB (s.locks.at i0).name)), (53, .v (.slice (s.locks.at i0).line.A (s.locks.at i0).line.n (s.locks.at i0).line.c)), (52, .p 1 3), (48, vI (((s.locks.at i0).line.n : Nat) : Int)), (47, .v (.slice (s.locks.at i0).line.A (s.locks.at i0).line.n (s.locks.at i0).line.c)), (46, .p 1 3), (45, vI (s.locks.at i0).fence), (44, .p 1 2), (43, vI (s.locks.at i0).holder), (42, .p 1 1), (39, vS (s.locks.at i0).name), (38, .p 1 0), (37, vS u0), (7, .p 1 0), (5, vS u0), (6, vI ((i0 : Nat) : Int)), (1, .p 0 0)] [(u0 ++ (mTextB (s.locks.at i0).name)).size + (mNums [((s.locks.at i0).holder : Int), ((s.locks.at i0).fence : Int), ((((s.locks.at i0).line.n : Nat) : Int) : Int)]).size ≤ 9223372036854775807] [] rfl (by kernel_rfl) (oc (by first | omega | (simp only [ByteArray.size_append]; omega)) on) wn ?_
        have hzj4 := mNums_size (s.locks.at i0).line.xs
        refine h_pure 74 [] [.v (.slice (s.locks.at i0).line.A (s.locks.at i0).line.n (s.locks.at i0).line.c)] (.string (mNums (s.locks.at i0).line.xs)) rfl Try.call74 rfl rfl rfl rfl (fun bs w hS => ref_joined (s.locks.at i0).line w (And.right (Sl.rd.sub (s := s.locks) (i := i0) (And.left (Rds.kp hs hS.kp)) (by omega))) (by omega)) (fun bs0 bs w hp hl hS => hS.down hp hl rfl (le_same (le_same le_nil)) .slnil) ?_
        refine h_quiet [] [(18, true), (19, true)] [(5, vS (((u0 ++ (mTextB (s.locks.at i0).name)) ++ (mNums [((s.locks.at i0).holder : Int), ((s.locks.at i0).fence : Int), ((((s.locks.at i0).line.n : Nat) : Int) : Int)])) ++ (mNums (s.locks.at i0).line.xs))), (55, vS (((u0 ++ (mTextB (s.locks.at i0).name)) ++ (mNums [((s.locks.at i0).holder : Int), ((s.locks.at i0).fence : Int), ((((s.locks.at i0).line.n : Nat) : Int) : Int)])) ++ (mNums (s.locks.at i0).line.xs))), (54, vS (mNums (s.locks.at i0).line.xs)), (51, vS ((u0 ++ (mTextB (s.locks.at i0).name)) ++ (mNums [((s.locks.at i0).holder : Int), ((s.locks.at i0).fence : Int), ((((s.locks.at i0).line.n : Nat) : Int) : Int)]))), (50, vS (mNums [((s.locks.at i0).holder : Int), ((s.locks.at i0).fence : Int), ((((s.locks.at i0).line.n : Nat) : Int) : Int)])), (49, .s 2 0 3 3), (41, vS (u0 ++ (mTextB (s.locks.at i0).name))), (40, vS (mTextB (s.locks.at i0).name)), (53, .v (.slice (s.locks.at i0).line.A (s.locks.at i0).line.n (s.locks.at i0).line.c)), (52, .p 1 3), (48, vI (((s.locks.at i0).line.n : Nat) : Int)), (47, .v (.slice (s.locks.at i0).line.A (s.locks.at i0).line.n (s.locks.at i0).line.c)), (46, .p 1 3), (45, vI (s.locks.at i0).fence), (44, .p 1 2), (43, vI (s.locks.at i0).holder), (42, .p 1 1), (39, vS (s.locks.at i0).name), (38, .p 1 0), (37, vS u0), (7, .p 1 0), (6, vI ((i0 : Nat) : Int)), (1, .p 0 0)] [((u0 ++ (mTextB (s.locks.at i0).name)) ++ (mNums [((s.locks.at i0).holder : Int), ((s.locks.at i0).fence : Int), ((((s.locks.at i0).line.n : Nat) : Int) : Int)])).size + (mNums (s.locks.at i0).line.xs).size ≤ 9223372036854775807] [] rfl (by kernel_rfl) (oc (by first | omega | (simp only [ByteArray.size_append]; omega)) on) wn ?_
        refine h_nil ?_
        refine l_nil (q_block_normal (q_then_normal ?_))
        refine c_region ?_
        refine JL_run 3 [] [6, 5, 1] 1 ⟨[(6, vI (((i0 : Nat) : Int) + 1)), (5, vS (((u0 ++ (mTextB (s.locks.at i0).name)) ++ (mNums [((s.locks.at i0).holder : Int), ((s.locks.at i0).fence : Int), ((((s.locks.at i0).line.n : Nat) : Int) : Int)])) ++ (mNums (s.locks.at i0).line.xs))), (1, .p 0 0)], [⟨48, [vI s.index, .v (.slice s.locks.A s.locks.n s.locks.c), .v (.slice s.pairs.A s.pairs.n s.pairs.c), .v (.slice s.sessions.A s.sessions.n s.sessions.c)]⟩]⟩ [inR (((i0 : Nat) : Int) + 1)] [] (by kernel_rfl) (oc (by unfold inR; omega) on) wn ?_
        have hst0 : ((u0 ++ (mTextB (s.locks.at i0).name)) ++ (mNums [((s.locks.at i0).holder : Int), ((s.locks.at i0).fence : Int), ((((s.locks.at i0).line.n : Nat) : Int) : Int)])) ++ (mNums (s.locks.at i0).line.xs) = lockS u0 (s.abs.locks.getD i0 default) := by
          rw [hal]; rfl
        have hzz0 : (((u0 ++ (mTextB (s.locks.at i0).name)) ++ (mNums [((s.locks.at i0).holder : Int), ((s.locks.at i0).fence : Int), ((((s.locks.at i0).line.n : Nat) : Int) : Int)])) ++ (mNums (s.locks.at i0).line.xs)).size ≤ 40 + (i0 + 1) * 5100 := by simp only [ByteArray.size_append]; omega
        refine l_nil (q_loop (x := (⟨i0, u0⟩ : Nat × ByteArray)) (⟨i0 + 1, ((u0 ++ (mTextB (s.locks.at i0).name)) ++ (mNums [((s.locks.at i0).holder : Int), ((s.locks.at i0).fence : Int), ((((s.locks.at i0).line.n : Nat) : Int) : Int)])) ++ (mNums (s.locks.at i0).line.xs)⟩ : Nat × ByteArray) ⟨by show i0 + 1 ≤ s.locks.n; omega, by show _ = (s.abs.locks.take (i0 + 1)).foldl lockS z0; rw [hst0, hI0]; exact (foldl_take (i := i0) _ _ s.abs.locks (by omega)).symm, hzz0⟩ (by show s.locks.n - (i0 + 1) < s.locks.n - i0; omega) (s_start [5, 6, 1] 1 (by kernel_rfl) rfl))
      ·
        refine h_local ⟨[(49, .s 2 0 3 3), (53, .v (.slice (s.locks.at i0).line.A (s.locks.at i0).line.n (s.locks.at i0).line.c)), (52, .p 1 3), (48, vI (((s.locks.at i0).line.n : Nat) : Int)), (47, .v (.slice (s.locks.at i0).line.A (s.locks.at i0).line.n (s.locks.at i0).line.c)), (46, .p 1 3), (45, vI (s.locks.at i0).fence), (44, .p 1 2), (43, vI (s.locks.at i0).holder), (42, .p 1 1), (39, vS (s.locks.at i0).name), (38, .p 1 0), (37, vS u0), (7, .p 1 0), (5, vS u0), (6, vI ((i0 : Nat) : Int)), (1, .p 0 0)], [⟨48, [vI s.index, .v (.slice s.locks.A s.locks.n s.locks.c), .v (.slice s.pairs.A s.pairs.n s.pairs.c), .v (.slice s.sessions.A s.sessions.n s.sessions.c)]⟩, ⟨80, [vS (s.locks.at i0).name, vI (s.locks.at i0).holder, vI (s.locks.at i0).fence, .v (.slice (s.locks.at i0).line.A (s.locks.at i0).line.n (s.locks.at i0).line.c)]⟩, ⟨3, [vI (s.locks.at i0).holder, vI (s.locks.at i0).fence, vI (((s.locks.at i0).line.n : Nat) : Int)]⟩]⟩ (by kernel_rfl) (fun bs0 bs w hp hl hS => hS.down hp hl rfl (le_same (le_same le_nil)) .slnil) ?_
        have hzt5 := mTextB_size (s.locks.at i0).name
        refine h_pure 75 [] [vS (s.locks.at i0).name] (.string (mTextB (s.locks.at i0).name)) rfl Try.call75 rfl rfl rfl rfl (fun bs w hS => ref_worded _ w (And.left (Sl.ok.at (s := s.locks) (i := i0) (And.left okx) (by omega)))) (fun bs0 bs w hp hl hS => hS.down hp hl rfl (le_same (le_same le_nil)) .slnil) ?_
        refine h_quiet [] [(4, true)] [(41, vS (u0 ++ (mTextB (s.locks.at i0).name))), (40, vS (mTextB (s.locks.at i0).name)), (49, .s 2 0 3 3), (53, .v (.slice (s.locks.at i0).line.A (s.locks.at i0).line.n (s.locks.at i0).line.c)), (52, .p 1 3), (48, vI (((s.locks.at i0).line.n : Nat) : Int)), (47, .v (.slice (s.locks.at i0).line.A (s.locks.at i0).line.n (s.locks.at i0).line.c)), (46, .p 1 3), (45, vI (s.locks.at i0).fence), (44, .p 1 2), (43, vI (s.locks.at i0).holder), (42, .p 1 1), (39, vS (s.locks.at i0).name), (38, .p 1 0), (37, vS u0), (7, .p 1 0), (5, vS u0), (6, vI ((i0 : Nat) : Int)), (1, .p 0 0)] [u0.size + (mTextB (s.locks.at i0).name).size ≤ 9223372036854775807] [] rfl (by kernel_rfl) (oc (by first | omega | (simp only [ByteArray.size_append]; omega)) on) wn ?_
        have hzj6 := mNums_size [((s.locks.at i0).holder : Int), ((s.locks.at i0).fence : Int), ((((s.locks.at i0).line.n : Nat) : Int) : Int)]
        simp only [List.length_cons, List.length_nil] at hzj6
        refine h_pure 74 [] [.s 2 0 3 3] (.string (mNums [((s.locks.at i0).holder : Int), ((s.locks.at i0).fence : Int), ((((s.locks.at i0).line.n : Nat) : Int) : Int)])) rfl Try.call74 rfl rfl rfl rfl (fun bs w hS => ref_joined (⟨some ⟨bs.getD 2 0, 0, none⟩, 3, [((s.locks.at i0).holder : Int), ((s.locks.at i0).fence : Int), ((((s.locks.at i0).line.n : Nat) : Int) : Int)]⟩ : Sl Int) w (rd_local [((s.locks.at i0).holder : Int), ((s.locks.at i0).fence : Int), ((((s.locks.at i0).line.n : Nat) : Int) : Int)] (hS.loc 2 _ rfl (by simp)) (by simp)) (by show 3 ≤ 1048576; omega)) (fun bs0 bs w hp hl hS => hS.down hp hl rfl (le_same (le_same le_nil)) .slnil) ?_
        refine h_quiet [] [(14, true)] [(51, vS ((u0 ++ (mTextB (s.locks.at i0).name)) ++ (mNums [((s.locks.at i0).holder : Int), ((s.locks.at i0).fence : Int), ((((s.locks.at i0).line.n : Nat) : Int) : Int)]))), (50, vS (mNums [((s.locks.at i0).holder : Int), ((s.locks.at i0).fence : Int), ((((s.locks.at i0).line.n : Nat) : Int) : Int)])), (41, vS (u0 ++ (mTextB (s.locks.at i0).name))), (40, vS (mTextB (s.locks.at i0).name)), (49, .s 2 0 3 3), (53, .v (.slice (s.locks.at i0).line.A (s.locks.at i0).line.n (s.locks.at i0).line.c)), (52, .p 1 3), (48, vI (((s.locks.at i0).line.n : Nat) : Int)), (47, .v (.slice (s.locks.at i0).line.A (s.locks.at i0).line.n (s.locks.at i0).line.c)), (46, .p 1 3), (45, vI (s.locks.at i0).fence), (44, .p 1 2), (43, vI (s.locks.at i0).holder), (42, .p 1 1), (39, vS (s.locks.at i0).name), (38, .p 1 0), (37, vS u0), (7, .p 1 0), (5, vS u0), (6, vI ((i0 : Nat) : Int)), (1, .p 0 0)] [(u0 ++ (mTextB (s.locks.at i0).name)).size + (mNums [((s.locks.at i0).holder : Int), ((s.locks.at i0).fence : Int), ((((s.locks.at i0).line.n : Nat) : Int) : Int)]).size ≤ 9223372036854775807] [] rfl (by kernel_rfl) (oc (by first | omega | (simp only [ByteArray.size_append]; omega)) on) wn ?_
        have hzj7 := mNums_size (s.locks.at i0).line.xs
        refine h_pure 74 [] [.v (.slice (s.locks.at i0).line.A (s.locks.at i0).line.n (s.locks.at i0).line.c)] (.string (mNums (s.locks.at i0).line.xs)) rfl Try.call74 rfl rfl rfl rfl (fun bs w hS => ref_joined (s.locks.at i0).line w (And.right (Sl.rd.sub (s := s.locks) (i := i0) (And.left (Rds.kp hs hS.kp)) (by omega))) (by omega)) (fun bs0 bs w hp hl hS => hS.down hp hl rfl (le_same (le_same le_nil)) .slnil) ?_
        refine h_quiet [] [(18, true), (19, true)] [(5, vS (((u0 ++ (mTextB (s.locks.at i0).name)) ++ (mNums [((s.locks.at i0).holder : Int), ((s.locks.at i0).fence : Int), ((((s.locks.at i0).line.n : Nat) : Int) : Int)])) ++ (mNums (s.locks.at i0).line.xs))), (55, vS (((u0 ++ (mTextB (s.locks.at i0).name)) ++ (mNums [((s.locks.at i0).holder : Int), ((s.locks.at i0).fence : Int), ((((s.locks.at i0).line.n : Nat) : Int) : Int)])) ++ (mNums (s.locks.at i0).line.xs))), (54, vS (mNums (s.locks.at i0).line.xs)), (51, vS ((u0 ++ (mTextB (s.locks.at i0).name)) ++ (mNums [((s.locks.at i0).holder : Int), ((s.locks.at i0).fence : Int), ((((s.locks.at i0).line.n : Nat) : Int) : Int)]))), (50, vS (mNums [((s.locks.at i0).holder : Int), ((s.locks.at i0).fence : Int), ((((s.locks.at i0).line.n : Nat) : Int) : Int)])), (41, vS (u0 ++ (mTextB (s.locks.at i0).name))), (40, vS (mTextB (s.locks.at i0).name)), (49, .s 2 0 3 3), (53, .v (.slice (s.locks.at i0).line.A (s.locks.at i0).line.n (s.locks.at i0).line.c)), (52, .p 1 3), (48, vI (((s.locks.at i0).line.n : Nat) : Int)), (47, .v (.slice (s.locks.at i0).line.A (s.locks.at i0).line.n (s.locks.at i0).line.c)), (46, .p 1 3), (45, vI (s.locks.at i0).fence), (44, .p 1 2), (43, vI (s.locks.at i0).holder), (42, .p 1 1), (39, vS (s.locks.at i0).name), (38, .p 1 0), (37, vS u0), (7, .p 1 0), (6, vI ((i0 : Nat) : Int)), (1, .p 0 0)] [((u0 ++ (mTextB (s.locks.at i0).name)) ++ (mNums [((s.locks.at i0).holder : Int), ((s.locks.at i0).fence : Int), ((((s.locks.at i0).line.n : Nat) : Int) : Int)])).size + (mNums (s.locks.at i0).line.xs).size ≤ 9223372036854775807] [] rfl (by kernel_rfl) (oc (by first | omega | (simp only [ByteArray.size_append]; omega)) on) wn ?_
        refine h_nil ?_
        refine l_nil (q_block_normal (q_then_normal ?_))
        refine c_region ?_
        refine JL_run 3 [] [6, 5, 1] 1 ⟨[(6, vI (((i0 : Nat) : Int) + 1)), (5, vS (((u0 ++ (mTextB (s.locks.at i0).name)) ++ (mNums [((s.locks.at i0).holder : Int), ((s.locks.at i0).fence : Int), ((((s.locks.at i0).line.n : Nat) : Int) : Int)])) ++ (mNums (s.locks.at i0).line.xs))), (1, .p 0 0)], [⟨48, [vI s.index, .v (.slice s.locks.A s.locks.n s.locks.c), .v (.slice s.pairs.A s.pairs.n s.pairs.c), .v (.slice s.sessions.A s.sessions.n s.sessions.c)]⟩]⟩ [inR (((i0 : Nat) : Int) + 1)] [] (by kernel_rfl) (oc (by unfold inR; omega) on) wn ?_
        have hst0 : ((u0 ++ (mTextB (s.locks.at i0).name)) ++ (mNums [((s.locks.at i0).holder : Int), ((s.locks.at i0).fence : Int), ((((s.locks.at i0).line.n : Nat) : Int) : Int)])) ++ (mNums (s.locks.at i0).line.xs) = lockS u0 (s.abs.locks.getD i0 default) := by
          rw [hal]; rfl
        have hzz0 : (((u0 ++ (mTextB (s.locks.at i0).name)) ++ (mNums [((s.locks.at i0).holder : Int), ((s.locks.at i0).fence : Int), ((((s.locks.at i0).line.n : Nat) : Int) : Int)])) ++ (mNums (s.locks.at i0).line.xs)).size ≤ 40 + (i0 + 1) * 5100 := by simp only [ByteArray.size_append]; omega
        refine l_nil (q_loop (x := (⟨i0, u0⟩ : Nat × ByteArray)) (⟨i0 + 1, ((u0 ++ (mTextB (s.locks.at i0).name)) ++ (mNums [((s.locks.at i0).holder : Int), ((s.locks.at i0).fence : Int), ((((s.locks.at i0).line.n : Nat) : Int) : Int)])) ++ (mNums (s.locks.at i0).line.xs)⟩ : Nat × ByteArray) ⟨by show i0 + 1 ≤ s.locks.n; omega, by show _ = (s.abs.locks.take (i0 + 1)).foldl lockS z0; rw [hst0, hI0]; exact (foldl_take (i := i0) _ _ s.abs.locks (by omega)).symm, hzz0⟩ (by show s.locks.n - (i0 + 1) < s.locks.n - i0; omega) (s_start [5, 6, 1] 1 (by kernel_rfl) rfl))
    | false =>
      have h2 := of_decide_eq_false h2
      refine c_if false rfl ?_
      refine c_exit ?_
      refine q_then_exit (q_then_exit (q_block_hit (q_then_normal ?_)))
      refine c_seq ?_
      refine c_region ?_
      refine JL_run 5 [] [60, 56, 1] 2 ⟨[(60, .s 1 0 1 1), (56, vS u0), (1, .p 0 0)], [⟨48, [vI s.index, .v (.slice s.locks.A s.locks.n s.locks.c), .v (.slice s.pairs.A s.pairs.n s.pairs.c), .v (.slice s.sessions.A s.sessions.n s.sessions.c)]⟩, ⟨3, [vI ((s.pairs.n : Nat) : Int)]⟩]⟩ [] [] (by kernel_rfl) on wn ?_
      have hzj8 := mNums_size [(((s.pairs.n : Nat) : Int) : Int)]
      simp only [List.length_cons, List.length_nil] at hzj8
      refine l_pure 74 [] [.s 1 0 1 1] (.string (mNums [(((s.pairs.n : Nat) : Int) : Int)])) Try.call74 rfl rfl rfl rfl (fun bs w hS => ref_joined (⟨some ⟨bs.getD 1 0, 0, none⟩, 1, [(((s.pairs.n : Nat) : Int) : Int)]⟩ : Sl Int) w (rd_local [(((s.pairs.n : Nat) : Int) : Int)] (hS.loc 1 _ rfl (by simp)) (by simp)) (by show 1 ≤ 1048576; omega)) ?_
      refine JL_run 2 [] [5, 1] 1 ⟨[(5, vS (u0 ++ (mNums [(((s.pairs.n : Nat) : Int) : Int)]))), (1, .p 0 0)], [⟨48, [vI s.index, .v (.slice s.locks.A s.locks.n s.locks.c), .v (.slice s.pairs.A s.pairs.n s.pairs.c), .v (.slice s.sessions.A s.sessions.n s.sessions.c)]⟩]⟩ [u0.size + (mNums [(((s.pairs.n : Nat) : Int) : Int)]).size ≤ 9223372036854775807] [] (by kernel_rfl) (oc (by first | omega | (simp only [ByteArray.size_append]; omega)) on) wn ?_
      refine l_nil (q_then_normal ?_)
      refine c_seq ?_
      refine c_seq ?_
      refine c_region ?_
      refine JL_run 1 [] [8, 5, 1] 1 ⟨[(8, vI 0), (5, vS (u0 ++ (mNums [(((s.pairs.n : Nat) : Int) : Int)]))), (1, .p 0 0)], [⟨48, [vI s.index, .v (.slice s.locks.A s.locks.n s.locks.c), .v (.slice s.pairs.A s.pairs.n s.pairs.c), .v (.slice s.sessions.A s.sessions.n s.sessions.c)]⟩]⟩ [] [] (by kernel_rfl) on wn ?_
      refine l_nil (q_then_normal ?_)
      refine c_block ?_
      have hz01 : (u0 ++ (mNums [(((s.pairs.n : Nat) : Int) : Int)])).size ≤ 30000 := by first | omega | (simp only [ByteArray.size_append]; omega)
      generalize hu1 : u0 ++ (mNums [(((s.pairs.n : Nat) : Int) : Int)]) = z1 at hz01 ⊢
      refine c_loop (σ := Nat × ByteArray) (fun ⟨i1, u1⟩ => i1 ≤ s.pairs.n ∧ u1 = (s.pairs.xs.take i1).foldl pairS z1 ∧ u1.size ≤ 30000 + i1 * 10100) (fun ⟨i1, u1⟩ => s.pairs.n - i1) (fun ⟨i1, u1⟩ => []) (fun ⟨i1, u1⟩ => ⟨[(5, vS u1), (8, vI ((i1 : Nat) : Int)), (1, .p 0 0)], [⟨48, [vI s.index, .v (.slice s.locks.A s.locks.n s.locks.c), .v (.slice s.pairs.A s.pairs.n s.pairs.c), .v (.slice s.sessions.A s.sessions.n s.sessions.c)]⟩]⟩) ⟨0, z1⟩ ⟨Nat.zero_le _, rfl, by show z1.size ≤ 30000 + 0 * 10100; omega⟩ (s_start [5, 8, 1] 1 (by kernel_rfl) rfl) ?_
      rintro ⟨i1, u1⟩ ⟨hi1, hI1, hz_1⟩
      refine c_seq ?_
      refine c_seq ?_
      refine c_region ?_
      refine JL_run 5 [] [67, 5, 8, 1] 1 ⟨[(67, vB (decide (((i1 : Nat) : Int) < ((s.pairs.n : Nat) : Int)))), (5, vS u1), (8, vI ((i1 : Nat) : Int)), (1, .p 0 0)], [⟨48, [vI s.index, .v (.slice s.locks.A s.locks.n s.locks.c), .v (.slice s.pairs.A s.pairs.n s.pairs.c), .v (.slice s.sessions.A s.sessions.n s.sessions.c)]⟩]⟩ [] [] (by kernel_rfl) on wn ?_
      refine l_nil (q_then_normal ?_)
      cases h3 : decide (((i1 : Nat) : Int) < ((s.pairs.n : Nat) : Int)) with
      | true =>
        have h3 := of_decide_eq_true h3
        refine c_if true rfl ?_
        refine c_skip ?_
        refine q_then_normal ?_
        refine c_seq ?_
        refine c_block ?_
        refine c_draw 27 [] (.p 0 (.p 1 (.q 2 (.p 3 (.p 4 (.p 5 (.q 6 (.p 9 (.q 10 (.p 11 (.p 12 (.p 13 (.q 14 (.p 17 (.q 18 (.p 19 (.p 20 (.p 21 (.q 22 (.b 7 (.p 8 (.b 15 (.p 16 (.b 23 (.b 24 (.p 25 (.p 26 .nil)) .z) .z)) (.b 23 (.b 15 (.p 16 (.b 24 (.p 25 (.p 26 .nil)) .z)) .z) .z))) (.b 23 (.b 7 (.p 8 (.b 15 (.p 16 (.b 24 (.p 25 (.p 26 .nil)) .z)) .z)) .z) .z))))))))))))))))))))) [] [] Try_mixed (by kernel_rfl) (pq_block (pq_then (pq_then (pq_block (pq_then pq_body))))) .slnil ?_
        refine h_quiet [(4, .idx s.pairs.ad i1), (6, .ext [.string (s.pairs.at i1).name]), (12, .idx s.pairs.ad i1), (14, .ext [.string (s.pairs.at i1).value]), (20, .idx s.pairs.ad i1), (22, .ext [.int .i64 (s.pairs.at i1).version])] [(0, true), (1, true), (2, false), (3, true), (4, true), (5, true), (6, false), (9, true), (10, false), (11, true), (12, true), (13, true), (14, false), (17, true), (18, false), (19, true), (20, true), (21, true), (22, false)] [(92, vI (s.pairs.at i1).version), (91, .v (.pointer (some ((s.pairs.ad.add (i1 * 3)).add 2)))), (90, .v (.pointer (some (s.pairs.ad.add (i1 * 3))))), (89, vI ((i1 : Nat) : Int)), (88, .v (.slice s.pairs.A s.pairs.n s.pairs.c)), (87, .p 0 2), (84, vS (s.pairs.at i1).value), (83, .v (.pointer (some ((s.pairs.ad.add (i1 * 3)).add 1)))), (82, .v (.pointer (some (s.pairs.ad.add (i1 * 3))))), (81, vI ((i1 : Nat) : Int)), (80, .v (.slice s.pairs.A s.pairs.n s.pairs.c)), (79, .p 0 2), (76, vS (s.pairs.at i1).name), (75, .v (.pointer (some ((s.pairs.ad.add (i1 * 3)).add 0)))), (74, .v (.pointer (some (s.pairs.ad.add (i1 * 3))))), (73, vI ((i1 : Nat) : Int)), (72, .v (.slice s.pairs.A s.pairs.n s.pairs.c)), (71, .p 0 2), (70, vS u1), (67, vB true), (5, vS u1), (8, vI ((i1 : Nat) : Int)), (1, .p 0 0)] [s.pairs.A = some s.pairs.ad, ((i1 : Nat) : Int) = ((i1 : Nat) : Int), i1 < s.pairs.n, s.pairs.A = some s.pairs.ad, ((i1 : Nat) : Int) = ((i1 : Nat) : Int), i1 < s.pairs.n, s.pairs.A = some s.pairs.ad, ((i1 : Nat) : Int) = ((i1 : Nat) : Int), i1 < s.pairs.n] [((s.pairs.ad.add (i1 * 3)).add 0, [.string (s.pairs.at i1).name]), ((s.pairs.ad.add (i1 * 3)).add 1, [.string (s.pairs.at i1).value]), ((s.pairs.ad.add (i1 * 3)).add 2, [.int .i64 (s.pairs.at i1).version])] rfl (by kernel_rfl) (oc (Sl.ok.own (s := s.pairs) (i := i1) (And.left (And.right okx)) (by omega)) (oc rfl (oc (by omega) (oc (Sl.ok.own (s := s.pairs) (i := i1) (And.left (And.right okx)) (by omega)) (oc rfl (oc (by omega) (oc (Sl.ok.own (s := s.pairs) (i := i1) (And.left (And.right okx)) (by omega)) (oc rfl (oc (by omega) on))))))))) (fun w hk hr => ⟨(Sl.rd.fld (s := s.pairs) (i := i1) (And.left (And.right (Rds.kp hs hk))) (by omega) 0 1 rfl), ⟨(Sl.rd.fld (s := s.pairs) (i := i1) (And.left (And.right (Rds.kp hs hk))) (by omega) 1 1 rfl), ⟨(Sl.rd.fld (s := s.pairs) (i := i1) (And.left (And.right (Rds.kp hs hk))) (by omega) 2 1 rfl), trivial⟩⟩⟩) ?_
        refine h_br ?_ ?_
        ·
          have hzt9 := mTextB_size (s.pairs.at i1).name
          refine h_pure 75 [] [vS (s.pairs.at i1).name] (.string (mTextB (s.pairs.at i1).name)) rfl Try.call75 rfl rfl rfl rfl (fun bs w hS => ref_worded _ w (And.left (Sl.ok.at (s := s.pairs) (i := i1) (And.left (And.right okx)) (by omega)))) (fun bs0 bs w hp hl hS => hS.down hp hl rfl (le_same le_nil) .slnil) ?_
          refine h_quiet [] [(8, true)] [(78, vS (u1 ++ (mTextB (s.pairs.at i1).name))), (77, vS (mTextB (s.pairs.at i1).name)), (92, vI (s.pairs.at i1).version), (91, .v (.pointer (some ((s.pairs.ad.add (i1 * 3)).add 2)))), (90, .v (.pointer (some (s.pairs.ad.add (i1 * 3))))), (89, vI ((i1 : Nat) : Int)), (88, .v (.slice s.pairs.A s.pairs.n s.pairs.c)), (87, .p 0 2), (84, vS (s.pairs.at i1).value), (83, .v (.pointer (some ((s.pairs.ad.add (i1 * 3)).add 1)))), (82, .v (.pointer (some (s.pairs.ad.add (i1 * 3))))), (81, vI ((i1 : Nat) : Int)), (80, .v (.slice s.pairs.A s.pairs.n s.pairs.c)), (79, .p 0 2), (76, vS (s.pairs.at i1).name), (75, .v (.pointer (some ((s.pairs.ad.add (i1 * 3)).add 0)))), (74, .v (.pointer (some (s.pairs.ad.add (i1 * 3))))), (73, vI ((i1 : Nat) : Int)), (72, .v (.slice s.pairs.A s.pairs.n s.pairs.c)), (71, .p 0 2), (70, vS u1), (67, vB true), (5, vS u1), (8, vI ((i1 : Nat) : Int)), (1, .p 0 0)] [u1.size + (mTextB (s.pairs.at i1).name).size ≤ 9223372036854775807] [] rfl (by kernel_rfl) (oc (by first | omega | (simp only [ByteArray.size_append]; omega)) on) wn ?_
          refine h_br ?_ ?_
          ·
            have hzt10 := mTextB_size (s.pairs.at i1).value
            refine h_pure 75 [] [vS (s.pairs.at i1).value] (.string (mTextB (s.pairs.at i1).value)) rfl Try.call75 rfl rfl rfl rfl (fun bs w hS => ref_worded _ w (And.right (Sl.ok.at (s := s.pairs) (i := i1) (And.left (And.right okx)) (by omega)))) (fun bs0 bs w hp hl hS => hS.down hp hl rfl (le_same le_nil) .slnil) ?_
            refine h_quiet [] [(16, true)] [(86, vS ((u1 ++ (mTextB (s.pairs.at i1).name)) ++ (mTextB (s.pairs.at i1).value))), (85, vS (mTextB (s.pairs.at i1).value)), (78, vS (u1 ++ (mTextB (s.pairs.at i1).name))), (77, vS (mTextB (s.pairs.at i1).name)), (92, vI (s.pairs.at i1).version), (91, .v (.pointer (some ((s.pairs.ad.add (i1 * 3)).add 2)))), (90, .v (.pointer (some (s.pairs.ad.add (i1 * 3))))), (89, vI ((i1 : Nat) : Int)), (88, .v (.slice s.pairs.A s.pairs.n s.pairs.c)), (87, .p 0 2), (84, vS (s.pairs.at i1).value), (83, .v (.pointer (some ((s.pairs.ad.add (i1 * 3)).add 1)))), (82, .v (.pointer (some (s.pairs.ad.add (i1 * 3))))), (81, vI ((i1 : Nat) : Int)), (80, .v (.slice s.pairs.A s.pairs.n s.pairs.c)), (79, .p 0 2), (76, vS (s.pairs.at i1).name), (75, .v (.pointer (some ((s.pairs.ad.add (i1 * 3)).add 0)))), (74, .v (.pointer (some (s.pairs.ad.add (i1 * 3))))), (73, vI ((i1 : Nat) : Int)), (72, .v (.slice s.pairs.A s.pairs.n s.pairs.c)), (71, .p 0 2), (70, vS u1), (67, vB true), (5, vS u1), (8, vI ((i1 : Nat) : Int)), (1, .p 0 0)] [(u1 ++ (mTextB (s.pairs.at i1).name)).size + (mTextB (s.pairs.at i1).value).size ≤ 9223372036854775807] [] rfl (by kernel_rfl) (oc (by first | omega | (simp only [ByteArray.size_append]; omega)) on) wn ?_
            refine h_local ⟨[(93, .s 1 0 1 1), (86, vS ((u1 ++ (mTextB (s.pairs.at i1).name)) ++ (mTextB (s.pairs.at i1).value))), (85, vS (mTextB (s.pairs.at i1).value)), (78, vS (u1 ++ (mTextB (s.pairs.at i1).name))), (77, vS (mTextB (s.pairs.at i1).name)), (92, vI (s.pairs.at i1).version), (91, .v (.pointer (some ((s.pairs.ad.add (i1 * 3)).add 2)))), (90, .v (.pointer (some (s.pairs.ad.add (i1 * 3))))), (89, vI ((i1 : Nat) : Int)), (88, .v (.slice s.pairs.A s.pairs.n s.pairs.c)), (87, .p 0 2), (84, vS (s.pairs.at i1).value), (83, .v (.pointer (some ((s.pairs.ad.add (i1 * 3)).add 1)))), (82, .v (.pointer (some (s.pairs.ad.add (i1 * 3))))), (81, vI ((i1 : Nat) : Int)), (80, .v (.slice s.pairs.A s.pairs.n s.pairs.c)), (79, .p 0 2), (76, vS (s.pairs.at i1).name), (75, .v (.pointer (some ((s.pairs.ad.add (i1 * 3)).add 0)))), (74, .v (.pointer (some (s.pairs.ad.add (i1 * 3))))), (73, vI ((i1 : Nat) : Int)), (72, .v (.slice s.pairs.A s.pairs.n s.pairs.c)), (71, .p 0 2), (70, vS u1), (67, vB true), (5, vS u1), (8, vI ((i1 : Nat) : Int)), (1, .p 0 0)], [⟨48, [vI s.index, .v (.slice s.locks.A s.locks.n s.locks.c), .v (.slice s.pairs.A s.pairs.n s.pairs.c), .v (.slice s.sessions.A s.sessions.n s.sessions.c)]⟩, ⟨3, [vI (s.pairs.at i1).version]⟩]⟩ (by kernel_rfl) (fun bs0 bs w hp hl hS => hS.down hp hl rfl (le_same le_nil) .slnil) ?_
            have hzj11 := mNums_size [((s.pairs.at i1).version : Int)]
            simp only [List.length_cons, List.length_nil] at hzj11
            refine h_pure 74 [] [.s 1 0 1 1] (.string (mNums [((s.pairs.at i1).version : Int)])) rfl Try.call74 rfl rfl rfl rfl (fun bs w hS => ref_joined (⟨some ⟨bs.getD 1 0, 0, none⟩, 1, [((s.pairs.at i1).version : Int)]⟩ : Sl Int) w (rd_local [((s.pairs.at i1).version : Int)] (hS.loc 1 _ rfl (by simp)) (by simp)) (by show 1 ≤ 1048576; omega)) (fun bs0 bs w hp hl hS => hS.down hp hl rfl (le_same le_nil) .slnil) ?_
            refine h_quiet [] [(25, true), (26, true)] [(5, vS (((u1 ++ (mTextB (s.pairs.at i1).name)) ++ (mTextB (s.pairs.at i1).value)) ++ (mNums [((s.pairs.at i1).version : Int)]))), (95, vS (((u1 ++ (mTextB (s.pairs.at i1).name)) ++ (mTextB (s.pairs.at i1).value)) ++ (mNums [((s.pairs.at i1).version : Int)]))), (94, vS (mNums [((s.pairs.at i1).version : Int)])), (93, .s 1 0 1 1), (86, vS ((u1 ++ (mTextB (s.pairs.at i1).name)) ++ (mTextB (s.pairs.at i1).value))), (85, vS (mTextB (s.pairs.at i1).value)), (78, vS (u1 ++ (mTextB (s.pairs.at i1).name))), (77, vS (mTextB (s.pairs.at i1).name)), (92, vI (s.pairs.at i1).version), (91, .v (.pointer (some ((s.pairs.ad.add (i1 * 3)).add 2)))), (90, .v (.pointer (some (s.pairs.ad.add (i1 * 3))))), (89, vI ((i1 : Nat) : Int)), (88, .v (.slice s.pairs.A s.pairs.n s.pairs.c)), (87, .p 0 2), (84, vS (s.pairs.at i1).value), (83, .v (.pointer (some ((s.pairs.ad.add (i1 * 3)).add 1)))), (82, .v (.pointer (some (s.pairs.ad.add (i1 * 3))))), (81, vI ((i1 : Nat) : Int)), (80, .v (.slice s.pairs.A s.pairs.n s.pairs.c)), (79, .p 0 2), (76, vS (s.pairs.at i1).name), (75, .v (.pointer (some ((s.pairs.ad.add (i1 * 3)).add 0)))), (74, .v (.pointer (some (s.pairs.ad.add (i1 * 3))))), (73, vI ((i1 : Nat) : Int)), (72, .v (.slice s.pairs.A s.pairs.n s.pairs.c)), (71, .p 0 2), (70, vS u1), (67, vB true), (8, vI ((i1 : Nat) : Int)), (1, .p 0 0)] [((u1 ++ (mTextB (s.pairs.at i1).name)) ++ (mTextB (s.pairs.at i1).value)).size + (mNums [((s.pairs.at i1).version : Int)]).size ≤ 9223372036854775807] [] rfl (by kernel_rfl) (oc (by first | omega | (simp only [ByteArray.size_append]; omega)) on) wn ?_
            refine h_nil ?_
            refine l_nil (q_block_normal (q_then_normal ?_))
            refine c_region ?_
            refine JL_run 3 [] [8, 5, 1] 1 ⟨[(8, vI (((i1 : Nat) : Int) + 1)), (5, vS (((u1 ++ (mTextB (s.pairs.at i1).name)) ++ (mTextB (s.pairs.at i1).value)) ++ (mNums [((s.pairs.at i1).version : Int)]))), (1, .p 0 0)], [⟨48, [vI s.index, .v (.slice s.locks.A s.locks.n s.locks.c), .v (.slice s.pairs.A s.pairs.n s.pairs.c), .v (.slice s.sessions.A s.sessions.n s.sessions.c)]⟩]⟩ [inR (((i1 : Nat) : Int) + 1)] [] (by kernel_rfl) (oc (by unfold inR; omega) on) wn ?_
            have hst1 : ((u1 ++ (mTextB (s.pairs.at i1).name)) ++ (mTextB (s.pairs.at i1).value)) ++ (mNums [((s.pairs.at i1).version : Int)]) = pairS u1 (s.pairs.xs.getD i1 default) := by
              rfl
            have hzz1 : (((u1 ++ (mTextB (s.pairs.at i1).name)) ++ (mTextB (s.pairs.at i1).value)) ++ (mNums [((s.pairs.at i1).version : Int)])).size ≤ 30000 + (i1 + 1) * 10100 := by simp only [ByteArray.size_append]; omega
            refine l_nil (q_loop (x := (⟨i1, u1⟩ : Nat × ByteArray)) (⟨i1 + 1, ((u1 ++ (mTextB (s.pairs.at i1).name)) ++ (mTextB (s.pairs.at i1).value)) ++ (mNums [((s.pairs.at i1).version : Int)])⟩ : Nat × ByteArray) ⟨by show i1 + 1 ≤ s.pairs.n; omega, by show _ = (s.pairs.xs.take (i1 + 1)).foldl pairS z1; rw [hst1, hI1]; exact (foldl_take (i := i1) _ _ s.pairs.xs (by omega)).symm, hzz1⟩ (by show s.pairs.n - (i1 + 1) < s.pairs.n - i1; omega) (s_start [5, 8, 1] 1 (by kernel_rfl) rfl))
          ·
            refine h_local ⟨[(93, .s 1 0 1 1), (78, vS (u1 ++ (mTextB (s.pairs.at i1).name))), (77, vS (mTextB (s.pairs.at i1).name)), (92, vI (s.pairs.at i1).version), (91, .v (.pointer (some ((s.pairs.ad.add (i1 * 3)).add 2)))), (90, .v (.pointer (some (s.pairs.ad.add (i1 * 3))))), (89, vI ((i1 : Nat) : Int)), (88, .v (.slice s.pairs.A s.pairs.n s.pairs.c)), (87, .p 0 2), (84, vS (s.pairs.at i1).value), (83, .v (.pointer (some ((s.pairs.ad.add (i1 * 3)).add 1)))), (82, .v (.pointer (some (s.pairs.ad.add (i1 * 3))))), (81, vI ((i1 : Nat) : Int)), (80, .v (.slice s.pairs.A s.pairs.n s.pairs.c)), (79, .p 0 2), (76, vS (s.pairs.at i1).name), (75, .v (.pointer (some ((s.pairs.ad.add (i1 * 3)).add 0)))), (74, .v (.pointer (some (s.pairs.ad.add (i1 * 3))))), (73, vI ((i1 : Nat) : Int)), (72, .v (.slice s.pairs.A s.pairs.n s.pairs.c)), (71, .p 0 2), (70, vS u1), (67, vB true), (5, vS u1), (8, vI ((i1 : Nat) : Int)), (1, .p 0 0)], [⟨48, [vI s.index, .v (.slice s.locks.A s.locks.n s.locks.c), .v (.slice s.pairs.A s.pairs.n s.pairs.c), .v (.slice s.sessions.A s.sessions.n s.sessions.c)]⟩, ⟨3, [vI (s.pairs.at i1).version]⟩]⟩ (by kernel_rfl) (fun bs0 bs w hp hl hS => hS.down hp hl rfl (le_same le_nil) .slnil) ?_
            have hzt12 := mTextB_size (s.pairs.at i1).value
            refine h_pure 75 [] [vS (s.pairs.at i1).value] (.string (mTextB (s.pairs.at i1).value)) rfl Try.call75 rfl rfl rfl rfl (fun bs w hS => ref_worded _ w (And.right (Sl.ok.at (s := s.pairs) (i := i1) (And.left (And.right okx)) (by omega)))) (fun bs0 bs w hp hl hS => hS.down hp hl rfl (le_same le_nil) .slnil) ?_
            refine h_quiet [] [(16, true)] [(86, vS ((u1 ++ (mTextB (s.pairs.at i1).name)) ++ (mTextB (s.pairs.at i1).value))), (85, vS (mTextB (s.pairs.at i1).value)), (93, .s 1 0 1 1), (78, vS (u1 ++ (mTextB (s.pairs.at i1).name))), (77, vS (mTextB (s.pairs.at i1).name)), (92, vI (s.pairs.at i1).version), (91, .v (.pointer (some ((s.pairs.ad.add (i1 * 3)).add 2)))), (90, .v (.pointer (some (s.pairs.ad.add (i1 * 3))))), (89, vI ((i1 : Nat) : Int)), (88, .v (.slice s.pairs.A s.pairs.n s.pairs.c)), (87, .p 0 2), (84, vS (s.pairs.at i1).value), (83, .v (.pointer (some ((s.pairs.ad.add (i1 * 3)).add 1)))), (82, .v (.pointer (some (s.pairs.ad.add (i1 * 3))))), (81, vI ((i1 : Nat) : Int)), (80, .v (.slice s.pairs.A s.pairs.n s.pairs.c)), (79, .p 0 2), (76, vS (s.pairs.at i1).name), (75, .v (.pointer (some ((s.pairs.ad.add (i1 * 3)).add 0)))), (74, .v (.pointer (some (s.pairs.ad.add (i1 * 3))))), (73, vI ((i1 : Nat) : Int)), (72, .v (.slice s.pairs.A s.pairs.n s.pairs.c)), (71, .p 0 2), (70, vS u1), (67, vB true), (5, vS u1), (8, vI ((i1 : Nat) : Int)), (1, .p 0 0)] [(u1 ++ (mTextB (s.pairs.at i1).name)).size + (mTextB (s.pairs.at i1).value).size ≤ 9223372036854775807] [] rfl (by kernel_rfl) (oc (by first | omega | (simp only [ByteArray.size_append]; omega)) on) wn ?_
            have hzj13 := mNums_size [((s.pairs.at i1).version : Int)]
            simp only [List.length_cons, List.length_nil] at hzj13
            refine h_pure 74 [] [.s 1 0 1 1] (.string (mNums [((s.pairs.at i1).version : Int)])) rfl Try.call74 rfl rfl rfl rfl (fun bs w hS => ref_joined (⟨some ⟨bs.getD 1 0, 0, none⟩, 1, [((s.pairs.at i1).version : Int)]⟩ : Sl Int) w (rd_local [((s.pairs.at i1).version : Int)] (hS.loc 1 _ rfl (by simp)) (by simp)) (by show 1 ≤ 1048576; omega)) (fun bs0 bs w hp hl hS => hS.down hp hl rfl (le_same le_nil) .slnil) ?_
            refine h_quiet [] [(25, true), (26, true)] [(5, vS (((u1 ++ (mTextB (s.pairs.at i1).name)) ++ (mTextB (s.pairs.at i1).value)) ++ (mNums [((s.pairs.at i1).version : Int)]))), (95, vS (((u1 ++ (mTextB (s.pairs.at i1).name)) ++ (mTextB (s.pairs.at i1).value)) ++ (mNums [((s.pairs.at i1).version : Int)]))), (94, vS (mNums [((s.pairs.at i1).version : Int)])), (86, vS ((u1 ++ (mTextB (s.pairs.at i1).name)) ++ (mTextB (s.pairs.at i1).value))), (85, vS (mTextB (s.pairs.at i1).value)), (93, .s 1 0 1 1), (78, vS (u1 ++ (mTextB (s.pairs.at i1).name))), (77, vS (mTextB (s.pairs.at i1).name)), (92, vI (s.pairs.at i1).version), (91, .v (.pointer (some ((s.pairs.ad.add (i1 * 3)).add 2)))), (90, .v (.pointer (some (s.pairs.ad.add (i1 * 3))))), (89, vI ((i1 : Nat) : Int)), (88, .v (.slice s.pairs.A s.pairs.n s.pairs.c)), (87, .p 0 2), (84, vS (s.pairs.at i1).value), (83, .v (.pointer (some ((s.pairs.ad.add (i1 * 3)).add 1)))), (82, .v (.pointer (some (s.pairs.ad.add (i1 * 3))))), (81, vI ((i1 : Nat) : Int)), (80, .v (.slice s.pairs.A s.pairs.n s.pairs.c)), (79, .p 0 2), (76, vS (s.pairs.at i1).name), (75, .v (.pointer (some ((s.pairs.ad.add (i1 * 3)).add 0)))), (74, .v (.pointer (some (s.pairs.ad.add (i1 * 3))))), (73, vI ((i1 : Nat) : Int)), (72, .v (.slice s.pairs.A s.pairs.n s.pairs.c)), (71, .p 0 2), (70, vS u1), (67, vB true), (8, vI ((i1 : Nat) : Int)), (1, .p 0 0)] [((u1 ++ (mTextB (s.pairs.at i1).name)) ++ (mTextB (s.pairs.at i1).value)).size + (mNums [((s.pairs.at i1).version : Int)]).size ≤ 9223372036854775807] [] rfl (by kernel_rfl) (oc (by first | omega | (simp only [ByteArray.size_append]; omega)) on) wn ?_
            refine h_nil ?_
            refine l_nil (q_block_normal (q_then_normal ?_))
            refine c_region ?_
            refine JL_run 3 [] [8, 5, 1] 1 ⟨[(8, vI (((i1 : Nat) : Int) + 1)), (5, vS (((u1 ++ (mTextB (s.pairs.at i1).name)) ++ (mTextB (s.pairs.at i1).value)) ++ (mNums [((s.pairs.at i1).version : Int)]))), (1, .p 0 0)], [⟨48, [vI s.index, .v (.slice s.locks.A s.locks.n s.locks.c), .v (.slice s.pairs.A s.pairs.n s.pairs.c), .v (.slice s.sessions.A s.sessions.n s.sessions.c)]⟩]⟩ [inR (((i1 : Nat) : Int) + 1)] [] (by kernel_rfl) (oc (by unfold inR; omega) on) wn ?_
            have hst1 : ((u1 ++ (mTextB (s.pairs.at i1).name)) ++ (mTextB (s.pairs.at i1).value)) ++ (mNums [((s.pairs.at i1).version : Int)]) = pairS u1 (s.pairs.xs.getD i1 default) := by
              rfl
            have hzz1 : (((u1 ++ (mTextB (s.pairs.at i1).name)) ++ (mTextB (s.pairs.at i1).value)) ++ (mNums [((s.pairs.at i1).version : Int)])).size ≤ 30000 + (i1 + 1) * 10100 := by simp only [ByteArray.size_append]; omega
            refine l_nil (q_loop (x := (⟨i1, u1⟩ : Nat × ByteArray)) (⟨i1 + 1, ((u1 ++ (mTextB (s.pairs.at i1).name)) ++ (mTextB (s.pairs.at i1).value)) ++ (mNums [((s.pairs.at i1).version : Int)])⟩ : Nat × ByteArray) ⟨by show i1 + 1 ≤ s.pairs.n; omega, by show _ = (s.pairs.xs.take (i1 + 1)).foldl pairS z1; rw [hst1, hI1]; exact (foldl_take (i := i1) _ _ s.pairs.xs (by omega)).symm, hzz1⟩ (by show s.pairs.n - (i1 + 1) < s.pairs.n - i1; omega) (s_start [5, 8, 1] 1 (by kernel_rfl) rfl))
        ·
          refine h_local ⟨[(93, .s 1 0 1 1), (92, vI (s.pairs.at i1).version), (91, .v (.pointer (some ((s.pairs.ad.add (i1 * 3)).add 2)))), (90, .v (.pointer (some (s.pairs.ad.add (i1 * 3))))), (89, vI ((i1 : Nat) : Int)), (88, .v (.slice s.pairs.A s.pairs.n s.pairs.c)), (87, .p 0 2), (84, vS (s.pairs.at i1).value), (83, .v (.pointer (some ((s.pairs.ad.add (i1 * 3)).add 1)))), (82, .v (.pointer (some (s.pairs.ad.add (i1 * 3))))), (81, vI ((i1 : Nat) : Int)), (80, .v (.slice s.pairs.A s.pairs.n s.pairs.c)), (79, .p 0 2), (76, vS (s.pairs.at i1).name), (75, .v (.pointer (some ((s.pairs.ad.add (i1 * 3)).add 0)))), (74, .v (.pointer (some (s.pairs.ad.add (i1 * 3))))), (73, vI ((i1 : Nat) : Int)), (72, .v (.slice s.pairs.A s.pairs.n s.pairs.c)), (71, .p 0 2), (70, vS u1), (67, vB true), (5, vS u1), (8, vI ((i1 : Nat) : Int)), (1, .p 0 0)], [⟨48, [vI s.index, .v (.slice s.locks.A s.locks.n s.locks.c), .v (.slice s.pairs.A s.pairs.n s.pairs.c), .v (.slice s.sessions.A s.sessions.n s.sessions.c)]⟩, ⟨3, [vI (s.pairs.at i1).version]⟩]⟩ (by kernel_rfl) (fun bs0 bs w hp hl hS => hS.down hp hl rfl (le_same le_nil) .slnil) ?_
          have hzt14 := mTextB_size (s.pairs.at i1).name
          refine h_pure 75 [] [vS (s.pairs.at i1).name] (.string (mTextB (s.pairs.at i1).name)) rfl Try.call75 rfl rfl rfl rfl (fun bs w hS => ref_worded _ w (And.left (Sl.ok.at (s := s.pairs) (i := i1) (And.left (And.right okx)) (by omega)))) (fun bs0 bs w hp hl hS => hS.down hp hl rfl (le_same le_nil) .slnil) ?_
          refine h_quiet [] [(8, true)] [(78, vS (u1 ++ (mTextB (s.pairs.at i1).name))), (77, vS (mTextB (s.pairs.at i1).name)), (93, .s 1 0 1 1), (92, vI (s.pairs.at i1).version), (91, .v (.pointer (some ((s.pairs.ad.add (i1 * 3)).add 2)))), (90, .v (.pointer (some (s.pairs.ad.add (i1 * 3))))), (89, vI ((i1 : Nat) : Int)), (88, .v (.slice s.pairs.A s.pairs.n s.pairs.c)), (87, .p 0 2), (84, vS (s.pairs.at i1).value), (83, .v (.pointer (some ((s.pairs.ad.add (i1 * 3)).add 1)))), (82, .v (.pointer (some (s.pairs.ad.add (i1 * 3))))), (81, vI ((i1 : Nat) : Int)), (80, .v (.slice s.pairs.A s.pairs.n s.pairs.c)), (79, .p 0 2), (76, vS (s.pairs.at i1).name), (75, .v (.pointer (some ((s.pairs.ad.add (i1 * 3)).add 0)))), (74, .v (.pointer (some (s.pairs.ad.add (i1 * 3))))), (73, vI ((i1 : Nat) : Int)), (72, .v (.slice s.pairs.A s.pairs.n s.pairs.c)), (71, .p 0 2), (70, vS u1), (67, vB true), (5, vS u1), (8, vI ((i1 : Nat) : Int)), (1, .p 0 0)] [u1.size + (mTextB (s.pairs.at i1).name).size ≤ 9223372036854775807] [] rfl (by kernel_rfl) (oc (by first | omega | (simp only [ByteArray.size_append]; omega)) on) wn ?_
          have hzt15 := mTextB_size (s.pairs.at i1).value
          refine h_pure 75 [] [vS (s.pairs.at i1).value] (.string (mTextB (s.pairs.at i1).value)) rfl Try.call75 rfl rfl rfl rfl (fun bs w hS => ref_worded _ w (And.right (Sl.ok.at (s := s.pairs) (i := i1) (And.left (And.right okx)) (by omega)))) (fun bs0 bs w hp hl hS => hS.down hp hl rfl (le_same le_nil) .slnil) ?_
          refine h_quiet [] [(16, true)] [(86, vS ((u1 ++ (mTextB (s.pairs.at i1).name)) ++ (mTextB (s.pairs.at i1).value))), (85, vS (mTextB (s.pairs.at i1).value)), (78, vS (u1 ++ (mTextB (s.pairs.at i1).name))), (77, vS (mTextB (s.pairs.at i1).name)), (93, .s 1 0 1 1), (92, vI (s.pairs.at i1).version), (91, .v (.pointer (some ((s.pairs.ad.add (i1 * 3)).add 2)))), (90, .v (.pointer (some (s.pairs.ad.add (i1 * 3))))), (89, vI ((i1 : Nat) : Int)), (88, .v (.slice s.pairs.A s.pairs.n s.pairs.c)), (87, .p 0 2), (84, vS (s.pairs.at i1).value), (83, .v (.pointer (some ((s.pairs.ad.add (i1 * 3)).add 1)))), (82, .v (.pointer (some (s.pairs.ad.add (i1 * 3))))), (81, vI ((i1 : Nat) : Int)), (80, .v (.slice s.pairs.A s.pairs.n s.pairs.c)), (79, .p 0 2), (76, vS (s.pairs.at i1).name), (75, .v (.pointer (some ((s.pairs.ad.add (i1 * 3)).add 0)))), (74, .v (.pointer (some (s.pairs.ad.add (i1 * 3))))), (73, vI ((i1 : Nat) : Int)), (72, .v (.slice s.pairs.A s.pairs.n s.pairs.c)), (71, .p 0 2), (70, vS u1), (67, vB true), (5, vS u1), (8, vI ((i1 : Nat) : Int)), (1, .p 0 0)] [(u1 ++ (mTextB (s.pairs.at i1).name)).size + (mTextB (s.pairs.at i1).value).size ≤ 9223372036854775807] [] rfl (by kernel_rfl) (oc (by first | omega | (simp only [ByteArray.size_append]; omega)) on) wn ?_
          have hzj16 := mNums_size [((s.pairs.at i1).version : Int)]
          simp only [List.length_cons, List.length_nil] at hzj16
          refine h_pure 74 [] [.s 1 0 1 1] (.string (mNums [((s.pairs.at i1).version : Int)])) rfl Try.call74 rfl rfl rfl rfl (fun bs w hS => ref_joined (⟨some ⟨bs.getD 1 0, 0, none⟩, 1, [((s.pairs.at i1).version : Int)]⟩ : Sl Int) w (rd_local [((s.pairs.at i1).version : Int)] (hS.loc 1 _ rfl (by simp)) (by simp)) (by show 1 ≤ 1048576; omega)) (fun bs0 bs w hp hl hS => hS.down hp hl rfl (le_same le_nil) .slnil) ?_
          refine h_quiet [] [(25, true), (26, true)] [(5, vS (((u1 ++ (mTextB (s.pairs.at i1).name)) ++ (mTextB (s.pairs.at i1).value)) ++ (mNums [((s.pairs.at i1).version : Int)]))), (95, vS (((u1 ++ (mTextB (s.pairs.at i1).name)) ++ (mTextB (s.pairs.at i1).value)) ++ (mNums [((s.pairs.at i1).version : Int)]))), (94, vS (mNums [((s.pairs.at i1).version : Int)])), (86, vS ((u1 ++ (mTextB (s.pairs.at i1).name)) ++ (mTextB (s.pairs.at i1).value))), (85, vS (mTextB (s.pairs.at i1).value)), (78, vS (u1 ++ (mTextB (s.pairs.at i1).name))), (77, vS (mTextB (s.pairs.at i1).name)), (93, .s 1 0 1 1), (92, vI (s.pairs.at i1).version), (91, .v (.pointer (some ((s.pairs.ad.add (i1 * 3)).add 2)))), (90, .v (.pointer (some (s.pairs.ad.add (i1 * 3))))), (89, vI ((i1 : Nat) : Int)), (88, .v (.slice s.pairs.A s.pairs.n s.pairs.c)), (87, .p 0 2), (84, vS (s.pairs.at i1).value), (83, .v (.pointer (some ((s.pairs.ad.add (i1 * 3)).add 1)))), (82, .v (.pointer (some (s.pairs.ad.add (i1 * 3))))), (81, vI ((i1 : Nat) : Int)), (80, .v (.slice s.pairs.A s.pairs.n s.pairs.c)), (79, .p 0 2), (76, vS (s.pairs.at i1).name), (75, .v (.pointer (some ((s.pairs.ad.add (i1 * 3)).add 0)))), (74, .v (.pointer (some (s.pairs.ad.add (i1 * 3))))), (73, vI ((i1 : Nat) : Int)), (72, .v (.slice s.pairs.A s.pairs.n s.pairs.c)), (71, .p 0 2), (70, vS u1), (67, vB true), (8, vI ((i1 : Nat) : Int)), (1, .p 0 0)] [((u1 ++ (mTextB (s.pairs.at i1).name)) ++ (mTextB (s.pairs.at i1).value)).size + (mNums [((s.pairs.at i1).version : Int)]).size ≤ 9223372036854775807] [] rfl (by kernel_rfl) (oc (by first | omega | (simp only [ByteArray.size_append]; omega)) on) wn ?_
          refine h_nil ?_
          refine l_nil (q_block_normal (q_then_normal ?_))
          refine c_region ?_
          refine JL_run 3 [] [8, 5, 1] 1 ⟨[(8, vI (((i1 : Nat) : Int) + 1)), (5, vS (((u1 ++ (mTextB (s.pairs.at i1).name)) ++ (mTextB (s.pairs.at i1).value)) ++ (mNums [((s.pairs.at i1).version : Int)]))), (1, .p 0 0)], [⟨48, [vI s.index, .v (.slice s.locks.A s.locks.n s.locks.c), .v (.slice s.pairs.A s.pairs.n s.pairs.c), .v (.slice s.sessions.A s.sessions.n s.sessions.c)]⟩]⟩ [inR (((i1 : Nat) : Int) + 1)] [] (by kernel_rfl) (oc (by unfold inR; omega) on) wn ?_
          have hst1 : ((u1 ++ (mTextB (s.pairs.at i1).name)) ++ (mTextB (s.pairs.at i1).value)) ++ (mNums [((s.pairs.at i1).version : Int)]) = pairS u1 (s.pairs.xs.getD i1 default) := by
            rfl
          have hzz1 : (((u1 ++ (mTextB (s.pairs.at i1).name)) ++ (mTextB (s.pairs.at i1).value)) ++ (mNums [((s.pairs.at i1).version : Int)])).size ≤ 30000 + (i1 + 1) * 10100 := by simp only [ByteArray.size_append]; omega
          refine l_nil (q_loop (x := (⟨i1, u1⟩ : Nat × ByteArray)) (⟨i1 + 1, ((u1 ++ (mTextB (s.pairs.at i1).name)) ++ (mTextB (s.pairs.at i1).value)) ++ (mNums [((s.pairs.at i1).version : Int)])⟩ : Nat × ByteArray) ⟨by show i1 + 1 ≤ s.pairs.n; omega, by show _ = (s.pairs.xs.take (i1 + 1)).foldl pairS z1; rw [hst1, hI1]; exact (foldl_take (i := i1) _ _ s.pairs.xs (by omega)).symm, hzz1⟩ (by show s.pairs.n - (i1 + 1) < s.pairs.n - i1; omega) (s_start [5, 8, 1] 1 (by kernel_rfl) rfl))
      | false =>
        have h3 := of_decide_eq_false h3
        refine c_if false rfl ?_
        refine c_exit ?_
        refine q_then_exit (q_then_exit (q_block_hit (q_then_normal ?_)))
        refine c_seq ?_
        refine c_region ?_
        refine JL_run 5 [] [100, 96, 1] 2 ⟨[(100, .s 1 0 1 1), (96, vS u1), (1, .p 0 0)], [⟨48, [vI s.index, .v (.slice s.locks.A s.locks.n s.locks.c), .v (.slice s.pairs.A s.pairs.n s.pairs.c), .v (.slice s.sessions.A s.sessions.n s.sessions.c)]⟩, ⟨3, [vI ((s.sessions.n : Nat) : Int)]⟩]⟩ [] [] (by kernel_rfl) on wn ?_
        have hzj17 := mNums_size [(((s.sessions.n : Nat) : Int) : Int)]
        simp only [List.length_cons, List.length_nil] at hzj17
        refine l_pure 74 [] [.s 1 0 1 1] (.string (mNums [(((s.sessions.n : Nat) : Int) : Int)])) Try.call74 rfl rfl rfl rfl (fun bs w hS => ref_joined (⟨some ⟨bs.getD 1 0, 0, none⟩, 1, [(((s.sessions.n : Nat) : Int) : Int)]⟩ : Sl Int) w (rd_local [(((s.sessions.n : Nat) : Int) : Int)] (hS.loc 1 _ rfl (by simp)) (by simp)) (by show 1 ≤ 1048576; omega)) ?_
        refine JL_run 2 [] [5, 1] 1 ⟨[(5, vS (u1 ++ (mNums [(((s.sessions.n : Nat) : Int) : Int)]))), (1, .p 0 0)], [⟨48, [vI s.index, .v (.slice s.locks.A s.locks.n s.locks.c), .v (.slice s.pairs.A s.pairs.n s.pairs.c), .v (.slice s.sessions.A s.sessions.n s.sessions.c)]⟩]⟩ [u1.size + (mNums [(((s.sessions.n : Nat) : Int) : Int)]).size ≤ 9223372036854775807] [] (by kernel_rfl) (oc (by first | omega | (simp only [ByteArray.size_append]; omega)) on) wn ?_
        refine l_nil (q_then_normal ?_)
        refine c_seq ?_
        refine c_seq ?_
        refine c_region ?_
        refine JL_run 1 [] [9, 5, 1] 1 ⟨[(9, vI 0), (5, vS (u1 ++ (mNums [(((s.sessions.n : Nat) : Int) : Int)]))), (1, .p 0 0)], [⟨48, [vI s.index, .v (.slice s.locks.A s.locks.n s.locks.c), .v (.slice s.pairs.A s.pairs.n s.pairs.c), .v (.slice s.sessions.A s.sessions.n s.sessions.c)]⟩]⟩ [] [] (by kernel_rfl) on wn ?_
        refine l_nil (q_then_normal ?_)
        refine c_block ?_
        have hz02 : (u1 ++ (mNums [(((s.sessions.n : Nat) : Int) : Int)])).size ≤ 100000 := by first | omega | (simp only [ByteArray.size_append]; omega)
        generalize hu2 : u1 ++ (mNums [(((s.sessions.n : Nat) : Int) : Int)]) = z2 at hz02 ⊢
        refine c_loop (σ := Nat × ByteArray) (fun ⟨i2, u2⟩ => i2 ≤ s.sessions.n ∧ u2 = (s.abs.sessions.take i2).foldl sessS z2 ∧ u2.size ≤ 100000 + i2 * 30000) (fun ⟨i2, u2⟩ => s.sessions.n - i2) (fun ⟨i2, u2⟩ => []) (fun ⟨i2, u2⟩ => ⟨[(5, vS u2), (9, vI ((i2 : Nat) : Int)), (1, .p 0 0)], [⟨48, [vI s.index, .v (.slice s.locks.A s.locks.n s.locks.c), .v (.slice s.pairs.A s.pairs.n s.pairs.c), .v (.slice s.sessions.A s.sessions.n s.sessions.c)]⟩]⟩) ⟨0, z2⟩ ⟨Nat.zero_le _, rfl, by show z2.size ≤ 100000 + 0 * 30000; omega⟩ (s_start [5, 9, 1] 1 (by kernel_rfl) rfl) ?_
        rintro ⟨i2, u2⟩ ⟨hi2, hI2, hz_2⟩
        have hb5i := hb5 i2
        have hnr : (s.sessions.at i2).replies.n = (s.sessions.at i2).replies.xs.length := rfl
        refine c_seq ?_
        refine c_seq ?_
        refine c_region ?_
        refine JL_run 5 [] [107, 5, 9, 1] 1 ⟨[(107, vB (decide (((i2 : Nat) : Int) < ((s.sessions.n : Nat) : Int)))), (5, vS u2), (9, vI ((i2 : Nat) : Int)), (1, .p 0 0)], [⟨48, [vI s.index, .v (.slice s.locks.A s.locks.n s.locks.c), .v (.slice s.pairs.A s.pairs.n s.pairs.c), .v (.slice s.sessions.A s.sessions.n s.sessions.c)]⟩]⟩ [] [] (by kernel_rfl) on wn ?_
        refine l_nil (q_then_normal ?_)
        cases h4 : decide (((i2 : Nat) : Int) < ((s.sessions.n : Nat) : Int)) with
        | true =>
          have h4 := of_decide_eq_true h4
          refine c_if true rfl ?_
          refine c_skip ?_
          refine q_then_normal ?_
          refine c_seq ?_
          refine c_block ?_
          refine c_seq ?_
          refine c_region ?_
          refine JL_run 7 [(3, .idx s.sessions.ad i2), (4, .ext [.int .i64 (s.sessions.at i2).client, .int .i64 (s.sessions.at i2).id, .int .i64 (s.sessions.at i2).acked, .int .i64 (s.sessions.at i2).last, .slice (s.sessions.at i2).replies.A (s.sessions.at i2).replies.n (s.sessions.at i2).replies.c])] [10, 5, 9, 1] 2 ⟨[(10, .p 1 0), (5, vS u2), (9, vI ((i2 : Nat) : Int)), (1, .p 0 0)], [⟨48, [vI s.index, .v (.slice s.locks.A s.locks.n s.locks.c), .v (.slice s.pairs.A s.pairs.n s.pairs.c), .v (.slice s.sessions.A s.sessions.n s.sessions.c)]⟩, ⟨113, [vI (s.sessions.at i2).client, vI (s.sessions.at i2).id, vI (s.sessions.at i2).acked, vI (s.sessions.at i2).last, .v (.slice (s.sessions.at i2).replies.A (s.sessions.at i2).replies.n (s.sessions.at i2).replies.c)]⟩]⟩ [s.sessions.A = some s.sessions.ad, ((i2 : Nat) : Int) = ((i2 : Nat) : Int), i2 < s.sessions.n] [(s.sessions.ad.add (i2 * 5), [.int .i64 (s.sessions.at i2).client, .int .i64 (s.sessions.at i2).id, .int .i64 (s.sessions.at i2).acked, .int .i64 (s.sessions.at i2).last, .slice (s.sessions.at i2).replies.A (s.sessions.at i2).replies.n (s.sessions.at i2).replies.c])] (by kernel_rfl) (oc (Sl.ok.own (s := s.sessions) (i := i2) (And.right (And.right okx)) (by omega)) (oc rfl (oc (by omega) on))) (fun w hk hr => ⟨(Sl.rd.all (s := s.sessions) (i := i2) (And.right (And.right (Rds.kp hs hk))) (by omega) rfl), trivial⟩) ?_
          refine l_nil (q_then_normal ?_)
          refine c_seq ?_
          refine c_region ?_
          refine JL_run 13 [] [127, 115, 10, 9, 1] 3 ⟨[(127, .s 2 0 5 5), (115, vS u2), (10, .p 1 0), (9, vI ((i2 : Nat) : Int)), (1, .p 0 0)], [⟨48, [vI s.index, .v (.slice s.locks.A s.locks.n s.locks.c), .v (.slice s.pairs.A s.pairs.n s.pairs.c), .v (.slice s.sessions.A s.sessions.n s.sessions.c)]⟩, ⟨113, [vI (s.sessions.at i2).client, vI (s.sessions.at i2).id, vI (s.sessions.at i2).acked, vI (s.sessions.at i2).last, .v (.slice (s.sessions.at i2).replies.A (s.sessions.at i2).replies.n (s.sessions.at i2).replies.c)]⟩, ⟨3, [vI (s.sessions.at i2).client, vI (s.sessions.at i2).id, vI (s.sessions.at i2).acked, vI (s.sessions.at i2).last, vI (((s.sessions.at i2).replies.n : Nat) : Int)]⟩]⟩ [] [] (by kernel_rfl) on wn ?_
          have hzj18 := mNums_size [((s.sessions.at i2).client : Int), ((s.sessions.at i2).id : Int), ((s.sessions.at i2).acked : Int), ((s.sessions.at i2).last : Int), ((((s.sessions.at i2).replies.n : Nat) : Int) : Int)]
          simp only [List.length_cons, List.length_nil] at hzj18
          refine l_pure 74 [] [.s 2 0 5 5] (.string (mNums [((s.sessions.at i2).client : Int), ((s.sessions.at i2).id : Int), ((s.sessions.at i2).acked : Int), ((s.sessions.at i2).last : Int), ((((s.sessions.at i2).replies.n : Nat) : Int) : Int)])) Try.call74 rfl rfl rfl rfl (fun bs w hS => ref_joined (⟨some ⟨bs.getD 2 0, 0, none⟩, 5, [((s.sessions.at i2).client : Int), ((s.sessions.at i2).id : Int), ((s.sessions.at i2).acked : Int), ((s.sessions.at i2).last : Int), ((((s.sessions.at i2).replies.n : Nat) : Int) : Int)]⟩ : Sl Int) w (rd_local [((s.sessions.at i2).client : Int), ((s.sessions.at i2).id : Int), ((s.sessions.at i2).acked : Int), ((s.sessions.at i2).last : Int), ((((s.sessions.at i2).replies.n : Nat) : Int) : Int)] (hS.loc 2 _ rfl (by simp)) (by simp)) (by show 5 ≤ 1048576; omega)) ?_
          refine JL_run 2 [] [5, 10, 9, 1] 2 ⟨[(5, vS (u2 ++ (mNums [((s.sessions.at i2).client : Int), ((s.sessions.at i2).id : Int), ((s.sessions.at i2).acked : Int), ((s.sessions.at i2).last : Int), ((((s.sessions.at i2).replies.n : Nat) : Int) : Int)]))), (10, .p 1 0), (9, vI ((i2 : Nat) : Int)), (1, .p 0 0)], [⟨48, [vI s.index, .v (.slice s.locks.A s.locks.n s.locks.c), .v (.slice s.pairs.A s.pairs.n s.pairs.c), .v (.slice s.sessions.A s.sessions.n s.sessions.c)]⟩, ⟨113, [vI (s.sessions.at i2).client, vI (s.sessions.at i2).id, vI (s.sessions.at i2).acked, vI (s.sessions.at i2).last, .v (.slice (s.sessions.at i2).replies.A (s.sessions.at i2).replies.n (s.sessions.at i2).replies.c)]⟩]⟩ [u2.size + (mNums [((s.sessions.at i2).client : Int), ((s.sessions.at i2).id : Int), ((s.sessions.at i2).acked : Int), ((s.sessions.at i2).last : Int), ((((s.sessions.at i2).replies.n : Nat) : Int) : Int)]).size ≤ 9223372036854775807] [] (by kernel_rfl) (oc (by first | omega | (simp only [ByteArray.size_append]; omega)) on) wn ?_
          refine l_nil (q_then_normal ?_)
          refine c_seq ?_
          refine c_region ?_
          refine JL_run 1 [] [11, 5, 10, 9, 1] 2 ⟨[(11, vI 0), (5, vS (u2 ++ (mNums [((s.sessions.at i2).client : Int), ((s.sessions.at i2).id : Int), ((s.sessions.at i2).acked : Int), ((s.sessions.at i2).last : Int), ((((s.sessions.at i2).replies.n : Nat) : Int) : Int)]))), (10, .p 1 0), (9, vI ((i2 : Nat) : Int)), (1, .p 0 0)], [⟨48, [vI s.index, .v (.slice s.locks.A s.locks.n s.locks.c), .v (.slice s.pairs.A s.pairs.n s.pairs.c), .v (.slice s.sessions.A s.sessions.n s.sessions.c)]⟩, ⟨113, [vI (s.sessions.at i2).client, vI (s.sessions.at i2).id, vI (s.sessions.at i2).acked, vI (s.sessions.at i2).last, .v (.slice (s.sessions.at i2).replies.A (s.sessions.at i2).replies.n (s.sessions.at i2).replies.c)]⟩]⟩ [] [] (by kernel_rfl) on wn ?_
          refine l_nil (q_then_normal ?_)
          refine c_block ?_
          have hz03 : (u2 ++ (mNums [((s.sessions.at i2).client : Int), ((s.sessions.at i2).id : Int), ((s.sessions.at i2).acked : Int), ((s.sessions.at i2).last : Int), ((((s.sessions.at i2).replies.n : Nat) : Int) : Int)])).size ≤ 100030 + i2 * 30000 := by first | omega | (simp only [ByteArray.size_append]; omega)
          generalize hu3 : u2 ++ (mNums [((s.sessions.at i2).client : Int), ((s.sessions.at i2).id : Int), ((s.sessions.at i2).acked : Int), ((s.sessions.at i2).last : Int), ((((s.sessions.at i2).replies.n : Nat) : Int) : Int)]) = z3 at hz03 ⊢
          refine c_loop (σ := Nat × ByteArray) (fun ⟨i3, u3⟩ => i3 ≤ (s.sessions.at i2).replies.n ∧ u3 = ((s.sessions.at i2).replies.xs.take i3).foldl keptS z3 ∧ u3.size ≤ 100030 + i2 * 30000 + i3 * 5100) (fun ⟨i3, u3⟩ => (s.sessions.at i2).replies.n - i3) (fun ⟨i3, u3⟩ => []) (fun ⟨i3, u3⟩ => ⟨[(5, vS u3), (11, vI ((i3 : Nat) : Int)), (10, .p 1 0), (9, vI ((i2 : Nat) : Int)), (1, .p 0 0)], [⟨48, [vI s.index, .v (.slice s.locks.A s.locks.n s.locks.c), .v (.slice s.pairs.A s.pairs.n s.pairs.c), .v (.slice s.sessions.A s.sessions.n s.sessions.c)]⟩, ⟨113, [vI (s.sessions.at i2).client, vI (s.sessions.at i2).id, vI (s.sessions.at i2).acked, vI (s.sessions.at i2).last, .v (.slice (s.sessions.at i2).replies.A (s.sessions.at i2).replies.n (s.sessions.at i2).replies.c)]⟩]⟩) ⟨0, z3⟩ ⟨Nat.zero_le _, rfl, by show z3.size ≤ 100030 + i2 * 30000 + 0 * 5100; omega⟩ (s_start [5, 11, 10, 9, 1] 2 (by kernel_rfl) rfl) ?_
          rintro ⟨i3, u3⟩ ⟨hi3, hI3, hz_3⟩
          refine c_seq ?_
          refine c_seq ?_
          refine c_region ?_
          refine JL_run 5 [] [134, 5, 11, 10, 9, 1] 2 ⟨[(134, vB (decide (((i3 : Nat) : Int) < (((s.sessions.at i2).replies.n : Nat) : Int)))), (5, vS u3), (11, vI ((i3 : Nat) : Int)), (10, .p 1 0), (9, vI ((i2 : Nat) : Int)), (1, .p 0 0)], [⟨48, [vI s.index, .v (.slice s.locks.A s.locks.n s.locks.c), .v (.slice s.pairs.A s.pairs.n s.pairs.c), .v (.slice s.sessions.A s.sessions.n s.sessions.c)]⟩, ⟨113, [vI (s.sessions.at i2).client, vI (s.sessions.at i2).id, vI (s.sessions.at i2).acked, vI (s.sessions.at i2).last, .v (.slice (s.sessions.at i2).replies.A (s.sessions.at i2).replies.n (s.sessions.at i2).replies.c)]⟩]⟩ [] [] (by kernel_rfl) on wn ?_
          refine l_nil (q_then_normal ?_)
          cases h5 : decide (((i3 : Nat) : Int) < (((s.sessions.at i2).replies.n : Nat) : Int)) with
          | true =>
            have h5 := of_decide_eq_true h5
            refine c_if true rfl ?_
            refine c_skip ?_
            refine q_then_normal ?_
            refine c_seq ?_
            refine c_block ?_
            refine c_seq ?_
            refine c_region ?_
            refine JL_run 7 [(3, .idx (s.sessions.at i2).replies.ad i3), (4, .ext [.int .i64 ((s.sessions.at i2).replies.at i3).seq, .int .i64 ((s.sessions.at i2).replies.at i3).reply.code, .int .i64 ((s.sessions.at i2).replies.at i3).reply.n, .string ((s.sessions.at i2).replies.at i3).reply.text])] [12, 5, 11, 10, 9, 1] 3 ⟨[(12, .p 2 0), (5, vS u3), (11, vI ((i3 : Nat) : Int)), (10, .p 1 0), (9, vI ((i2 : Nat) : Int)), (1, .p 0 0)], [⟨48, [vI s.index, .v (.slice s.locks.A s.locks.n s.locks.c), .v (.slice s.pairs.A s.pairs.n s.pairs.c), .v (.slice s.sessions.A s.sessions.n s.sessions.c)]⟩, ⟨113, [vI (s.sessions.at i2).client, vI (s.sessions.at i2).id, vI (s.sessions.at i2).acked, vI (s.sessions.at i2).last, .v (.slice (s.sessions.at i2).replies.A (s.sessions.at i2).replies.n (s.sessions.at i2).replies.c)]⟩, ⟨115, [vI ((s.sessions.at i2).replies.at i3).seq, vI ((s.sessions.at i2).replies.at i3).reply.code, vI ((s.sessions.at i2).replies.at i3).reply.n, vS ((s.sessions.at i2).replies.at i3).reply.text]⟩]⟩ [(s.sessions.at i2).replies.A = some (s.sessions.at i2).replies.ad, ((i3 : Nat) : Int) = ((i3 : Nat) : Int), i3 < (s.sessions.at i2).replies.n] [((s.sessions.at i2).replies.ad.add (i3 * 4), [.int .i64 ((s.sessions.at i2).replies.at i3).seq, .int .i64 ((s.sessions.at i2).replies.at i3).reply.code, .int .i64 ((s.sessions.at i2).replies.at i3).reply.n, .string ((s.sessions.at i2).replies.at i3).reply.text])] (by kernel_rfl) (oc (Sl.ok.own (s := (s.sessions.at i2).replies) (i := i3) (Sl.ok.at (s := s.sessions) (i := i2) (And.right (And.right okx)) (by omega)) (by omega)) (oc rfl (oc (by omega) on))) (fun w hk hr => ⟨(Sl.rd.all (s := (s.sessions.at i2).replies) (i := i3) (Sl.rd.sub (s := s.sessions) (i := i2) (And.right (And.right (Rds.kp hs hk))) (by omega)) (by omega) rfl), trivial⟩) ?_
            refine l_nil (q_then_normal ?_)
            refine c_draw 18 [] (.p 0 (.p 1 (.q 2 (.p 3 (.p 4 (.q 5 (.p 6 (.p 7 (.q 8 (.p 12 (.p 13 (.q 14 (.b 9 (.b 10 (.p 11 (.b 15 (.p 16 (.p 17 .nil)) .z)) .z) .z))))))))))))) [] [] Try_mixed (by kernel_rfl) (pq_block (pq_then (pq_then (pq_block (pq_block (pq_then (pq_then (pq_block (pq_then pq_body))))))))) .slnil ?_
            refine h_quiet [] [(0, true), (1, true), (2, false), (3, true), (4, true), (5, false), (6, true), (7, true), (8, false), (12, true), (13, true), (14, false)] [(156, vS ((s.sessions.at i2).replies.at i3).reply.text), (155, .p 2 3), (154, .p 2 1), (150, vI ((s.sessions.at i2).replies.at i3).reply.n), (149, .p 2 2), (148, .p 2 1), (147, vI ((s.sessions.at i2).replies.at i3).reply.code), (146, .p 2 1), (145, .p 2 1), (144, vI ((s.sessions.at i2).replies.at i3).seq), (143, .p 2 0), (142, vS u3), (12, .p 2 0), (5, vS u3), (11, vI ((i3 : Nat) : Int)), (10, .p 1 0), (9, vI ((i2 : Nat) : Int)), (1, .p 0 0)] [] [] rfl (by kernel_rfl) on wn ?_
            refine h_local ⟨[(151, .s 3 0 3 3), (156, vS ((s.sessions.at i2).replies.at i3).reply.text), (155, .p 2 3), (154, .p 2 1), (150, vI ((s.sessions.at i2).replies.at i3).reply.n), (149, .p 2 2), (148, .p 2 1), (147, vI ((s.sessions.at i2).replies.at i3).reply.code), (146, .p 2 1), (145, .p 2 1), (144, vI ((s.sessions.at i2).replies.at i3).seq), (143, .p 2 0), (142, vS u3), (12, .p 2 0), (5, vS u3), (11, vI ((i3 : Nat) : Int)), (10, .p 1 0), (9, vI ((i2 : Nat) : Int)), (1, .p 0 0)], [⟨48, [vI s.index, .v (.slice s.locks.A s.locks.n s.locks.c), .v (.slice s.pairs.A s.pairs.n s.pairs.c), .v (.slice s.sessions.A s.sessions.n s.sessions.c)]⟩, ⟨113, [vI (s.sessions.at i2).client, vI (s.sessions.at i2).id, vI (s.sessions.at i2).acked, vI (s.sessions.at i2).last, .v (.slice (s.sessions.at i2).replies.A (s.sessions.at i2).replies.n (s.sessions.at i2).replies.c)]⟩, ⟨115, [vI ((s.sessions.at i2).replies.at i3).seq, vI ((s.sessions.at i2).replies.at i3).reply.code, vI ((s.sessions.at i2).replies.at i3).reply.n, vS ((s.sessions.at i2).replies.at i3).reply.text]⟩, ⟨3, [vI ((s.sessions.at i2).replies.at i3).seq, vI ((s.sessions.at i2).replies.at i3).reply.code, vI ((s.sessions.at i2).replies.at i3).reply.n]⟩]⟩ (by kernel_rfl) (fun bs0 bs w hp hl hS => hS.down hp hl rfl (le_same (le_same (le_same le_nil))) .slnil) ?_
            have hzj19 := mNums_size [(((s.sessions.at i2).replies.at i3).seq : Int), (((s.sessions.at i2).replies.at i3).reply.code : Int), (((s.sessions.at i2).replies.at i3).reply.n : Int)]
            simp only [List.length_cons, List.length_nil] at hzj19
            refine h_pure 74 [] [.s 3 0 3 3] (.string (mNums [(((s.sessions.at i2).replies.at i3).seq : Int), (((s.sessions.at i2).replies.at i3).reply.code : Int), (((s.sessions.at i2).replies.at i3).reply.n : Int)])) rfl Try.call74 rfl rfl rfl rfl (fun bs w hS => ref_joined (⟨some ⟨bs.getD 3 0, 0, none⟩, 3, [(((s.sessions.at i2).replies.at i3).seq : Int), (((s.sessions.at i2).replies.at i3).reply.code : Int), (((s.sessions.at i2).replies.at i3).reply.n : Int)]⟩ : Sl Int) w (rd_local [(((s.sessions.at i2).replies.at i3).seq : Int), (((s.sessions.at i2).replies.at i3).reply.code : Int), (((s.sessions.at i2).replies.at i3).reply.n : Int)] (hS.loc 3 _ rfl (by simp)) (by simp)) (by show 3 ≤ 1048576; omega)) (fun bs0 bs w hp hl hS => hS.down hp hl rfl (le_same (le_same (le_same le_nil))) .slnil) ?_
            refine h_quiet [] [(11, true)] [(153, vS (u3 ++ (mNums [(((s.sessions.at i2).replies.at i3).seq : Int), (((s.sessions.at i2).replies.at i3).reply.code : Int), (((s.sessions.at i2).replies.at i3).reply.n : Int)]))), (152, vS (mNums [(((s.sessions.at i2).replies.at i3).seq : Int), (((s.sessions.at i2).replies.at i3).reply.code : Int), (((s.sessions.at i2).replies.at i3).reply.n : Int)])), (151, .s 3 0 3 3), (156, vS ((s.sessions.at i2).replies.at i3).reply.text), (155, .p 2 3), (154, .p 2 1), (150, vI ((s.sessions.at i2).replies.at i3).reply.n), (149, .p 2 2), (148, .p 2 1), (147, vI ((s.sessions.at i2).replies.at i3).reply.code), (146, .p 2 1), (145, .p 2 1), (144, vI ((s.sessions.at i2).replies.at i3).seq), (143, .p 2 0), (142, vS u3), (12, .p 2 0), (5, vS u3), (11, vI ((i3 : Nat) : Int)), (10, .p 1 0), (9, vI ((i2 : Nat) : Int)), (1, .p 0 0)] [u3.size + (mNums [(((s.sessions.at i2).replies.at i3).seq : Int), (((s.sessions.at i2).replies.at i3).reply.code : Int), (((s.sessions.at i2).replies.at i3).reply.n : Int)]).size ≤ 9223372036854775807] [] rfl (by kernel_rfl) (oc (by first | omega | (simp only [ByteArray.size_append]; omega)) on) wn ?_
            have hzt20 := mTextB_size ((s.sessions.at i2).replies.at i3).reply.text
            refine h_pure 75 [] [vS ((s.sessions.at i2).replies.at i3).reply.text] (.string (mTextB ((s.sessions.at i2).replies.at i3).reply.text)) rfl Try.call75 rfl rfl rfl rfl (fun bs w hS => ref_worded _ w (Sl.ok.at (s := (s.sessions.at i2).replies) (i := i3) (Sl.ok.at (s := s.sessions) (i := i2) (And.right (And.right okx)) (by omega)) (by omega))) (fun bs0 bs w hp hl hS => hS.down hp hl rfl (le_same (le_same (le_same le_nil))) .slnil) ?_
            refine h_quiet [] [(16, true), (17, true)] [(5, vS ((u3 ++ (mNums [(((s.sessions.at i2).replies.at i3).seq : Int), (((s.sessions.at i2).replies.at i3).reply.code : Int), (((s.sessions.at i2).replies.at i3).reply.n : Int)])) ++ (mTextB ((s.sessions.at i2).replies.at i3).reply.text))), (158, vS ((u3 ++ (mNums [(((s.sessions.at i2).replies.at i3).seq : Int), (((s.sessions.at i2).replies.at i3).reply.code : Int), (((s.sessions.at i2).replies.at i3).reply.n : Int)])) ++ (mTextB ((s.sessions.at i2).replies.at i3).reply.text))), (157, vS (mTextB ((s.sessions.at i2).replies.at i3).reply.text)), (153, vS (u3 ++ (mNums [(((s.sessions.at i2).replies.at i3).seq : Int), (((s.sessions.at i2).replies.at i3).reply.code : Int), (((s.sessions.at i2).replies.at i3).reply.n : Int)]))), (152, vS (mNums [(((s.sessions.at i2).replies.at i3).seq : Int), (((s.sessions.at i2).replies.at i3).reply.code : Int), (((s.sessions.at i2).replies.at i3).reply.n : Int)])), (151, .s 3 0 3 3), (156, vS ((s.sessions.at i2).replies.at i3).reply.text), (155, .p 2 3), (154, .p 2 1), (150, vI ((s.sessions.at i2).replies.at i3).reply.n), (149, .p 2 2), (148, .p 2 1), (147, vI ((s.sessions.at i2).replies.at i3).reply.code), (146, .p 2 1), (145, .p 2 1), (144, vI ((s.sessions.at i2).replies.at i3).seq), (143, .p 2 0), (142, vS u3), (12, .p 2 0), (11, vI ((i3 : Nat) : Int)), (10, .p 1 0), (9, vI ((i2 : Nat) : Int)), (1, .p 0 0)] [(u3 ++ (mNums [(((s.sessions.at i2).replies.at i3).seq : Int), (((s.sessions.at i2).replies.at i3).reply.code : Int), (((s.sessions.at i2).replies.at i3).reply.n : Int)])).size + (mTextB ((s.sessions.at i2).replies.at i3).reply.text).size ≤ 9223372036854775807] [] rfl (by kernel_rfl) (oc (by first | omega | (simp only [ByteArray.size_append]; omega)) on) wn ?_
            refine h_nil ?_
            refine l_nil (q_block_normal (q_then_normal ?_))
            refine c_region ?_
            refine JL_run 3 [] [11, 5, 10, 9, 1] 2 ⟨[(11, vI (((i3 : Nat) : Int) + 1)), (5, vS ((u3 ++ (mNums [(((s.sessions.at i2).replies.at i3).seq : Int), (((s.sessions.at i2).replies.at i3).reply.code : Int), (((s.sessions.at i2).replies.at i3).reply.n : Int)])) ++ (mTextB ((s.sessions.at i2).replies.at i3).reply.text))), (10, .p 1 0), (9, vI ((i2 : Nat) : Int)), (1, .p 0 0)], [⟨48, [vI s.index, .v (.slice s.locks.A s.locks.n s.locks.c), .v (.slice s.pairs.A s.pairs.n s.pairs.c), .v (.slice s.sessions.A s.sessions.n s.sessions.c)]⟩, ⟨113, [vI (s.sessions.at i2).client, vI (s.sessions.at i2).id, vI (s.sessions.at i2).acked, vI (s.sessions.at i2).last, .v (.slice (s.sessions.at i2).replies.A (s.sessions.at i2).replies.n (s.sessions.at i2).replies.c)]⟩]⟩ [inR (((i3 : Nat) : Int) + 1)] [] (by kernel_rfl) (oc (by unfold inR; omega) on) wn ?_
            have hst3 : (u3 ++ (mNums [(((s.sessions.at i2).replies.at i3).seq : Int), (((s.sessions.at i2).replies.at i3).reply.code : Int), (((s.sessions.at i2).replies.at i3).reply.n : Int)])) ++ (mTextB ((s.sessions.at i2).replies.at i3).reply.text) = keptS u3 ((s.sessions.at i2).replies.xs.getD i3 default) := by
              rfl
            have hzz3 : ((u3 ++ (mNums [(((s.sessions.at i2).replies.at i3).seq : Int), (((s.sessions.at i2).replies.at i3).reply.code : Int), (((s.sessions.at i2).replies.at i3).reply.n : Int)])) ++ (mTextB ((s.sessions.at i2).replies.at i3).reply.text)).size ≤ 100030 + i2 * 30000 + (i3 + 1) * 5100 := by simp only [ByteArray.size_append]; omega
            refine l_nil (q_loop (x := (⟨i3, u3⟩ : Nat × ByteArray)) (⟨i3 + 1, (u3 ++ (mNums [(((s.sessions.at i2).replies.at i3).seq : Int), (((s.sessions.at i2).replies.at i3).reply.code : Int), (((s.sessions.at i2).replies.at i3).reply.n : Int)])) ++ (mTextB ((s.sessions.at i2).replies.at i3).reply.text)⟩ : Nat × ByteArray) ⟨by show i3 + 1 ≤ (s.sessions.at i2).replies.n; omega, by show _ = ((s.sessions.at i2).replies.xs.take (i3 + 1)).foldl keptS z3; rw [hst3, hI3]; exact (foldl_take (i := i3) _ _ (s.sessions.at i2).replies.xs (by omega)).symm, hzz3⟩ (by show (s.sessions.at i2).replies.n - (i3 + 1) < (s.sessions.at i2).replies.n - i3; omega) (s_start [5, 11, 10, 9, 1] 2 (by kernel_rfl) rfl))
          | false =>
            have h5 := of_decide_eq_false h5
            refine c_if false rfl ?_
            refine c_exit ?_
            refine q_then_exit (q_then_exit (q_block_hit (q_block_normal (q_then_normal ?_))))
            refine c_region ?_
            refine JL_run 3 [] [9, 5, 1] 1 ⟨[(9, vI (((i2 : Nat) : Int) + 1)), (5, vS u3), (1, .p 0 0)], [⟨48, [vI s.index, .v (.slice s.locks.A s.locks.n s.locks.c), .v (.slice s.pairs.A s.pairs.n s.pairs.c), .v (.slice s.sessions.A s.sessions.n s.sessions.c)]⟩]⟩ [inR (((i2 : Nat) : Int) + 1)] [] (by kernel_rfl) (oc (by unfold inR; omega) on) wn ?_
            have hst2 : u3 = sessS u2 (s.abs.sessions.getD i2 default) := by
              rw [hae, hI3, List.take_of_length_le (by omega), ← hu3]
              rfl
            have hzz2 : (u3).size ≤ 100000 + (i2 + 1) * 30000 := by omega
            refine l_nil (q_loop (x := (⟨i2, u2⟩ : Nat × ByteArray)) (⟨i2 + 1, u3⟩ : Nat × ByteArray) ⟨by show i2 + 1 ≤ s.sessions.n; omega, by show _ = (s.abs.sessions.take (i2 + 1)).foldl sessS z2; rw [hst2, hI2]; exact (foldl_take (i := i2) _ _ s.abs.sessions (by omega)).symm, hzz2⟩ (by show s.sessions.n - (i2 + 1) < s.sessions.n - i2; omega) (s_start [5, 9, 1] 1 (by kernel_rfl) rfl))
        | false =>
          have h4 := of_decide_eq_false h4
          refine c_if false rfl ?_
          refine c_exit ?_
          refine q_then_exit (q_then_exit (q_block_hit (q_then_normal ?_)))
          refine c_seq ?_
          refine c_region ?_
          refine JL_run 2 [] [160, 159] 0 ⟨[(160, vS u2), (159, vS u2)], []⟩ [] [] (by kernel_rfl) on wn ?_
          have hzs21 : (mSeal u2).size = 4 := bstr_size _
          refine l_pure 76 [] [vS u2] (.string (mSeal u2)) Try.call76 rfl rfl rfl rfl (fun bs w hS => ref_SealOf _ w (by first | assumption | omega | (simp only [emp_size]; omega))) ?_
          refine JL_run 3 [] [3, 2] 0 ⟨[(3, vI 0), (2, vS (u2 ++ (mSeal u2)))], []⟩ [u2.size + (mSeal u2).size ≤ 9223372036854775807] [] (by kernel_rfl) (oc (by first | omega | (simp only [ByteArray.size_append]; omega)) on) wn ?_
          refine l_nil (q_then_normal ?_)
          refine c_ret ?_
          refine q_ret (.inl rfl) [vS (u2 ++ (mSeal u2)), vI 0] rfl (fun bs w hS => ?_)
          refine ⟨?_, hS.kp⟩
          have hb : u2 = mSnapB s.abs := by
            unfold mSnapB
            rw [hI2, List.take_of_length_le (by omega), ← hu2, hI1, List.take_of_length_le (by omega), ← hu1, hI0, List.take_of_length_le (by omega), ← hu0]
            skip
            rw [hll, hlp, hle]
            rfl
          unfold mSnap
          rw [if_pos (by assumption), ← hb]
          rfl
  | false =>
    have h1 := of_decide_eq_false h1
    refine c_if true rfl ?_
    refine c_seq ?_
    refine c_region ?_
    refine JL_run 3 [] [3, 2] 0 ⟨[(3, vI (mState s.abs)), (2, vS emp)], []⟩ [] [] (by kernel_rfl) on wn ?_
    refine l_nil (q_then_normal ?_)
    refine c_ret ?_
    refine q_then_ret (q_ret (.inl rfl) [vS emp, vI (mState s.abs)] rfl (fun bs w hS => ?_))
    refine ⟨?_, hS.kp⟩
    unfold mSnap
    rw [if_neg (by assumption)]
    rfl

end Go.Proofs.Ytececkgjacccmad.W
