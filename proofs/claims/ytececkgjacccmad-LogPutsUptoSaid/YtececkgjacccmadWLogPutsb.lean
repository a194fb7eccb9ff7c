/-
  The functions that the law LogPuts reaches, walked: each returns what its model says.
  Conditions: those that each theorem states.
-/
import Derived.Test.YtececkgjacccmadWLogPutsa
set_option linter.unusedVariables false
set_option linter.unusedSimpArgs false
set_option maxRecDepth 100000
namespace Go.Proofs.Ytececkgjacccmad.W
open Go.Proofs.Ytececkgjacccmad.Fw Go.RowKit

theorem ref_CommandOf (s : ByteArray) (w : World) (hs : s.size ≤ 9223372036854775807) : Calls Try.prog 68 #[.string s] w fun e w' => e = .returned (.tuple #[.agg #[.int .i64 ((mDecode s).1.kind), .int .i64 ((mDecode s).1.client), .int .i64 ((mDecode s).1.session), .int .i64 ((mDecode s).1.seq), .int .i64 ((mDecode s).1.acked), .int .i64 ((mDecode s).1.op.kind), .string ((mDecode s).1.op.a), .string ((mDecode s).1.op.b), .int .i64 ((mDecode s).1.op.n)], .int .i64 ((mDecode s).2)]) ∧ Kp [] w w' := by
  have hu0 := (s.data.getD 0 0).toNat_lt
  have hu1 := (s.data.getD 1 0).toNat_lt
  have hex : (s.extract 2 s.size).size ≤ s.size := by simp
  refine calls_J0 110 Try.func68 rfl rfl [.string s] rfl ?_
  refine c_seq ?_
  refine c_region ?_
  refine JL_run 2 [] [2, 0] 1 ⟨[(2, .p 0 0), (0, vS s)], [⟨100, [vI 0, vI 0, vI 0, vI 0, vI 0, vI 0, vS emp, vS emp, vI 0]⟩]⟩ [] [] (by kernel_rfl) on wn ?_
  refine l_nil (q_then_normal ?_)
  refine c_seq ?_
  refine c_seq ?_
  refine c_region ?_
  refine JL_run 3 [] [20, 2, 0] 1 ⟨[(20, vB (decide ((5000 : Int) < (s.size : Int)))), (2, .p 0 0), (0, vS s)], [⟨100, [vI 0, vI 0, vI 0, vI 0, vI 0, vI 0, vS emp, vS emp, vI 0]⟩]⟩ [] [] (by kernel_rfl) on wn ?_
  refine l_nil (q_then_normal ?_)
  cases h1 : decide ((5000 : Int) < (s.size : Int)) with
  | true =>
    have h1 := of_decide_eq_true h1
    refine c_if true rfl ?_
    refine c_seq ?_
    refine c_region ?_
    refine JL_run 3 [] [3, 2] 1 ⟨[(3, vI 1), (2, .p 0 0)], [⟨100, [vI 0, vI 0, vI 0, vI 0, vI 0, vI 0, vS emp, vS emp, vI 0]⟩]⟩ [] [] (by kernel_rfl) on wn ?_
    refine l_nil (q_then_normal ?_)
    refine c_ret ?_
    refine q_then_ret (q_ret (.inl rfl) [.v (.agg #[.int .i64 0, .int .i64 0, .int .i64 0, .int .i64 0, .int .i64 0, .int .i64 0, .string emp, .string emp, .int .i64 0]), vI 1] rfl (fun bs w hS => ?_))
    refine ⟨?_, hS.kp⟩
    have hm : mDecode s = ((⟨0, 0, 0, 0, 0, ⟨0, emp, emp, 0⟩⟩ : DCommand), 1) := by
      have hk : (cmd0 s).kind = ((s.data.getD 0 0).toNat : Int) := rfl
      unfold mDecode
      repeat (first | rw [if_pos (by omega)] | rw [if_neg (by omega)])
      rfl
    rw [hm]
    rfl
  | false =>
    have h1 := of_decide_eq_false h1
    refine c_if false rfl ?_
    refine c_skip ?_
    refine q_then_normal ?_
    refine c_seq ?_
    refine c_seq ?_
    refine c_region ?_
    refine JL_run 3 [] [24, 2, 0] 1 ⟨[(24, vB (decide ((s.size : Int) < 2))), (2, .p 0 0), (0, vS s)], [⟨100, [vI 0, vI 0, vI 0, vI 0, vI 0, vI 0, vS emp, vS emp, vI 0]⟩]⟩ [] [] (by kernel_rfl) on wn ?_
    refine l_nil (q_then_normal ?_)
    cases h2 : decide ((s.size : Int) < 2) with
    | true =>
      have h2 := of_decide_eq_true h2
      refine c_if true rfl ?_
      refine c_seq ?_
      refine c_region ?_
      refine JL_run 3 [] [3, 2] 1 ⟨[(3, vI 5), (2, .p 0 0)], [⟨100, [vI 0, vI 0, vI 0, vI 0, vI 0, vI 0, vS emp, vS emp, vI 0]⟩]⟩ [] [] (by kernel_rfl) on wn ?_
      refine l_nil (q_then_normal ?_)
      refine c_ret ?_
      refine q_then_ret (q_ret (.inl rfl) [.v (.agg #[.int .i64 0, .int .i64 0, .int .i64 0, .int .i64 0, .int .i64 0, .int .i64 0, .string emp, .string emp, .int .i64 0]), vI 5] rfl (fun bs w hS => ?_))
      refine ⟨?_, hS.kp⟩
      have hm : mDecode s = ((⟨0, 0, 0, 0, 0, ⟨0, emp, emp, 0⟩⟩ : DCommand), 5) := by
        have hk : (cmd0 s).kind = ((s.data.getD 0 0).toNat : Int) := rfl
        unfold mDecode
        repeat (first | rw [if_pos (by omega)] | rw [if_neg (by omega)])
        rfl
      rw [hm]
      rfl
    | false =>
      have h2 := of_decide_eq_false h2
      refine c_if false rfl ?_
      refine c_skip ?_
      refine q_then_normal ?_
      refine c_seq ?_
      refine c_draw 8 [] (.p 0 (.p 1 (.p 2 (.p 3 (.p 4 (.p 5 (.p 6 (.b 7 .nil .z)))))))) [] [] Try_mixed (by kernel_rfl) (pq_then pq_body) .slnil ?_
      refine h_quiet [(1, .sidx 0), (4, .sidx 1)] [(0, true), (1, true), (2, true), (3, true), (4, true), (5, true), (6, true)] [(32, .v (.agg #[.int .i64 ((s.data.getD 0 0).toNat : Int), .int .i64 ((s.data.getD 1 0).toNat : Int), .int .i64 0, .int .i64 0, .int .i64 0, .int .i64 0, .string emp, .string emp, .int .i64 0])), (31, vI ((s.data.getD 1 0).toNat : Int)), (30, .v (.int .u8 ((s.data.getD 1 0).toNat : Int))), (29, vS s), (28, vI ((s.data.getD 0 0).toNat : Int)), (27, .v (.int .u8 ((s.data.getD 0 0).toNat : Int))), (26, vS s), (24, vB false), (2, .p 0 0), (0, vS s)] [(0 : Int) = ((0 : Nat) : Int), 0 < s.size, 0 ≤ ((s.data.getD 0 0).toNat : Int), ((s.data.getD 0 0).toNat : Int) ≤ 255, (1 : Int) = ((1 : Nat) : Int), 1 < s.size, 0 ≤ ((s.data.getD 1 0).toNat : Int), ((s.data.getD 1 0).toNat : Int) ≤ 255] [] rfl (by kernel_rfl) (oc rfl (oc (by omega) (oc (by omega) (oc (by omega) (oc rfl (oc (by omega) (oc (by omega) (oc (by omega) on)))))))) wn ?_
      refine h_local ⟨[(4, .p 1 0), (32, .v (.agg #[.int .i64 ((s.data.getD 0 0).toNat : Int), .int .i64 ((s.data.getD 1 0).toNat : Int), .int .i64 0, .int .i64 0, .int .i64 0, .int .i64 0, .string emp, .string emp, .int .i64 0])), (31, vI ((s.data.getD 1 0).toNat : Int)), (30, .v (.int .u8 ((s.data.getD 1 0).toNat : Int))), (29, vS s), (28, vI ((s.data.getD 0 0).toNat : Int)), (27, .v (.int .u8 ((s.data.getD 0 0).toNat : Int))), (26, vS s), (24, vB false), (2, .p 0 0), (0, vS s)], [⟨100, [vI 0, vI 0, vI 0, vI 0, vI 0, vI 0, vS emp, vS emp, vI 0]⟩, ⟨100, [vI 0, vI 0, vI 0, vI 0, vI 0, vI 0, vS emp, vS emp, vI 0]⟩]⟩ (by kernel_rfl) (fun bs0 bs w hp hl hS => hS.down hp hl rfl (le_same le_nil) .slnil) ?_
      refine h_nil ?_
      refine JL_run 1 [] [4, 2, 0] 2 ⟨[(4, .p 1 0), (2, .p 0 0), (0, vS s)], [⟨100, [vI 0, vI 0, vI 0, vI 0, vI 0, vI 0, vS emp, vS emp, vI 0]⟩, ⟨100, [vI ((s.data.getD 0 0).toNat : Int), vI ((s.data.getD 1 0).toNat : Int), vI 0, vI 0, vI 0, vI 0, vS emp, vS emp, vI 0]⟩]⟩ [] [] (by kernel_rfl) on wn ?_
      refine l_nil (q_then_normal ?_)
      refine c_seq ?_
      refine c_region ?_
      refine JL_run 3 [(1, .sl 2 s.size)] [5, 4, 2] 2 ⟨[(5, vS (s.extract 2 s.size)), (4, .p 1 0), (2, .p 0 0)], [⟨100, [vI 0, vI 0, vI 0, vI 0, vI 0, vI 0, vS emp, vS emp, vI 0]⟩, ⟨100, [vI ((s.data.getD 0 0).toNat : Int), vI ((s.data.getD 1 0).toNat : Int), vI 0, vI 0, vI 0, vI 0, vS emp, vS emp, vI 0]⟩]⟩ [(2 : Int) = ((2 : Nat) : Int), s.size = s.size, 2 ≤ s.size] [] (by kernel_rfl) (oc rfl (oc rfl (oc (by omega) on))) wn ?_
      refine l_nil (q_then_normal ?_)
      refine c_seq ?_
      refine c_seq ?_
      refine c_region ?_
      refine JL_run 3 [] [37, 5, 4, 2] 2 ⟨[(37, vB (decide (((s.data.getD 0 0).toNat : Int) = 2))), (5, vS (s.extract 2 s.size)), (4, .p 1 0), (2, .p 0 0)], [⟨100, [vI 0, vI 0, vI 0, vI 0, vI 0, vI 0, vS emp, vS emp, vI 0]⟩, ⟨100, [vI ((s.data.getD 0 0).toNat : Int), vI ((s.data.getD 1 0).toNat : Int), vI 0, vI 0, vI 0, vI 0, vS emp, vS emp, vI 0]⟩]⟩ [] [] (by kernel_rfl) on wn ?_
      refine l_nil (q_then_normal ?_)
      cases h3 : decide (((s.data.getD 0 0).toNat : Int) = 2) with
      | true =>
        have h3 := of_decide_eq_true h3
        refine c_if true rfl ?_
        refine c_seq ?_
        refine c_region ?_
        refine JL_run 1 [] [6, 5, 4, 2] 3 ⟨[(6, .p 2 0), (5, vS (s.extract 2 s.size)), (4, .p 1 0), (2, .p 0 0)], [⟨100, [vI 0, vI 0, vI 0, vI 0, vI 0, vI 0, vS emp, vS emp, vI 0]⟩, ⟨100, [vI ((s.data.getD 0 0).toNat : Int), vI ((s.data.getD 1 0).toNat : Int), vI 0, vI 0, vI 0, vI 0, vS emp, vS emp, vI 0]⟩, ⟨155, [vI 0, vI 0, vI 0, vI 0, vI 0]⟩]⟩ [] [] (by kernel_rfl) on wn ?_
        refine l_nil (q_then_normal ?_)
        refine c_seq ?_
        refine c_seq ?_
        refine c_region ?_
        refine JL_run 1 [] [7, 6, 5, 4, 2] 3 ⟨[(7, vI 0), (6, .p 2 0), (5, vS (s.extract 2 s.size)), (4, .p 1 0), (2, .p 0 0)], [⟨100, [vI 0, vI 0, vI 0, vI 0, vI 0, vI 0, vS emp, vS emp, vI 0]⟩, ⟨100, [vI ((s.data.getD 0 0).toNat : Int), vI ((s.data.getD 1 0).toNat : Int), vI 0, vI 0, vI 0, vI 0, vS emp, vS emp, vI 0]⟩, ⟨155, [vI 0, vI 0, vI 0, vI 0, vI 0]⟩]⟩ [] [] (by kernel_rfl) on wn ?_
        refine l_nil (q_then_normal ?_)
        refine c_block ?_
        refine c_unroll (n := 6) ?_
        refine c_seq ?_
        refine c_seq ?_
        refine c_region ?_
        refine JL_run 2 [] [39, 7, 6, 5, 4, 2] 3 ⟨[(39, vB true), (7, vI 0), (6, .p 2 0), (5, vS (s.extract 2 s.size)), (4, .p 1 0), (2, .p 0 0)], [⟨100, [vI 0, vI 0, vI 0, vI 0, vI 0, vI 0, vS emp, vS emp, vI 0]⟩, ⟨100, [vI ((s.data.getD 0 0).toNat : Int), vI ((s.data.getD 1 0).toNat : Int), vI 0, vI 0, vI 0, vI 0, vS emp, vS emp, vI 0]⟩, ⟨155, [vI 0, vI 0, vI 0, vI 0, vI 0]⟩]⟩ [] [] (by kernel_rfl) on wn ?_
        refine l_nil (q_then_normal ?_)
        refine c_if true rfl ?_
        refine c_skip ?_
        refine q_then_normal ?_
        refine c_seq ?_
        refine c_block ?_
        refine c_seq ?_
        refine c_region ?_
        refine JL_run 1 [] [43, 7, 6, 4, 2] 3 ⟨[(43, vS (s.extract 2 s.size)), (7, vI 0), (6, .p 2 0), (4, .p 1 0), (2, .p 0 0)], [⟨100, [vI 0, vI 0, vI 0, vI 0, vI 0, vI 0, vS emp, vS emp, vI 0]⟩, ⟨100, [vI ((s.data.getD 0 0).toNat : Int), vI ((s.data.getD 1 0).toNat : Int), vI 0, vI 0, vI 0, vI 0, vS emp, vS emp, vI 0]⟩, ⟨155, [vI 0, vI 0, vI 0, vI 0, vI 0]⟩]⟩ [] [] (by kernel_rfl) on wn ?_
        refine l_pure 116 [] [vS (s.extract 2 s.size)] (.tuple #[.int .i64 ((mRead (s.extract 2 s.size)).1), .string ((mRead (s.extract 2 s.size)).2.1), .int .i64 ((mRead (s.extract 2 s.size)).2.2)]) Try.call116 rfl rfl rfl rfl (fun bs w hS => ref_NumberOf _ w (by first | assumption | omega | (simp only [emp_size]; omega))) ?_
        have hzr1 := mRead_bd (s.extract 2 s.size)
        generalize hr1 : mRead (s.extract 2 s.size) = r1 at hzr1 ⊢
        refine JL_run 7 [] [10, 9, 8, 7, 6, 4, 2] 3 ⟨[(10, vI r1.2.2), (9, vS r1.2.1), (8, vI r1.1), (7, vI 0), (6, .p 2 0), (4, .p 1 0), (2, .p 0 0)], [⟨100, [vI 0, vI 0, vI 0, vI 0, vI 0, vI 0, vS emp, vS emp, vI 0]⟩, ⟨100, [vI ((s.data.getD 0 0).toNat : Int), vI ((s.data.getD 1 0).toNat : Int), vI 0, vI 0, vI 0, vI 0, vS emp, vS emp, vI 0]⟩, ⟨155, [vI 0, vI 0, vI 0, vI 0, vI 0]⟩]⟩ [] [] (by kernel_rfl) on wn ?_
        refine l_nil (q_then_normal ?_)
        refine c_seq ?_
        refine c_seq ?_
        refine c_region ?_
        refine JL_run 2 [] [49, 10, 9, 8, 7, 6, 4, 2] 3 ⟨[(49, vB (!(decide (r1.2.2 = 0)))), (10, vI r1.2.2), (9, vS r1.2.1), (8, vI r1.1), (7, vI 0), (6, .p 2 0), (4, .p 1 0), (2, .p 0 0)], [⟨100, [vI 0, vI 0, vI 0, vI 0, vI 0, vI 0, vS emp, vS emp, vI 0]⟩, ⟨100, [vI ((s.data.getD 0 0).toNat : Int), vI ((s.data.getD 1 0).toNat : Int), vI 0, vI 0, vI 0, vI 0, vS emp, vS emp, vI 0]⟩, ⟨155, [vI 0, vI 0, vI 0, vI 0, vI 0]⟩]⟩ [] [] (by kernel_rfl) on wn ?_
        refine l_nil (q_then_normal ?_)
        cases h4 : decide (r1.2.2 = 0) with
        | true =>
          have h4 := of_decide_eq_true h4
          refine c_if false rfl ?_
          refine c_skip ?_
          refine q_then_normal ?_
          refine c_seq ?_
          refine c_region ?_
          refine JL_run 4 [(2, .idx default 0)] [9, 7, 6, 4, 2] 3 ⟨[(9, vS r1.2.1), (7, vI 0), (6, .p 2 0), (4, .p 1 0), (2, .p 0 0)], [⟨100, [vI 0, vI 0, vI 0, vI 0, vI 0, vI 0, vS emp, vS emp, vI 0]⟩, ⟨100, [vI ((s.data.getD 0 0).toNat : Int), vI ((s.data.getD 1 0).toNat : Int), vI 0, vI 0, vI 0, vI 0, vS emp, vS emp, vI 0]⟩, ⟨155, [vI r1.1, vI 0, vI 0, vI 0, vI 0]⟩]⟩ [(0 : Int) = ((0 : Nat) : Int), 0 < 5] [] (by kernel_rfl) (oc rfl (oc (by omega) on)) wn ?_
          refine l_nil (q_then_normal ?_)
          refine c_region ?_
          refine JL_run 2 [] [5, 7, 6, 4, 2] 3 ⟨[(5, vS r1.2.1), (7, vI 0), (6, .p 2 0), (4, .p 1 0), (2, .p 0 0)], [⟨100, [vI 0, vI 0, vI 0, vI 0, vI 0, vI 0, vS emp, vS emp, vI 0]⟩, ⟨100, [vI ((s.data.getD 0 0).toNat : Int), vI ((s.data.getD 1 0).toNat : Int), vI 0, vI 0, vI 0, vI 0, vS emp, vS emp, vI 0]⟩, ⟨155, [vI r1.1, vI 0, vI 0, vI 0, vI 0]⟩]⟩ [] [] (by kernel_rfl) on wn ?_
          refine l_nil (q_block_normal (q_then_normal ?_))
          refine c_region ?_
          refine JL_run 3 [] [7, 5, 6, 4, 2] 3 ⟨[(7, vI 1), (5, vS r1.2.1), (6, .p 2 0), (4, .p 1 0), (2, .p 0 0)], [⟨100, [vI 0, vI 0, vI 0, vI 0, vI 0, vI 0, vS emp, vS emp, vI 0]⟩, ⟨100, [vI ((s.data.getD 0 0).toNat : Int), vI ((s.data.getD 1 0).toNat : Int), vI 0, vI 0, vI 0, vI 0, vS emp, vS emp, vI 0]⟩, ⟨155, [vI r1.1, vI 0, vI 0, vI 0, vI 0]⟩]⟩ [inR (1)] [] (by kernel_rfl) (oc (by unfold inR; omega) on) wn ?_
          refine l_nil (q_round ?_)
          refine c_seq ?_
          refine c_seq ?_
          refine c_region ?_
          refine JL_run 2 [] [39, 7, 5, 6, 4, 2] 3 ⟨[(39, vB true), (7, vI 1), (5, vS r1.2.1), (6, .p 2 0), (4, .p 1 0), (2, .p 0 0)], [⟨100, [vI 0, vI 0, vI 0, vI 0, vI 0, vI 0, vS emp, vS emp, vI 0]⟩, ⟨100, [vI ((s.data.getD 0 0).toNat : Int), vI ((s.data.getD 1 0).toNat : Int), vI 0, vI 0, vI 0, vI 0, vS emp, vS emp, vI 0]⟩, ⟨155, [vI r1.1, vI 0, vI 0, vI 0, vI 0]⟩]⟩ [] [] (by kernel_rfl) on wn ?_
          refine l_nil (q_then_normal ?_)
          refine c_if true rfl ?_
          refine c_skip ?_
          refine q_then_normal ?_
          refine c_seq ?_
          refine c_block ?_
          refine c_seq ?_
          refine c_region ?_
          refine JL_run 1 [] [43, 7, 6, 4, 2] 3 ⟨[(43, vS r1.2.1), (7, vI 1), (6, .p 2 0), (4, .p 1 0), (2, .p 0 0)], [⟨100, [vI 0, vI 0, vI 0, vI 0, vI 0, vI 0, vS emp, vS emp, vI 0]⟩, ⟨100, [vI ((s.data.getD 0 0).toNat : Int), vI ((s.data.getD 1 0).toNat : Int), vI 0, vI 0, vI 0, vI 0, vS emp, vS emp, vI 0]⟩, ⟨155, [vI r1.1, vI 0, vI 0, vI 0, vI 0]⟩]⟩ [] [] (by kernel_rfl) on wn ?_
          refine l_pure 116 [] [vS r1.2.1] (.tuple #[.int .i64 ((mRead r1.2.1).1), .string ((mRead r1.2.1).2.1), .int .i64 ((mRead r1.2.1).2.2)]) Try.call116 rfl rfl rfl rfl (fun bs w hS => ref_NumberOf _ w (by first | assumption | omega | (simp only [emp_size]; omega))) ?_
          have hzr2 := mRead_bd r1.2.1
          generalize hr2 : mRead r1.2.1 = r2 at hzr2 ⊢
          refine JL_run 7 [] [10, 9, 8, 7, 6, 4, 2] 3 ⟨[(10, vI r2.2.2), (9, vS r2.2.1), (8, vI r2.1), (7, vI 1), (6, .p 2 0), (4, .p 1 0), (2, .p 0 0)], [⟨100, [vI 0, vI 0, vI 0, vI 0, vI 0, vI 0, vS emp, vS emp, vI 0]⟩, ⟨100, [vI ((s.data.getD 0 0).toNat : Int), vI ((s.data.getD 1 0).toNat : Int), vI 0, vI 0, vI 0, vI 0, vS emp, vS emp, vI 0]⟩, ⟨155, [vI r1.1, vI 0, vI 0, vI 0, vI 0]⟩]⟩ [] [] (by kernel_rfl) on wn ?_
          refine l_nil (q_then_normal ?_)
          refine c_seq ?_
          refine c_seq ?_
          refine c_region ?_
          refine JL_run 2 [] [49, 10, 9, 8, 7, 6, 4, 2] 3 ⟨[(49, vB (!(decide (r2.2.2 = 0)))), (10, vI r2.2.2), (9, vS r2.2.1), (8, vI r2.1), (7, vI 1), (6, .p 2 0), (4, .p 1 0), (2, .p 0 0)], [⟨100, [vI 0, vI 0, vI 0, vI 0, vI 0, vI 0, vS emp, vS emp, vI 0]⟩, ⟨100, [vI ((s.data.getD 0 0).toNat : Int), vI ((s.data.getD 1 0).toNat : Int), vI 0, vI 0, vI 0, vI 0, vS emp, vS emp, vI 0]⟩, ⟨155, [vI r1.1, vI 0, vI 0, vI 0, vI 0]⟩]⟩ [] [] (by kernel_rfl) on wn ?_
          refine l_nil (q_then_normal ?_)
          cases h5 : decide (r2.2.2 = 0) with
          | true =>
            have h5 := of_decide_eq_true h5
            refine c_if false rfl ?_
            refine c_skip ?_
            refine q_then_normal ?_
            refine c_seq ?_
            refine c_region ?_
            refine JL_run 4 [(2, .idx default 1)] [9, 7, 6, 4, 2] 3 ⟨[(9, vS r2.2.1), (7, vI 1), (6, .p 2 0), (4, .p 1 0), (2, .p 0 0)], [⟨100, [vI 0, vI 0, vI 0, vI 0, vI 0, vI 0, vS emp, vS emp, vI 0]⟩, ⟨100, [vI ((s.data.getD 0 0).toNat : Int), vI ((s.data.getD 1 0).toNat : Int), vI 0, vI 0, vI 0, vI 0, vS emp, vS emp, vI 0]⟩, ⟨155, [vI r1.1, vI r2.1, vI 0, vI 0, vI 0]⟩]⟩ [(1 : Int) = ((1 : Nat) : Int), 1 < 5] [] (by kernel_rfl) (oc rfl (oc (by omega) on)) wn ?_
            refine l_nil (q_then_normal ?_)
            refine c_region ?_
            refine JL_run 2 [] [5, 7, 6, 4, 2] 3 ⟨[(5, vS r2.2.1), (7, vI 1), (6, .p 2 0), (4, .p 1 0), (2, .p 0 0)], [⟨100, [vI 0, vI 0, vI 0, vI 0, vI 0, vI 0, vS emp, vS emp, vI 0]⟩, ⟨100, [vI ((s.data.getD 0 0).toNat : Int), vI ((s.data.getD 1 0).toNat : Int), vI 0, vI 0, vI 0, vI 0, vS emp, vS emp, vI 0]⟩, ⟨155, [vI r1.1, vI r2.1, vI 0, vI 0, vI 0]⟩]⟩ [] [] (by kernel_rfl) on wn ?_
            refine l_nil (q_block_normal (q_then_normal ?_))
            refine c_region ?_
            refine JL_run 3 [] [7, 5, 6, 4, 2] 3 ⟨[(7, vI 2), (5, vS r2.2.1), (6, .p 2 0), (4, .p 1 0), (2, .p 0 0)], [⟨100, [vI 0, vI 0, vI 0, vI 0, vI 0, vI 0, vS emp, vS emp, vI 0]⟩, ⟨100, [vI ((s.data.getD 0 0).toNat : Int), vI ((s.data.getD 1 0).toNat : Int), vI 0, vI 0, vI 0, vI 0, vS emp, vS emp, vI 0]⟩, ⟨155, [vI r1.1, vI r2.1, vI 0, vI 0, vI 0]⟩]⟩ [inR (2)] [] (by kernel_rfl) (oc (by unfold inR; omega) on) wn ?_
            refine l_nil (q_round ?_)
            refine c_seq ?_
            refine c_seq ?_
            refine c_region ?_
            refine JL_run 2 [] [39, 7, 5, 6, 4, 2] 3 ⟨[(39, vB true), (7, vI 2), (5, vS r2.2.1), (6, .p 2 0), (4, .p 1 0), (2, .p 0 0)], [⟨100, [vI 0, vI 0, vI 0, vI 0, vI 0, vI 0, vS emp, vS emp, vI 0]⟩, ⟨100, [vI ((s.data.getD 0 0).toNat : Int), vI ((s.data.getD 1 0).toNat : Int), vI 0, vI 0, vI 0, vI 0, vS emp, vS emp, vI 0]⟩, ⟨155, [vI r1.1, vI r2.1, vI 0, vI 0, vI 0]⟩]⟩ [] [] (by kernel_rfl) on wn ?_
            refine l_nil (q_then_normal ?_)
            refine c_if true rfl ?_
            refine c_skip ?_
            refine q_then_normal ?_
            refine c_seq ?_
            refine c_block ?_
            refine c_seq ?_
            refine c_region ?_
            refine JL_run 1 [] [43, 7, 6, 4, 2] 3 ⟨[(43, vS r2.2.1), (7, vI 2), (6, .p 2 0), (4, .p 1 0), (2, .p 0 0)], [⟨100, [vI 0, vI 0, vI 0, vI 0, vI 0, vI 0, vS emp, vS emp, vI 0]⟩, ⟨100, [vI ((s.data.getD 0 0).toNat : Int), vI ((s.data.getD 1 0).toNat : Int), vI 0, vI 0, vI 0, vI 0, vS emp, vS emp, vI 0]⟩, ⟨155, [vI r1.1, vI r2.1, vI 0, vI 0, vI 0]⟩]⟩ [] [] (by kernel_rfl) on wn ?_
            refine l_pure 116 [] [vS r2.2.1] (.tuple #[.int .i64 ((mRead r2.2.1).1), .string ((mRead r2.2.1).2.1), .int .i64 ((mRead r2.2.1).2.2)]) Try.call116 rfl rfl rfl rfl (fun bs w hS => ref_NumberOf _ w (by first | assumption | omega | (simp only [emp_size]; omega))) ?_
            have hzr3 := mRead_bd r2.2.1
            generalize hr3 : mRead r2.2.1 = r3 at hzr3 ⊢
            refine JL_run 7 [] [10, 9, 8, 7, 6, 4, 2] 3 ⟨[(10, vI r3.2.2), (9, vS r3.2.1), (8, vI r3.1), (7, vI 2), (6, .p 2 0), (4, .p 1 0), (2, .p 0 0)], [⟨100, [vI 0, vI 0, vI 0, vI 0, vI 0, vI 0, vS emp, vS emp, vI 0]⟩, ⟨100, [vI ((s.data.getD 0 0).toNat : Int), vI ((s.data.getD 1 0).toNat : Int), vI 0, vI 0, vI 0, vI 0, vS emp, vS emp, vI 0]⟩, ⟨155, [vI r1.1, vI r2.1, vI 0, vI 0, vI 0]⟩]⟩ [] [] (by kernel_rfl) on wn ?_
            refine l_nil (q_then_normal ?_)
            refine c_seq ?_
            refine c_seq ?_
            refine c_region ?_
            refine JL_run 2 [] [49, 10, 9, 8, 7, 6, 4, 2] 3 ⟨[(49, vB (!(decide (r3.2.2 = 0)))), (10, vI r3.2.2), (9, vS r3.2.1), (8, vI r3.1), (7, vI 2), (6, .p 2 0), (4, .p 1 0), (2, .p 0 0)], [⟨100, [vI 0, vI 0, vI 0, vI 0, vI 0, vI 0, vS emp, vS emp, vI 0]⟩, ⟨100, [vI ((s.data.getD 0 0).toNat : Int), vI ((s.data.getD 1 0).toNat : Int), vI 0, vI 0, vI 0, vI 0, vS emp, vS emp, vI 0]⟩, ⟨155, [vI r1.1, vI r2.1, vI 0, vI 0, vI 0]⟩]⟩ [] [] (by kernel_rfl) on wn ?_
            refine l_nil (q_then_normal ?_)
            cases h6 : decide (r3.2.2 = 0) with
            | true =>
              have h6 := of_decide_eq_true h6
              refine c_if false rfl ?_
              refine c_skip ?_
              refine q_then_normal ?_
              refine c_seq ?_
              refine c_region ?_
              refine JL_run 4 [(2, .idx default 2)] [9, 7, 6, 4, 2] 3 ⟨[(9, vS r3.2.1), (7, vI 2), (6, .p 2 0), (4, .p 1 0), (2, .p 0 0)], [⟨100, [vI 0, vI 0, vI 0, vI 0, vI 0, vI 0, vS emp, vS emp, vI 0]⟩, ⟨100, [vI ((s.data.getD 0 0).toNat : Int), vI ((s.data.getD 1 0).toNat : Int), vI 0, vI 0, vI 0, vI 0, vS emp, vS emp, vI 0]⟩, ⟨155, [vI r1.1, vI r2.1, vI r3.1, vI 0, vI 0]⟩]⟩ [(2 : Int) = ((2 : Nat) : Int), 2 < 5] [] (by kernel_rfl) (oc rfl (oc (by omega) on)) wn ?_
              refine l_nil (q_then_normal ?_)
              refine c_region ?_
              refine JL_run 2 [] [5, 7, 6, 4, 2] 3 ⟨[(5, vS r3.2.1), (7, vI 2), (6, .p 2 0), (4, .p 1 0), (2, .p 0 0)], [⟨100, [vI 0, vI 0, vI 0, vI 0, vI 0, vI 0, vS emp, vS emp, vI 0]⟩, ⟨100, [vI ((s.data.getD 0 0).toNat : Int), vI ((s.data.getD 1 0).toNat : Int), vI 0, vI 0, vI 0, vI 0, vS emp, vS emp, vI 0]⟩, ⟨155, [vI r1.1, vI r2.1, vI r3.1, vI 0, vI 0]⟩]⟩ [] [] (by kernel_rfl) on wn ?_
              refine l_nil (q_block_normal (q_then_normal ?_))
              refine c_region ?_
              refine JL_run 3 [] [7, 5, 6, 4, 2] 3 ⟨[(7, vI 3), (5, vS r3.2.1), (6, .p 2 0), (4, .p 1 0), (2, .p 0 0)], [⟨100, [vI 0, vI 0, vI 0, vI 0, vI 0, vI 0, vS emp, vS emp, vI 0]⟩, ⟨100, [vI ((s.data.getD 0 0).toNat : Int), vI ((s.data.getD 1 0).toNat : Int), vI 0, vI 0, vI 0, vI 0, vS emp, vS emp, vI 0]⟩, ⟨155, [vI r1.1, vI r2.1, vI r3.1, vI 0, vI 0]⟩]⟩ [inR (3)] [] (by kernel_rfl) (oc (by unfold inR; omega) on) wn ?_
              refine l_nil (q_round ?_)
              refine c_seq ?_
              refine c_seq ?_
              refine c_region ?_
              refine JL_run 2 [] [39, 7, 5, 6, 4, 2] 3 ⟨[(39, vB true), (7, vI 3), (5, vS r3.2.1), (6, .p 2 0), (4, .p 1 0), (2, .p 0 0)], [⟨100, [vI 0, vI 0, vI 0, vI 0, vI 0, vI 0, vS emp, vS emp, vI 0]⟩, ⟨100, [vI ((s.data.getD 0 0).toNat : Int), vI ((s.data.getD 1 0).toNat : Int), vI 0, vI 0, vI 0, vI 0, vS emp, vS emp, vI 0]⟩, ⟨155, [vI r1.1, vI r2.1, vI r3.1, vI 0, vI 0]⟩]⟩ [] [] (by kernel_rfl) on wn ?_
              refine l_nil (q_then_normal ?_)
              refine c_if true rfl ?_
              refine c_skip ?_
              refine q_then_normal ?_
              refine c_seq ?_
              refine c_block ?_
              refine c_seq ?_
              refine c_region ?_
              refine JL_run 1 [] [43, 7, 6, 4, 2] 3 ⟨[(43, vS r3.2.1), (7, vI 3), (6, .p 2 0), (4, .p 1 0), (2, .p 0 0)], [⟨100, [vI 0, vI 0, vI 0, vI 0, vI 0, vI 0, vS emp, vS emp, vI 0]⟩, ⟨100, [vI ((s.data.getD 0 0).toNat : Int), vI ((s.data.getD 1 0).toNat : Int), vI 0, vI 0, vI 0, vI 0, vS emp, vS emp, vI 0]⟩, ⟨155, [vI r1.1, vI r2.1, vI r3.1, vI 0, vI 0]⟩]⟩ [] [] (by kernel_rfl) on wn ?_
              refine l_pure 116 [] [vS r3.2.1] (.tuple #[.int .i64 ((mRead r3.2.1).1), .string ((mRead r3.2.1).2.1), .int .i64 ((mRead r3.2.1).2.2)]) Try.call116 rfl rfl rfl rfl (fun bs w hS => ref_NumberOf _ w (by first | assumption | omega | (simp only [emp_size]; omega))) ?_
              have hzr4 := mRead_bd r3.2.1
              generalize hr4 : mRead r3.2.1 = r4 at hzr4 ⊢
              refine JL_run 7 [] [10, 9, 8, 7, 6, 4, 2] 3 ⟨[(10, vI r4.2.2), (9, vS r4.2.1), (8, vI r4.1), (7, vI 3), (6, .p 2 0), (4, .p 1 0), (2, .p 0 0)], [⟨100, [vI 0, vI 0, vI 0, vI 0, vI 0, vI 0, vS emp, vS emp, vI 0]⟩, ⟨100, [vI ((s.data.getD 0 0).toNat : Int), vI ((s.data.getD 1 0).toNat : Int), vI 0, vI 0, vI 0, vI 0, vS emp, vS emp, vI 0]⟩, ⟨155, [vI r1.1, vI r2.1, vI r3.1, vI 0, vI 0]⟩]⟩ [] [] (by kernel_rfl) on wn ?_
              refine l_nil (q_then_normal ?_)
              refine c_seq ?_
              refine c_seq ?_
              refine c_region ?_
              refine JL_run 2 [] [49, 10, 9, 8, 7, 6, 4, 2] 3 ⟨[(49, vB (!(decide (r4.2.2 = 0)))), (10, vI r4.2.2), (9, vS r4.2.1), (8, vI r4.1), (7, vI 3), (6, .p 2 0), (4, .p 1 0), (2, .p 0 0)], [⟨100, [vI 0, vI 0, vI 0, vI 0, vI 0, vI 0, vS emp, vS emp, vI 0]⟩, ⟨100, [vI ((s.data.getD 0 0).toNat : Int), vI ((s.data.getD 1 0).toNat : Int), vI 0, vI 0, vI 0, vI 0, vS emp, vS emp, vI 0]⟩, ⟨155, [vI r1.1, vI r2.1, vI r3.1, vI 0, vI 0]⟩]⟩ [] [] (by kernel_rfl) on wn ?_
              refine l_nil (q_then_normal ?_)
              cases h7 : decide (r4.2.2 = 0) with
              | true =>
                have h7 := of_decide_eq_true h7
                refine c_if false rfl ?_
                refine c_skip ?_
                refine q_then_normal ?_
                refine c_seq ?_
                refine c_region ?_
                refine JL_run 4 [(2, .idx default 3)] [9, 7, 6, 4, 2] 3 ⟨[(9, vS r4.2.1), (7, vI 3), (6, .p 2 0), (4, .p 1 0), (2, .p 0 0)], [⟨100, [vI 0, vI 0, vI 0, vI 0, vI 0, vI 0, vS emp, vS emp, vI 0]⟩, ⟨100, [vI ((s.data.getD 0 0).toNat : Int), vI ((s.data.getD 1 0).toNat : Int), vI 0, vI 0, vI 0, vI 0, vS emp, vS emp, vI 0]⟩, ⟨155, [vI r1.1, vI r2.1, vI r3.1, vI r4.1, vI 0]⟩]⟩ [(3 : Int) = ((3 : Nat) : Int), 3 < 5] [] (by kernel_rfl) (oc rfl (oc (by omega) on)) wn ?_
                refine l_nil (q_then_normal ?_)
                refine c_region ?_
                refine JL_run 2 [] [5, 7, 6, 4, 2] 3 ⟨[(5, vS r4.2.1), (7, vI 3), (6, .p 2 0), (4, .p 1 0), (2, .p 0 0)], [⟨100, [vI 0, vI 0, vI 0, vI 0, vI 0, vI 0, vS emp, vS emp, vI 0]⟩, ⟨100, [vI ((s.data.getD 0 0).toNat : Int), vI ((s.data.getD 1 0).toNat : Int), vI 0, vI 0, vI 0, vI 0, vS emp, vS emp, vI 0]⟩, ⟨155, [vI r1.1, vI r2.1, vI r3.1, vI r4.1, vI 0]⟩]⟩ [] [] (by kernel_rfl) on wn ?_
                refine l_nil (q_block_normal (q_then_normal ?_))
                refine c_region ?_
                refine JL_run 3 [] [7, 5, 6, 4, 2] 3 ⟨[(7, vI 4), (5, vS r4.2.1), (6, .p 2 0), (4, .p 1 0), (2, .p 0 0)], [⟨100, [vI 0, vI 0, vI 0, vI 0, vI 0, vI 0, vS emp, vS emp, vI 0]⟩, ⟨100, [vI ((s.data.getD 0 0).toNat : Int), vI ((s.data.getD 1 0).toNat : Int), vI 0, vI 0, vI 0, vI 0, vS emp, vS emp, vI 0]⟩, ⟨155, [vI r1.1, vI r2.1, vI r3.1, vI r4.1, vI 0]⟩]⟩ [inR (4)] [] (by kernel_rfl) (oc (by unfold inR; omega) on) wn ?_
                refine l_nil (q_round ?_)
                refine c_seq ?_
                refine c_seq ?_
                refine c_region ?_
                refine JL_run 2 [] [39, 7, 5, 6, 4, 2] 3 ⟨[(39, vB true), (7, vI 4), (5, vS r4.2.1), (6, .p 2 0), (4, .p 1 0), (2, .p 0 0)], [⟨100, [vI 0, vI 0, vI 0, vI 0, vI 0, vI 0, vS emp, vS emp, vI 0]⟩, ⟨100, [vI ((s.data.getD 0 0).toNat : Int), vI ((s.data.getD 1 0).toNat : Int), vI 0, vI 0, vI 0, vI 0, vS emp, vS emp, vI 0]⟩, ⟨155, [vI r1.1, vI r2.1, vI r3.1, vI r4.1, vI 0]⟩]⟩ [] [] (by kernel_rfl) on wn ?_
                refine l_nil (q_then_normal ?_)
                refine c_if true rfl ?_
                refine c_skip ?_
                refine q_then_normal ?_
                refine c_seq ?_
                refine c_block ?_
                refine c_seq ?_
                refine c_region ?_
                refine JL_run 1 [] [43, 7, 6, 4, 2] 3 ⟨[(43, vS r4.2.1), (7, vI 4), (6, .p 2 0), (4, .p 1 0), (2, .p 0 0)], [⟨100, [vI 0, vI 0, vI 0, vI 0, vI 0, vI 0, vS emp, vS emp, vI 0]⟩, ⟨100, [vI ((s.data.getD 0 0).toNat : Int), vI ((s.data.getD 1 0).toNat : Int), vI 0, vI 0, vI 0, vI 0, vS emp, vS emp, vI 0]⟩, ⟨155, [vI r1.1, vI r2.1, vI r3.1, vI r4.1, vI 0]⟩]⟩ [] [] (by kernel_rfl) on wn ?_
                refine l_pure 116 [] [vS r4.2.1] (.tuple #[.int .i64 ((mRead r4.2.1).1), .string ((mRead r4.2.1).2.1), .int .i64 ((mRead r4.2.1).2.2)]) Try.call116 rfl rfl rfl rfl (fun bs w hS => ref_NumberOf _ w (by first | assumption | omega | (simp only [emp_size]; omega))) ?_
                have hzr5 := mRead_bd r4.2.1
                generalize hr5 : mRead r4.2.1 = r5 at hzr5 ⊢
                refine JL_run 7 [] [10, 9, 8, 7, 6, 4, 2] 3 ⟨[(10, vI r5.2.2), (9, vS r5.2.1), (8, vI r5.1), (7, vI 4), (6, .p 2 0), (4, .p 1 0), (2, .p 0 0)], [⟨100, [vI 0, vI 0, vI 0, vI 0, vI 0, vI 0, vS emp, vS emp, vI 0]⟩, ⟨100, [vI ((s.data.getD 0 0).toNat : Int), vI ((s.data.getD 1 0).toNat : Int), vI 0, vI 0, vI 0, vI 0, vS emp, vS emp, vI 0]⟩, ⟨155, [vI r1.1, vI r2.1, vI r3.1, vI r4.1, vI 0]⟩]⟩ [] [] (by kernel_rfl) on wn ?_
                refine l_nil (q_then_normal ?_)
                refine c_seq ?_
                refine c_seq ?_
                refine c_region ?_
                refine JL_run 2 [] [49, 10, 9, 8, 7, 6, 4, 2] 3 ⟨[(49, vB (!(decide (r5.2.2 = 0)))), (10, vI r5.2.2), (9, vS r5.2.1), (8, vI r5.1), (7, vI 4), (6, .p 2 0), (4, .p 1 0), (2, .p 0 0)], [⟨100, [vI 0, vI 0, vI 0, vI 0, vI 0, vI 0, vS emp, vS emp, vI 0]⟩, ⟨100, [vI ((s.data.getD 0 0).toNat : Int), vI ((s.data.getD 1 0).toNat : Int), vI 0, vI 0, vI 0, vI 0, vS emp, vS emp, vI 0]⟩, ⟨155, [vI r1.1, vI r2.1, vI r3.1, vI r4.1, vI 0]⟩]⟩ [] [] (by kernel_rfl) on wn ?_
                refine l_nil (q_then_normal ?_)
                cases h8 : decide (r5.2.2 = 0) with
                | true =>
                  have h8 := of_decide_eq_true h8
                  refine c_if false rfl ?_
                  refine c_skip ?_
                  refine q_then_normal ?_
                  refine c_seq ?_
                  refine c_region ?_
                  refine JL_run 4 [(2, .idx default 4)] [9, 7, 6, 4, 2] 3 ⟨[(9, vS r5.2.1), (7, vI 4), (6, .p 2 0), (4, .p 1 0), (2, .p 0 0)], [⟨100, [vI 0, vI 0, vI 0, vI 0, vI 0, vI 0, vS emp, vS emp, vI 0]⟩, ⟨100, [vI ((s.data.getD 0 0).toNat : Int), vI ((s.data.getD 1 0).toNat : Int), vI 0, vI 0, vI 0, vI 0, vS emp, vS emp, vI 0]⟩, ⟨155, [vI r1.1, vI r2.1, vI r3.1, vI r4.1, vI r5.1]⟩]⟩ [(4 : Int) = ((4 : Nat) : Int), 4 < 5] [] (by kernel_rfl) (oc rfl (oc (by omega) on)) wn ?_
                  refine l_nil (q_then_normal ?_)
                  refine c_region ?_
                  refine JL_run 2 [] [5, 7, 6, 4, 2] 3 ⟨[(5, vS r5.2.1), (7, vI 4), (6, .p 2 0), (4, .p 1 0), (2, .p 0 0)], [⟨100, [vI 0, vI 0, vI 0, vI 0, vI 0, vI 0, vS emp, vS emp, vI 0]⟩, ⟨100, [vI ((s.data.getD 0 0).toNat : Int), vI ((s.data.getD 1 0).toNat : Int), vI 0, vI 0, vI 0, vI 0, vS emp, vS emp, vI 0]⟩, ⟨155, [vI r1.1, vI r2.1, vI r3.1, vI r4.1, vI r5.1]⟩]⟩ [] [] (by kernel_rfl) on wn ?_
                  refine l_nil (q_block_normal (q_then_normal ?_))
                  refine c_region ?_
                  refine JL_run 3 [] [7, 5, 6, 4, 2] 3 ⟨[(7, vI 5), (5, vS r5.2.1), (6, .p 2 0), (4, .p 1 0), (2, .p 0 0)], [⟨100, [vI 0, vI 0, vI 0, vI 0, vI 0, vI 0, vS emp, vS emp, vI 0]⟩, ⟨100, [vI ((s.data.getD 0 0).toNat : Int), vI ((s.data.getD 1 0).toNat : Int), vI 0, vI 0, vI 0, vI 0, vS emp, vS emp, vI 0]⟩, ⟨155, [vI r1.1, vI r2.1, vI r3.1, vI r4.1, vI r5.1]⟩]⟩ [inR (5)] [] (by kernel_rfl) (oc (by unfold inR; omega) on) wn ?_
                  refine l_nil (q_round ?_)
                  refine c_seq ?_
                  refine c_seq ?_
                  refine c_region ?_
                  refine JL_run 2 [] [39, 7, 5, 6, 4, 2] 3 ⟨[(39, vB false), (7, vI 5), (5, vS r5.2.1), (6, .p 2 0), (4, .p 1 0), (2, .p 0 0)], [⟨100, [vI 0, vI 0, vI 0, vI 0, vI 0, vI 0, vS emp, vS emp, vI 0]⟩, ⟨100, [vI ((s.data.getD 0 0).toNat : Int), vI ((s.data.getD 1 0).toNat : Int), vI 0, vI 0, vI 0, vI 0, vS emp, vS emp, vI 0]⟩, ⟨155, [vI r1.1, vI r2.1, vI r3.1, vI r4.1, vI r5.1]⟩]⟩ [] [] (by kernel_rfl) on wn ?_
                  refine l_nil (q_then_normal ?_)
                  refine c_if false rfl ?_
                  refine c_exit ?_
                  refine q_then_exit (q_then_exit (q_block_hit (q_then_normal ?_)))
                  refine c_seq ?_
                  refine c_region ?_
                  refine JL_run 4 [(0, .idx default 0)] [5, 6, 4, 2] 3 ⟨[(5, vS r5.2.1), (6, .p 2 0), (4, .p 1 0), (2, .p 0 0)], [⟨100, [vI 0, vI 0, vI 0, vI 0, vI 0, vI 0, vS emp, vS emp, vI 0]⟩, ⟨100, [vI ((s.data.getD 0 0).toNat : Int), vI ((s.data.getD 1 0).toNat : Int), vI r1.1, vI 0, vI 0, vI 0, vS emp, vS emp, vI 0]⟩, ⟨155, [vI r1.1, vI r2.1, vI r3.1, vI r4.1, vI r5.1]⟩]⟩ [(0 : Int) = ((0 : Nat) : Int), 0 < 5] [] (by kernel_rfl) (oc rfl (oc (by omega) on)) wn ?_
                  refine l_nil (q_then_normal ?_)
                  refine c_seq ?_
                  refine c_region ?_
                  refine JL_run 4 [(0, .idx default 1)] [5, 6, 4, 2] 3 ⟨[(5, vS r5.2.1), (6, .p 2 0), (4, .p 1 0), (2, .p 0 0)], [⟨100, [vI 0, vI 0, vI 0, vI 0, vI 0, vI 0, vS emp, vS emp, vI 0]⟩, ⟨100, [vI ((s.data.getD 0 0).toNat : Int), vI ((s.data.getD 1 0).toNat : Int), vI r1.1, vI r2.1, vI 0, vI 0, vS emp, vS emp, vI 0]⟩, ⟨155, [vI r1.1, vI r2.1, vI r3.1, vI r4.1, vI r5.1]⟩]⟩ [(1 : Int) = ((1 : Nat) : Int), 1 < 5] [] (by kernel_rfl) (oc rfl (oc (by omega) on)) wn ?_
                  refine l_nil (q_then_normal ?_)
                  refine c_seq ?_
                  refine c_region ?_
                  refine JL_run 4 [(0, .idx default 2)] [5, 6, 4, 2] 3 ⟨[(5, vS r5.2.1), (6, .p 2 0), (4, .p 1 0), (2, .p 0 0)], [⟨100, [vI 0, vI 0, vI 0, vI 0, vI 0, vI 0, vS emp, vS emp, vI 0]⟩, ⟨100, [vI ((s.data.getD 0 0).toNat : Int), vI ((s.data.getD 1 0).toNat : Int), vI r1.1, vI r2.1, vI r3.1, vI 0, vS emp, vS emp, vI 0]⟩, ⟨155, [vI r1.1, vI r2.1, vI r3.1, vI r4.1, vI r5.1]⟩]⟩ [(2 : Int) = ((2 : Nat) : Int), 2 < 5] [] (by kernel_rfl) (oc rfl (oc (by omega) on)) wn ?_
                  refine l_nil (q_then_normal ?_)
                  refine c_seq ?_
                  refine c_region ?_
                  refine JL_run 5 [(0, .idx default 3)] [5, 6, 4, 2] 3 ⟨[(5, vS r5.2.1), (6, .p 2 0), (4, .p 1 0), (2, .p 0 0)], [⟨100, [vI 0, vI 0, vI 0, vI 0, vI 0, vI 0, vS emp, vS emp, vI 0]⟩, ⟨100, [vI ((s.data.getD 0 0).toNat : Int), vI ((s.data.getD 1 0).toNat : Int), vI r1.1, vI r2.1, vI r3.1, vI r4.1, vS emp, vS emp, vI 0]⟩, ⟨155, [vI r1.1, vI r2.1, vI r3.1, vI r4.1, vI r5.1]⟩]⟩ [(3 : Int) = ((3 : Nat) : Int), 3 < 5] [] (by kernel_rfl) (oc rfl (oc (by omega) on)) wn ?_
                  refine l_nil (q_then_normal ?_)
                  refine c_seq ?_
                  refine c_region ?_
                  refine JL_run 5 [(0, .idx default 4)] [5, 4, 2] 2 ⟨[(5, vS r5.2.1), (4, .p 1 0), (2, .p 0 0)], [⟨100, [vI 0, vI 0, vI 0, vI 0, vI 0, vI 0, vS emp, vS emp, vI 0]⟩, ⟨100, [vI ((s.data.getD 0 0).toNat : Int), vI ((s.data.getD 1 0).toNat : Int), vI r1.1, vI r2.1, vI r3.1, vI r4.1, vS emp, vS emp, vI r5.1]⟩]⟩ [(4 : Int) = ((4 : Nat) : Int), 4 < 5] [] (by kernel_rfl) (oc rfl (oc (by omega) on)) wn ?_
                  refine l_nil (q_then_normal ?_)
                  refine c_seq ?_
                  refine c_region ?_
                  refine JL_run 1 [] [74, 4, 2] 2 ⟨[(74, vS r5.2.1), (4, .p 1 0), (2, .p 0 0)], [⟨100, [vI 0, vI 0, vI 0, vI 0, vI 0, vI 0, vS emp, vS emp, vI 0]⟩, ⟨100, [vI ((s.data.getD 0 0).toNat : Int), vI ((s.data.getD 1 0).toNat : Int), vI r1.1, vI r2.1, vI r3.1, vI r4.1, vS emp, vS emp, vI r5.1]⟩]⟩ [] [] (by kernel_rfl) on wn ?_
                  refine l_pure 117 [] [vS r5.2.1] (.tuple #[.string ((mTell r5.2.1).1), .string ((mTell r5.2.1).2.1), .int .i64 ((mTell r5.2.1).2.2)]) Try.call117 rfl rfl rfl rfl (fun bs w hS => ref_TextOf _ w (by first | assumption | omega | (simp only [emp_size]; omega))) ?_
                  have hzr6 := mTell_bd r5.2.1
                  generalize hr6 : mTell r5.2.1 = r6 at hzr6 ⊢
                  refine JL_run 7 [] [13, 12, 11, 4, 2] 2 ⟨[(13, vI r6.2.2), (12, vS r6.2.1), (11, vS r6.1), (4, .p 1 0), (2, .p 0 0)], [⟨100, [vI 0, vI 0, vI 0, vI 0, vI 0, vI 0, vS emp, vS emp, vI 0]⟩, ⟨100, [vI ((s.data.getD 0 0).toNat : Int), vI ((s.data.getD 1 0).toNat : Int), vI r1.1, vI r2.1, vI r3.1, vI r4.1, vS emp, vS emp, vI r5.1]⟩]⟩ [] [] (by kernel_rfl) on wn ?_
                  refine l_nil (q_then_normal ?_)
                  refine c_seq ?_
                  refine c_seq ?_
                  refine c_region ?_
                  refine JL_run 2 [] [80, 13, 12, 11, 4, 2] 2 ⟨[(80, vB (!(decide (r6.2.2 = 0)))), (13, vI r6.2.2), (12, vS r6.2.1), (11, vS r6.1), (4, .p 1 0), (2, .p 0 0)], [⟨100, [vI 0, vI 0, vI 0, vI 0, vI 0, vI 0, vS emp, vS emp, vI 0]⟩, ⟨100, [vI ((s.data.getD 0 0).toNat : Int), vI ((s.data.getD 1 0).toNat : Int), vI r1.1, vI r2.1, vI r3.1, vI r4.1, vS emp, vS emp, vI r5.1]⟩]⟩ [] [] (by kernel_rfl) on wn ?_
                  refine l_nil (q_then_normal ?_)
                  cases h9 : decide (r6.2.2 = 0) with
                  | true =>
                    have h9 := of_decide_eq_true h9
                    refine c_if false rfl ?_
                    refine c_skip ?_
                    refine q_then_normal ?_
                    refine c_seq ?_
                    refine c_region ?_
                    refine JL_run 1 [] [84, 11, 4, 2] 2 ⟨[(84, vS r6.2.1), (11, vS r6.1), (4, .p 1 0), (2, .p 0 0)], [⟨100, [vI 0, vI 0, vI 0, vI 0, vI 0, vI 0, vS emp, vS emp, vI 0]⟩, ⟨100, [vI ((s.data.getD 0 0).toNat : Int), vI ((s.data.getD 1 0).toNat : Int), vI r1.1, vI r2.1, vI r3.1, vI r4.1, vS emp, vS emp, vI r5.1]⟩]⟩ [] [] (by kernel_rfl) on wn ?_
                    refine l_pure 117 [] [vS r6.2.1] (.tuple #[.string ((mTell r6.2.1).1), .string ((mTell r6.2.1).2.1), .int .i64 ((mTell r6.2.1).2.2)]) Try.call117 rfl rfl rfl rfl (fun bs w hS => ref_TextOf _ w (by first | assumption | omega | (simp only [emp_size]; omega))) ?_
                    have hzr7 := mTell_bd r6.2.1
                    generalize hr7 : mTell r6.2.1 = r7 at hzr7 ⊢
                    refine JL_run 7 [] [16, 15, 14, 11, 4, 2] 2 ⟨[(16, vI r7.2.2), (15, vS r7.2.1), (14, vS r7.1), (11, vS r6.1), (4, .p 1 0), (2, .p 0 0)], [⟨100, [vI 0, vI 0, vI 0, vI 0, vI 0, vI 0, vS emp, vS emp, vI 0]⟩, ⟨100, [vI ((s.data.getD 0 0).toNat : Int), vI ((s.data.getD 1 0).toNat : Int), vI r1.1, vI r2.1, vI r3.1, vI r4.1, vS emp, vS emp, vI r5.1]⟩]⟩ [] [] (by kernel_rfl) on wn ?_
                    refine l_nil (q_then_normal ?_)
                    refine c_seq ?_
                    refine c_seq ?_
                    refine c_region ?_
                    refine JL_run 2 [] [90, 16, 15, 14, 11, 4, 2] 2 ⟨[(90, vB (!(decide (r7.2.2 = 0)))), (16, vI r7.2.2), (15, vS r7.2.1), (14, vS r7.1), (11, vS r6.1), (4, .p 1 0), (2, .p 0 0)], [⟨100, [vI 0, vI 0, vI 0, vI 0, vI 0, vI 0, vS emp, vS emp, vI 0]⟩, ⟨100, [vI ((s.data.getD 0 0).toNat : Int), vI ((s.data.getD 1 0).toNat : Int), vI r1.1, vI r2.1, vI r3.1, vI r4.1, vS emp, vS emp, vI r5.1]⟩]⟩ [] [] (by kernel_rfl) on wn ?_
                    refine l_nil (q_then_normal ?_)
                    cases h10 : decide (r7.2.2 = 0) with
                    | true =>
                      have h10 := of_decide_eq_true h10
                      refine c_if false rfl ?_
                      refine c_skip ?_
                      refine q_then_normal ?_
                      refine c_seq ?_
                      refine c_region ?_
                      refine JL_run 4 [] [15, 14, 4, 2] 2 ⟨[(15, vS r7.2.1), (14, vS r7.1), (4, .p 1 0), (2, .p 0 0)], [⟨100, [vI 0, vI 0, vI 0, vI 0, vI 0, vI 0, vS emp, vS emp, vI 0]⟩, ⟨100, [vI ((s.data.getD 0 0).toNat : Int), vI ((s.data.getD 1 0).toNat : Int), vI r1.1, vI r2.1, vI r3.1, vI r4.1, vS r6.1, vS emp, vI r5.1]⟩]⟩ [] [] (by kernel_rfl) on wn ?_
                      refine l_nil (q_then_normal ?_)
                      refine c_seq ?_
                      refine c_region ?_
                      refine JL_run 4 [] [15, 4, 2] 2 ⟨[(15, vS r7.2.1), (4, .p 1 0), (2, .p 0 0)], [⟨100, [vI 0, vI 0, vI 0, vI 0, vI 0, vI 0, vS emp, vS emp, vI 0]⟩, ⟨100, [vI ((s.data.getD 0 0).toNat : Int), vI ((s.data.getD 1 0).toNat : Int), vI r1.1, vI r2.1, vI r3.1, vI r4.1, vS r6.1, vS r7.1, vI r5.1]⟩]⟩ [] [] (by kernel_rfl) on wn ?_
                      refine l_nil (q_then_normal ?_)
                      refine c_region ?_
                      refine JL_run 2 [] [5, 4, 2] 2 ⟨[(5, vS r7.2.1), (4, .p 1 0), (2, .p 0 0)], [⟨100, [vI 0, vI 0, vI 0, vI 0, vI 0, vI 0, vS emp, vS emp, vI 0]⟩, ⟨100, [vI ((s.data.getD 0 0).toNat : Int), vI ((s.data.getD 1 0).toNat : Int), vI r1.1, vI r2.1, vI r3.1, vI r4.1, vS r6.1, vS r7.1, vI r5.1]⟩]⟩ [] [] (by kernel_rfl) on wn ?_
                      refine l_nil (q_then_normal ?_)
                      refine c_seq ?_
                      refine c_seq ?_
                      refine c_region ?_
                      refine JL_run 2 [] [101, 4, 2] 2 ⟨[(101, vB (!(decide (r7.2.1 = emp)))), (4, .p 1 0), (2, .p 0 0)], [⟨100, [vI 0, vI 0, vI 0, vI 0, vI 0, vI 0, vS emp, vS emp, vI 0]⟩, ⟨100, [vI ((s.data.getD 0 0).toNat : Int), vI ((s.data.getD 1 0).toNat : Int), vI r1.1, vI r2.1, vI r3.1, vI r4.1, vS r6.1, vS r7.1, vI r5.1]⟩]⟩ [] [] (by kernel_rfl) on wn ?_
                      refine l_nil (q_then_normal ?_)
                      cases h11 : decide (r7.2.1 = emp) with
                      | true =>
                        have h11 := of_decide_eq_true h11
                        have hzh11 : r7.2.1.size = 0 := by rw [h11]; rfl
                        refine c_if false rfl ?_
                        refine c_skip ?_
                        refine q_then_normal ?_
                        refine c_seq ?_
                        refine c_region ?_
                        refine JL_run 1 [] [103, 4, 2] 2 ⟨[(103, .v (.agg #[.int .i64 ((s.data.getD 0 0).toNat : Int), .int .i64 ((s.data.getD 1 0).toNat : Int), .int .i64 r1.1, .int .i64 r2.1, .int .i64 r3.1, .int .i64 r4.1, .string r6.1, .string r7.1, .int .i64 r5.1])), (4, .p 1 0), (2, .p 0 0)], [⟨100, [vI 0, vI 0, vI 0, vI 0, vI 0, vI 0, vS emp, vS emp, vI 0]⟩, ⟨100, [vI ((s.data.getD 0 0).toNat : Int), vI ((s.data.getD 1 0).toNat : Int), vI r1.1, vI r2.1, vI r3.1, vI r4.1, vS r6.1, vS r7.1, vI r5.1]⟩]⟩ [] [] (by kernel_rfl) on wn ?_
                        refine l_pure 118 [] [.v (.agg #[.int .i64 ((s.data.getD 0 0).toNat : Int), .int .i64 ((s.data.getD 1 0).toNat : Int), .int .i64 r1.1, .int .i64 r2.1, .int .i64 r3.1, .int .i64 r4.1, .string r6.1, .string r7.1, .int .i64 r5.1])] (.int .i64 (mCmd (⟨((s.data.getD 0 0).toNat : Int), ((s.data.getD 1 0).toNat : Int), r1.1, r2.1, r3.1, ⟨r4.1, r6.1, r7.1, r5.1⟩⟩ : DCommand))) Try.call118 rfl rfl rfl rfl (fun bs w hS => ref_CommandFault (B := anyB) (⟨((s.data.getD 0 0).toNat : Int), ((s.data.getD 1 0).toNat : Int), r1.1, r2.1, r3.1, ⟨r4.1, r6.1, r7.1, r5.1⟩⟩ : DCommand) w ⟨(show r6.1.size ≤ 9223372036854775807 from (by first | assumption | omega | (simp only [emp_size]; omega))), (show r7.1.size ≤ 9223372036854775807 from (by first | assumption | omega | (simp only [emp_size]; omega)))⟩) ?_
                        refine JL_run 1 [] [17, 4, 2] 2 ⟨[(17, vI (mCmd (⟨((s.data.getD 0 0).toNat : Int), ((s.data.getD 1 0).toNat : Int), r1.1, r2.1, r3.1, ⟨r4.1, r6.1, r7.1, r5.1⟩⟩ : DCommand))), (4, .p 1 0), (2, .p 0 0)], [⟨100, [vI 0, vI 0, vI 0, vI 0, vI 0, vI 0, vS emp, vS emp, vI 0]⟩, ⟨100, [vI ((s.data.getD 0 0).toNat : Int), vI ((s.data.getD 1 0).toNat : Int), vI r1.1, vI r2.1, vI r3.1, vI r4.1, vS r6.1, vS r7.1, vI r5.1]⟩]⟩ [] [] (by kernel_rfl) on wn ?_
                        refine l_nil (q_then_normal ?_)
                        refine c_seq ?_
                        refine c_seq ?_
                        refine c_region ?_
                        refine JL_run 2 [] [106, 17, 4, 2] 2 ⟨[(106, vB (!(decide (mCmd (⟨((s.data.getD 0 0).toNat : Int), ((s.data.getD 1 0).toNat : Int), r1.1, r2.1, r3.1, ⟨r4.1, r6.1, r7.1, r5.1⟩⟩ : DCommand) = 0)))), (17, vI (mCmd (⟨((s.data.getD 0 0).toNat : Int), ((s.data.getD 1 0).toNat : Int), r1.1, r2.1, r3.1, ⟨r4.1, r6.1, r7.1, r5.1⟩⟩ : DCommand))), (4, .p 1 0), (2, .p 0 0)], [⟨100, [vI 0, vI 0, vI 0, vI 0, vI 0, vI 0, vS emp, vS emp, vI 0]⟩, ⟨100, [vI ((s.data.getD 0 0).toNat : Int), vI ((s.data.getD 1 0).toNat : Int), vI r1.1, vI r2.1, vI r3.1, vI r4.1, vS r6.1, vS r7.1, vI r5.1]⟩]⟩ [] [] (by kernel_rfl) on wn ?_
                        refine l_nil (q_then_normal ?_)
                        cases h12 : decide (mCmd (⟨((s.data.getD 0 0).toNat : Int), ((s.data.getD 1 0).toNat : Int), r1.1, r2.1, r3.1, ⟨r4.1, r6.1, r7.1, r5.1⟩⟩ : DCommand) = 0) with
                        | true =>
                          have h12 := of_decide_eq_true h12
                          refine c_if false rfl ?_
                          refine c_skip ?_
                          refine q_then_normal ?_
                          refine c_seq ?_
                          refine c_region ?_
                          refine JL_run 3 [] [3, 2] 1 ⟨[(3, vI 0), (2, .p 0 0)], [⟨100, [vI ((s.data.getD 0 0).toNat : Int), vI ((s.data.getD 1 0).toNat : Int), vI r1.1, vI r2.1, vI r3.1, vI r4.1, vS r6.1, vS r7.1, vI r5.1]⟩]⟩ [] [] (by kernel_rfl) on wn ?_
                          refine l_nil (q_then_normal ?_)
                          refine c_ret ?_
                          refine q_ret (.inl rfl) [.v (.agg #[.int .i64 ((s.data.getD 0 0).toNat : Int), .int .i64 ((s.data.getD 1 0).toNat : Int), .int .i64 r1.1, .int .i64 r2.1, .int .i64 r3.1, .int .i64 r4.1, .string r6.1, .string r7.1, .int .i64 r5.1]), vI 0] rfl (fun bs w hS => ?_)
                          refine ⟨?_, hS.kp⟩
                          have hm : mDecode s = ((⟨((s.data.getD 0 0).toNat : Int), ((s.data.getD 1 0).toNat : Int), r1.1, r2.1, r3.1, ⟨r4.1, r6.1, r7.1, r5.1⟩⟩ : DCommand), 0) := by
                            have hk : (cmd0 s).kind = ((s.data.getD 0 0).toNat : Int) := rfl
                            unfold mDecode
                            repeat (first | rw [if_pos (by omega)] | rw [if_neg (by omega)])
                            all_goals (simp only [mFin, mBody, cmd0, zOp, hr1, hr2, hr3, hr4, hr5, hr6, hr7, h4, h5, h6, h7, h8, h9, h10, h11, h12, ne_eq, not_true_eq_false, not_false_eq_true, if_true, if_false, reduceIte]; try rfl)
                          rw [hm]
                          rfl
                        | false =>
                          have h12 := of_decide_eq_false h12
                          refine c_if true rfl ?_
                          refine c_seq ?_
                          refine c_region ?_
                          refine JL_run 4 [] [3, 2] 1 ⟨[(3, vI (mCmd (⟨((s.data.getD 0 0).toNat : Int), ((s.data.getD 1 0).toNat : Int), r1.1, r2.1, r3.1, ⟨r4.1, r6.1, r7.1, r5.1⟩⟩ : DCommand))), (2, .p 0 0)], [⟨100, [vI 0, vI 0, vI 0, vI 0, vI 0, vI 0, vS emp, vS emp, vI 0]⟩]⟩ [] [] (by kernel_rfl) on wn ?_
                          refine l_nil (q_then_normal ?_)
                          refine c_ret ?_
                          refine q_then_ret (q_ret (.inl rfl) [.v (.agg #[.int .i64 0, .int .i64 0, .int .i64 0, .int .i64 0, .int .i64 0, .int .i64 0, .string emp, .string emp, .int .i64 0]), vI (mCmd (⟨((s.data.getD 0 0).toNat : Int), ((s.data.getD 1 0).toNat : Int), r1.1, r2.1, r3.1, ⟨r4.1, r6.1, r7.1, r5.1⟩⟩ : DCommand))] rfl (fun bs w hS => ?_))
                          refine ⟨?_, hS.kp⟩
                          have hm : mDecode s = ((⟨0, 0, 0, 0, 0, ⟨0, emp, emp, 0⟩⟩ : DCommand), mCmd (⟨((s.data.getD 0 0).toNat : Int), ((s.data.getD 1 0).toNat : Int), r1.1, r2.1, r3.1, ⟨r4.1, r6.1, r7.1, r5.1⟩⟩ : DCommand)) := by
                            have hk : (cmd0 s).kind = ((s.data.getD 0 0).toNat : Int) := rfl
                            unfold mDecode
                            repeat (first | rw [if_pos (by omega)] | rw [if_neg (by omega)])
                            all_goals (simp only [mFin, mBody, cmd0, zOp, hr1, hr2, hr3, hr4, hr5, hr6, hr7, h4, h5, h6, h7, h8, h9, h10, h11, h12, ne_eq, not_true_eq_false, not_false_eq_true, if_true, if_false, reduceIte]; try rfl)
                          rw [hm]
                          rfl
                      | false =>
                        have h11 := of_decide_eq_false h11
                        refine c_if true rfl ?_
                        refine c_seq ?_
                        refine c_region ?_
                        refine JL_run 3 [] [3, 2] 1 ⟨[(3, vI 4), (2, .p 0 0)], [⟨100, [vI 0, vI 0, vI 0, vI 0, vI 0, vI 0, vS emp, vS emp, vI 0]⟩]⟩ [] [] (by kernel_rfl) on wn ?_
                        refine l_nil (q_then_normal ?_)
                        refine c_ret ?_
                        refine q_then_ret (q_ret (.inl rfl) [.v (.agg #[.int .i64 0, .int .i64 0, .int .i64 0, .int .i64 0, .int .i64 0, .int .i64 0, .string emp, .string emp, .int .i64 0]), vI 4] rfl (fun bs w hS => ?_))
                        refine ⟨?_, hS.kp⟩
                        have hm : mDecode s = ((⟨0, 0, 0, 0, 0, ⟨0, emp, emp, 0⟩⟩ : DCommand), 4) := by
                          have hk : (cmd0 s).kind = ((s.data.getD 0 0).toNat : Int) := rfl
                          unfold mDecode
                          repeat (first | rw [if_pos (by omega)] | rw [if_neg (by omega)])
                          all_goals (simp only [mFin, mBody, cmd0, zOp, hr1, hr2, hr3, hr4, hr5, hr6, hr7, h4, h5, h6, h7, h8, h9, h10, h11, ne_eq, not_true_eq_false, not_false_eq_true, if_true, if_false, reduceIte]; try rfl)
                        rw [hm]
                        rfl
                    | false =>
                      have h10 := of_decide_eq_false h10
                      refine c_if true rfl ?_
                      refine c_seq ?_
                      refine c_region ?_
                      refine JL_run 4 [] [3, 2] 1 ⟨[(3, vI r7.2.2), (2, .p 0 0)], [⟨100, [vI 0, vI 0, vI 0, vI 0, vI 0, vI 0, vS emp, vS emp, vI 0]⟩]⟩ [] [] (by kernel_rfl) on wn ?_
                      refine l_nil (q_then_normal ?_)
                      refine c_ret ?_
                      refine q_then_ret (q_then_ret (q_ret (.inl rfl) [.v (.agg #[.int .i64 0, .int .i64 0, .int .i64 0, .int .i64 0, .int .i64 0, .int .i64 0, .string emp, .string emp, .int .i64 0]), vI r7.2.2] rfl (fun bs w hS => ?_)))
                      refine ⟨?_, hS.kp⟩
                      have hm : mDecode s = ((⟨0, 0, 0, 0, 0, ⟨0, emp, emp, 0⟩⟩ : DCommand), r7.2.2) := by
                        have hk : (cmd0 s).kind = ((s.data.getD 0 0).toNat : Int) := rfl
                        unfold mDecode
                        repeat (first | rw [if_pos (by omega)] | rw [if_neg (by omega)])
                        all_goals (simp only [mFin, mBody, cmd0, zOp, hr1, hr2, hr3, hr4, hr5, hr6, hr7, h4, h5, h6, h7, h8, h9, h10, ne_eq, not_true_eq_false, not_false_eq_true, if_true, if_false, reduceIte]; try rfl)
                      rw [hm]
                      rfl
                  | false =>
                    have h9 := of_decide_eq_false h9
                    refine c_if true rfl ?_
                    refine c_seq ?_
                    refine c_region ?_
                    refine JL_run 4 [] [3, 2] 1 ⟨[(3, vI r6.2.2), (2, .p 0 0)], [⟨100, [vI 0, vI 0, vI 0, vI 0, vI 0, vI 0, vS emp, vS emp, vI 0]⟩]⟩ [] [] (by kernel_rfl) on wn ?_
                    refine l_nil (q_then_normal ?_)
                    refine c_ret ?_
                    refine q_then_ret (q_then_ret (q_ret (.inl rfl) [.v (.agg #[.int .i64 0, .int .i64 0, .int .i64 0, .int .i64 0, .int .i64 0, .int .i64 0, .string emp, .string emp, .int .i64 0]), vI r6.2.2] rfl (fun bs w hS => ?_)))
                    refine ⟨?_, hS.kp⟩
                    have hm : mDecode s = ((⟨0, 0, 0, 0, 0, ⟨0, emp, emp, 0⟩⟩ : DCommand), r6.2.2) := by
                      have hk : (cmd0 s).kind = ((s.data.getD 0 0).toNat : Int) := rfl
                      unfold mDecode
                      repeat (first | rw [if_pos (by omega)] | rw [if_neg (by omega)])
                      all_goals (simp only [mFin, mBody, cmd0, zOp, hr1, hr2, hr3, hr4, hr5, hr6, h4, h5, h6, h7, h8, h9, ne_eq, not_true_eq_false, not_false_eq_true, if_true, if_false, reduceIte]; try rfl)
                    rw [hm]
                    rfl
                | false =>
                  have h8 := of_decide_eq_false h8
                  refine c_if true rfl ?_
                  refine c_seq ?_
                  refine c_region ?_
                  refine JL_run 4 [] [3, 2] 1 ⟨[(3, vI r5.2.2), (2, .p 0 0)], [⟨100, [vI 0, vI 0, vI 0, vI 0, vI 0, vI 0, vS emp, vS emp, vI 0]⟩]⟩ [] [] (by kernel_rfl) on wn ?_
                  refine l_nil (q_then_normal ?_)
                  refine c_ret ?_
                  refine q_then_ret (q_block_ret (q_then_ret (q_then_ret (q_block_ret (q_then_ret (q_then_ret (q_ret (.inl rfl) [.v (.agg #[.int .i64 0, .int .i64 0, .int .i64 0, .int .i64 0, .int .i64 0, .int .i64 0, .string emp, .string emp, .int .i64 0]), vI r5.2.2] rfl (fun bs w hS => ?_))))))))
                  refine ⟨?_, hS.kp⟩
                  have hm : mDecode s = ((⟨0, 0, 0, 0, 0, ⟨0, emp, emp, 0⟩⟩ : DCommand), r5.2.2) := by
                    have hk : (cmd0 s).kind = ((s.data.getD 0 0).toNat : Int) := rfl
                    unfold mDecode
                    repeat (first | rw [if_pos (by omega)] | rw [if_neg (by omega)])
                    all_goals (simp only [mFin, mBody, cmd0, zOp, hr1, hr2, hr3, hr4, hr5, h4, h5, h6, h7, h8, ne_eq, not_true_eq_false, not_false_eq_true, if_true, if_false, reduceIte]; try rfl)
                  rw [hm]
                  rfl
              | false =>
                have h7 := of_decide_eq_false h7
                refine c_if true rfl ?_
                refine c_seq ?_
                refine c_region ?_
                refine JL_run 4 [] [3, 2] 1 ⟨[(3, vI r4.2.2), (2, .p 0 0)], [⟨100, [vI 0, vI 0, vI 0, vI 0, vI 0, vI 0, vS emp, vS emp, vI 0]⟩]⟩ [] [] (by kernel_rfl) on wn ?_
                refine l_nil (q_then_normal ?_)
                refine c_ret ?_
                refine q_then_ret (q_block_ret (q_then_ret (q_then_ret (q_block_ret (q_then_ret (q_then_ret (q_ret (.inl rfl) [.v (.agg #[.int .i64 0, .int .i64 0, .int .i64 0, .int .i64 0, .int .i64 0, .int .i64 0, .string emp, .string emp, .int .i64 0]), vI r4.2.2] rfl (fun bs w hS => ?_))))))))
                refine ⟨?_, hS.kp⟩
                have hm : mDecode s = ((⟨0, 0, 0, 0, 0, ⟨0, emp, emp, 0⟩⟩ : DCommand), r4.2.2) := by
                  have hk : (cmd0 s).kind = ((s.data.getD 0 0).toNat : Int) := rfl
                  unfold mDecode
                  repeat (first | rw [if_pos (by omega)] | rw [if_neg (by omega)])
                  all_goals (simp only [mFin, mBody, cmd0, zOp, hr1, hr2, hr3, hr4, h4, h5, h6, h7, ne_eq, not_true_eq_false, not_false_eq_true, if_true, if_false, reduceIte]; try rfl)
                rw [hm]
                rfl
            | false =>
              have h6 := of_decide_eq_false h6
              refine c_if true rfl ?_
              refine c_seq ?_
              refine c_region ?_
              refine JL_run 4 [] [3, 2] 1 ⟨[(3, vI r3.2.2), (2, .p 0 0)], [⟨100, [vI 0, vI 0, vI 0, vI 0, vI 0, vI 0, vS emp, vS emp, vI 0]⟩]⟩ [] [] (by kernel_rfl) on wn ?_
              refine l_nil (q_then_normal ?_)
              refine c_ret ?_
              refine q_then_ret (q_block_ret (q_then_ret (q_then_ret (q_block_ret (q_then_ret (q_then_ret (q_ret (.inl rfl) [.v (.agg #[.int .i64 0, .int .i64 0, .int .i64 0, .int .i64 0, .int .i64 0, .int .i64 0, .string emp, .string emp, .int .i64 0]), vI r3.2.2] rfl (fun bs w hS => ?_))))))))
              refine ⟨?_, hS.kp⟩
              have hm : mDecode s = ((⟨0, 0, 0, 0, 0, ⟨0, emp, emp, 0⟩⟩ : DCommand), r3.2.2) := by
                have hk : (cmd0 s).kind = ((s.data.getD 0 0).toNat : Int) := rfl
                unfold mDecode
                repeat (first | rw [if_pos (by omega)] | rw [if_neg (by omega)])
                all_goals (simp only [mFin, mBody, cmd0, zOp, hr1, hr2, hr3, h4, h5, h6, ne_eq, not_true_eq_false, not_false_eq_true, if_true, if_false, reduceIte]; try rfl)
              rw [hm]
              rfl
          | false =>
            have h5 := of_decide_eq_false h5
            refine c_if true rfl ?_
            refine c_seq ?_
            refine c_region ?_
            refine JL_run 4 [] [3, 2] 1 ⟨[(3, vI r2.2.2), (2, .p 0 0)], [⟨100, [vI 0, vI 0, vI 0, vI 0, vI 0, vI 0, vS emp, vS emp, vI 0]⟩]⟩ [] [] (by kernel_rfl) on wn ?_
            refine l_nil (q_then_normal ?_)
            refine c_ret ?_
            refine q_then_ret (q_block_ret (q_then_ret (q_then_ret (q_block_ret (q_then_ret (q_then_ret (q_ret (.inl rfl) [.v (.agg #[.int .i64 0, .int .i64 0, .int .i64 0, .int .i64 0, .int .i64 0, .int .i64 0, .string emp, .string emp, .int .i64 0]), vI r2.2.2] rfl (fun bs w hS => ?_))))))))
            refine ⟨?_, hS.kp⟩
            have hm : mDecode s = ((⟨0, 0, 0, 0, 0, ⟨0, emp, emp, 0⟩⟩ : DCommand), r2.2.2) := by
              have hk : (cmd0 s).kind = ((s.data.getD 0 0).toNat : Int) := rfl
              unfold mDecode
              repeat (first | rw [if_pos (by omega)] | rw [if_neg (by omega)])
              all_goals (simp only [mFin, mBody, cmd0, zOp, hr1, hr2, h4, h5, ne_eq, not_true_eq_false, not_false_eq_true, if_true, if_false, reduceIte]; try rfl)
            rw [hm]
            rfl
        | false =>
          have h4 := of_decide_eq_false h4
          refine c_if true rfl ?_
          refine c_seq ?_
          refine c_region ?_
          refine JL_run 4 [] [3, 2] 1 ⟨[(3, vI r1.2.2), (2, .p 0 0)], [⟨100, [vI 0, vI 0, vI 0, vI 0, vI 0, vI 0, vS emp, vS emp, vI 0]⟩]⟩ [] [] (by kernel_rfl) on wn ?_
          refine l_nil (q_then_normal ?_)
          refine c_ret ?_
          refine q_then_ret (q_block_ret (q_then_ret (q_then_ret (q_block_ret (q_then_ret (q_then_ret (q_ret (.inl rfl) [.v (.agg #[.int .i64 0, .int .i64 0, .int .i64 0, .int .i64 0, .int .i64 0, .int .i64 0, .string emp, .string emp, .int .i64 0]), vI r1.2.2] rfl (fun bs w hS => ?_))))))))
          refine ⟨?_, hS.kp⟩
          have hm : mDecode s = ((⟨0, 0, 0, 0, 0, ⟨0, emp, emp, 0⟩⟩ : DCommand), r1.2.2) := by
            have hk : (cmd0 s).kind = ((s.data.getD 0 0).toNat : Int) := rfl
            unfold mDecode
            repeat (first | rw [if_pos (by omega)] | rw [if_neg (by omega)])
            all_goals (simp only [mFin, mBody, cmd0, zOp, hr1, h4, ne_eq, not_true_eq_false, not_false_eq_true, if_true, if_false, reduceIte]; try rfl)
          rw [hm]
          rfl
      | false =>
        have h3 := of_decide_eq_false h3
        refine c_if false rfl ?_
        refine c_skip ?_
        refine q_then_normal ?_
        refine c_seq ?_
        refine c_seq ?_
        refine c_region ?_
        refine JL_run 2 [] [101, 4, 2] 2 ⟨[(101, vB (!(decide ((s.extract 2 s.size) = emp)))), (4, .p 1 0), (2, .p 0 0)], [⟨100, [vI 0, vI 0, vI 0, vI 0, vI 0, vI 0, vS emp, vS emp, vI 0]⟩, ⟨100, [vI ((s.data.getD 0 0).toNat : Int), vI ((s.data.getD 1 0).toNat : Int), vI 0, vI 0, vI 0, vI 0, vS emp, vS emp, vI 0]⟩]⟩ [] [] (by kernel_rfl) on wn ?_
        refine l_nil (q_then_normal ?_)
        cases h13 : decide ((s.extract 2 s.size) = emp) with
        | true =>
          have h13 := of_decide_eq_true h13
          have hzh13 : (s.extract 2 s.size).size = 0 := by rw [h13]; rfl
          refine c_if false rfl ?_
          refine c_skip ?_
          refine q_then_normal ?_
          refine c_seq ?_
          refine c_region ?_
          refine JL_run 1 [] [103, 4, 2] 2 ⟨[(103, .v (.agg #[.int .i64 ((s.data.getD 0 0).toNat : Int), .int .i64 ((s.data.getD 1 0).toNat : Int), .int .i64 0, .int .i64 0, .int .i64 0, .int .i64 0, .string emp, .string emp, .int .i64 0])), (4, .p 1 0), (2, .p 0 0)], [⟨100, [vI 0, vI 0, vI 0, vI 0, vI 0, vI 0, vS emp, vS emp, vI 0]⟩, ⟨100, [vI ((s.data.getD 0 0).toNat : Int), vI ((s.data.getD 1 0).toNat : Int), vI 0, vI 0, vI 0, vI 0, vS emp, vS emp, vI 0]⟩]⟩ [] [] (by kernel_rfl) on wn ?_
          refine l_pure 118 [] [.v (.agg #[.int .i64 ((s.data.getD 0 0).toNat : Int), .int .i64 ((s.data.getD 1 0).toNat : Int), .int .i64 0, .int .i64 0, .int .i64 0, .int .i64 0, .string emp, .string emp, .int .i64 0])] (.int .i64 (mCmd (⟨((s.data.getD 0 0).toNat : Int), ((s.data.getD 1 0).toNat : Int), 0, 0, 0, ⟨0, emp, emp, 0⟩⟩ : DCommand))) Try.call118 rfl rfl rfl rfl (fun bs w hS => ref_CommandFault (B := anyB) (⟨((s.data.getD 0 0).toNat : Int), ((s.data.getD 1 0).toNat : Int), 0, 0, 0, ⟨0, emp, emp, 0⟩⟩ : DCommand) w ⟨(show emp.size ≤ 9223372036854775807 from (by first | assumption | omega | (simp only [emp_size]; omega))), (show emp.size ≤ 9223372036854775807 from (by first | assumption | omega | (simp only [emp_size]; omega)))⟩) ?_
          refine JL_run 1 [] [17, 4, 2] 2 ⟨[(17, vI (mCmd (⟨((s.data.getD 0 0).toNat : Int), ((s.data.getD 1 0).toNat : Int), 0, 0, 0, ⟨0, emp, emp, 0⟩⟩ : DCommand))), (4, .p 1 0), (2, .p 0 0)], [⟨100, [vI 0, vI 0, vI 0, vI 0, vI 0, vI 0, vS emp, vS emp, vI 0]⟩, ⟨100, [vI ((s.data.getD 0 0).toNat : Int), vI ((s.data.getD 1 0).toNat : Int), vI 0, vI 0, vI 0, vI 0, vS emp, vS emp, vI 0]⟩]⟩ [] [] (by kernel_rfl) on wn ?_
          refine l_nil (q_then_normal ?_)
          refine c_seq ?_
          refine c_seq ?_
          refine c_region ?_
          refine JL_run 2 [] [106, 17, 4, 2] 2 ⟨[(106, vB (!(decide (mCmd (⟨((s.data.getD 0 0).toNat : Int), ((s.data.getD 1 0).toNat : Int), 0, 0, 0, ⟨0, emp, emp, 0⟩⟩ : DCommand) = 0)))), (17, vI (mCmd (⟨((s.data.getD 0 0).toNat : Int), ((s.data.getD 1 0).toNat : Int), 0, 0, 0, ⟨0, emp, emp, 0⟩⟩ : DCommand))), (4, .p 1 0), (2, .p 0 0)], [⟨100, [vI 0, vI 0, vI 0, vI 0, vI 0, vI 0, vS emp, vS emp, vI 0]⟩, ⟨100, [vI ((s.data.getD 0 0).toNat : Int), vI ((s.data.getD 1 0).toNat : Int), vI 0, vI 0, vI 0, vI 0, vS emp, vS emp, vI 0]⟩]⟩ [] [] (by kernel_rfl) on wn ?_
          refine l_nil (q_then_normal ?_)
          cases h14 : decide (mCmd (⟨((s.data.getD 0 0).toNat : Int), ((s.data.getD 1 0).toNat : Int), 0, 0, 0, ⟨0, emp, emp, 0⟩⟩ : DCommand) = 0) with
          | true =>
            have h14 := of_decide_eq_true h14
            refine c_if false rfl ?_
            refine c_skip ?_
            refine q_then_normal ?_
            refine c_seq ?_
            refine c_region ?_
            refine JL_run 3 [] [3, 2] 1 ⟨[(3, vI 0), (2, .p 0 0)], [⟨100, [vI ((s.data.getD 0 0).toNat : Int), vI ((s.data.getD 1 0).toNat : Int), vI 0, vI 0, vI 0, vI 0, vS emp, vS emp, vI 0]⟩]⟩ [] [] (by kernel_rfl) on wn ?_
            refine l_nil (q_then_normal ?_)
            refine c_ret ?_
            refine q_ret (.inl rfl) [.v (.agg #[.int .i64 ((s.data.getD 0 0).toNat : Int), .int .i64 ((s.data.getD 1 0).toNat : Int), .int .i64 0, .int .i64 0, .int .i64 0, .int .i64 0, .string emp, .string emp, .int .i64 0]), vI 0] rfl (fun bs w hS => ?_)
            refine ⟨?_, hS.kp⟩
            have hm : mDecode s = ((⟨((s.data.getD 0 0).toNat : Int), ((s.data.getD 1 0).toNat : Int), 0, 0, 0, ⟨0, emp, emp, 0⟩⟩ : DCommand), 0) := by
              have hk : (cmd0 s).kind = ((s.data.getD 0 0).toNat : Int) := rfl
              unfold mDecode
              repeat (first | rw [if_pos (by omega)] | rw [if_neg (by omega)])
              all_goals (simp only [mFin, mBody, cmd0, zOp, h13, h14, ne_eq, not_true_eq_false, not_false_eq_true, if_true, if_false, reduceIte]; try rfl)
            rw [hm]
            rfl
          | false =>
            have h14 := of_decide_eq_false h14
            refine c_if true rfl ?_
            refine c_seq ?_
            refine c_region ?_
            refine JL_run 4 [] [3, 2] 1 ⟨[(3, vI (mCmd (⟨((s.data.getD 0 0).toNat : Int), ((s.data.getD 1 0).toNat : Int), 0, 0, 0, ⟨0, emp, emp, 0⟩⟩ : DCommand))), (2, .p 0 0)], [⟨100, [vI 0, vI 0, vI 0, vI 0, vI 0, vI 0, vS emp, vS emp, vI 0]⟩]⟩ [] [] (by kernel_rfl) on wn ?_
            refine l_nil (q_then_normal ?_)
            refine c_ret ?_
            refine q_then_ret (q_ret (.inl rfl) [.v (.agg #[.int .i64 0, .int .i64 0, .int .i64 0, .int .i64 0, .int .i64 0, .int .i64 0, .string emp, .string emp, .int .i64 0]), vI (mCmd (⟨((s.data.getD 0 0).toNat : Int), ((s.data.getD 1 0).toNat : Int), 0, 0, 0, ⟨0, emp, emp, 0⟩⟩ : DCommand))] rfl (fun bs w hS => ?_))
            refine ⟨?_, hS.kp⟩
            have hm : mDecode s = ((⟨0, 0, 0, 0, 0, ⟨0, emp, emp, 0⟩⟩ : DCommand), mCmd (⟨((s.data.getD 0 0).toNat : Int), ((s.data.getD 1 0).toNat : Int), 0, 0, 0, ⟨0, emp, emp, 0⟩⟩ : DCommand)) := by
              have hk : (cmd0 s).kind = ((s.data.getD 0 0).toNat : Int) := rfl
              unfold mDecode
              repeat (first | rw [if_pos (by omega)] | rw [if_neg (by omega)])
              all_goals (simp only [mFin, mBody, cmd0, zOp, h13, h14, ne_eq, not_true_eq_false, not_false_eq_true, if_true, if_false, reduceIte]; try rfl)
            rw [hm]
            rfl
        | false =>
          have h13 := of_decide_eq_false h13
          refine c_if true rfl ?_
          refine c_seq ?_
          refine c_region ?_
          refine JL_run 3 [] [3, 2] 1 ⟨[(3, vI 4), (2, .p 0 0)], [⟨100, [vI 0, vI 0, vI 0, vI 0, vI 0, vI 0, vS emp, vS emp, vI 0]⟩]⟩ [] [] (by kernel_rfl) on wn ?_
          refine l_nil (q_then_normal ?_)
          refine c_ret ?_
          refine q_then_ret (q_ret (.inl rfl) [.v (.agg #[.int .i64 0, .int .i64 0, .int .i64 0, .int .i64 0, .int .i64 0, .int .i64 0, .string emp, .string emp, .int .i64 0]), vI 4] rfl (fun bs w hS => ?_))
          refine ⟨?_, hS.kp⟩
          have hm : mDecode s = ((⟨0, 0, 0, 0, 0, ⟨0, emp, emp, 0⟩⟩ : DCommand), 4) := by
            have hk : (cmd0 s).kind = ((s.data.getD 0 0).toNat : Int) := rfl
            unfold mDecode
            repeat (first | rw [if_pos (by omega)] | rw [if_neg (by omega)])
            all_goals (simp only [mFin, mBody, cmd0, zOp, h13, ne_eq, not_true_eq_false, not_false_eq_true, if_true, if_false, reduceIte]; try rfl)
          rw [hm]
          rfl

theorem log_Check {B : Nat → Prop} (x : CLog) (w : World) (hx : Rds.sub B w x) : Calls Try.prog 60 #[.agg #[.int .i64 x.base, .slice x.entries.A x.entries.n x.entries.c]] w fun e w' => e = .returned (.int .i64 (mLog x.abs)) ∧ Kp [] w w' := by
  have okx := Rds.okof hx
  have ncx := Sl.ok.nc okx
  have hnx : x.entries.n = x.entries.xs.length := rfl
  have q1 : x.abs.base = x.base := rfl
  have q2 : x.abs.entries = x.entries.xs := rfl
  have hat : ∀ q, x.entries.xs.getD q default = x.entries.at q := fun _ => rfl
  refine calls_J0 35 Try.func60 rfl rfl [.agg #[.int .i64 x.base, .slice x.entries.A x.entries.n x.entries.c]] rfl ?_
  refine c_seq ?_
  refine c_region ?_
  refine JL_run 2 [] [1] 1 ⟨[(1, .p 0 0)], [⟨33, [vI x.base, .v (.slice x.entries.A x.entries.n x.entries.c)]⟩]⟩ [] [] (by kernel_rfl) on wn ?_
  refine l_nil (q_then_normal ?_)
  refine c_seq ?_
  refine c_seq ?_
  refine c_region ?_
  refine JL_run 4 [] [10, 1] 1 ⟨[(10, vB (decide (x.base < 0))), (1, .p 0 0)], [⟨33, [vI x.base, .v (.slice x.entries.A x.entries.n x.entries.c)]⟩]⟩ [] [] (by kernel_rfl) on wn ?_
  cases h1 : decide (x.base < 0) with
  | true =>
    have h1 := of_decide_eq_true h1
    refine JL_run 4 [] [14, 1] 1 ⟨[(14, vB true), (1, .p 0 0)], [⟨33, [vI x.base, .v (.slice x.entries.A x.entries.n x.entries.c)]⟩]⟩ [] [] (by kernel_rfl) on wn ?_
    refine l_nil (q_then_normal ?_)
    refine c_if true rfl ?_
    refine c_seq ?_
    refine c_region ?_
    refine JL_run 1 [] [2] 0 ⟨[(2, vI 2)], []⟩ [] [] (by kernel_rfl) on wn ?_
    refine l_nil (q_then_normal ?_)
    refine c_ret ?_
    refine q_then_ret (q_ret (.inl rfl) [vI 2] rfl (fun bs w hS => ?_))
    refine ⟨?_, hS.kp⟩
    simp only [retOf, den, List.map_cons, List.map_nil]
    have hm : mLog x.abs = 2 := by
      unfold mLog; rw [q1, q2]
      first | rw [if_pos (by omega)] | rw [if_neg (by omega), if_pos (by omega)]
    rw [hm]
  | false =>
    have h1 := of_decide_eq_false h1
    refine JL_run 4 [] [14, 1] 1 ⟨[(14, vB (decide ((1073741424 : Int) < x.base))), (1, .p 0 0)], [⟨33, [vI x.base, .v (.slice x.entries.A x.entries.n x.entries.c)]⟩]⟩ [] [] (by kernel_rfl) on wn ?_
    refine l_nil (q_then_normal ?_)
    cases h2 : decide ((1073741424 : Int) < x.base) with
    | true =>
      have h2 := of_decide_eq_true h2
      refine c_if true rfl ?_
      refine c_seq ?_
      refine c_region ?_
      refine JL_run 1 [] [2] 0 ⟨[(2, vI 2)], []⟩ [] [] (by kernel_rfl) on wn ?_
      refine l_nil (q_then_normal ?_)
      refine c_ret ?_
      refine q_then_ret (q_ret (.inl rfl) [vI 2] rfl (fun bs w hS => ?_))
      refine ⟨?_, hS.kp⟩
      simp only [retOf, den, List.map_cons, List.map_nil]
      have hm : mLog x.abs = 2 := by
        unfold mLog; rw [q1, q2]
        first | rw [if_pos (by omega)] | rw [if_neg (by omega), if_pos (by omega)]
      rw [hm]
    | false =>
      have h2 := of_decide_eq_false h2
      refine c_if false rfl ?_
      refine c_skip ?_
      refine q_then_normal ?_
      refine c_seq ?_
      refine c_seq ?_
      refine c_region ?_
      refine JL_run 4 [] [18, 1] 1 ⟨[(18, vB (decide ((400 : Int) < ((x.entries.n : Nat) : Int)))), (1, .p 0 0)], [⟨33, [vI x.base, .v (.slice x.entries.A x.entries.n x.entries.c)]⟩]⟩ [] [] (by kernel_rfl) on wn ?_
      refine l_nil (q_then_normal ?_)
      cases h3 : decide ((400 : Int) < ((x.entries.n : Nat) : Int)) with
      | true =>
        have h3 := of_decide_eq_true h3
        refine c_if true rfl ?_
        refine c_seq ?_
        refine c_region ?_
        refine JL_run 1 [] [2] 0 ⟨[(2, vI 1)], []⟩ [] [] (by kernel_rfl) on wn ?_
        refine l_nil (q_then_normal ?_)
        refine c_ret ?_
        refine q_then_ret (q_ret (.inl rfl) [vI 1] rfl (fun bs w hS => ?_))
        refine ⟨?_, hS.kp⟩
        simp only [retOf, den, List.map_cons, List.map_nil]
        have hm : mLog x.abs = 1 := by
          unfold mLog; rw [q1, q2]
          first | rw [if_pos (by omega)] | rw [if_neg (by omega), if_pos (by omega)]
        rw [hm]
      | false =>
        have h3 := of_decide_eq_false h3
        refine c_if false rfl ?_
        refine c_skip ?_
        refine q_then_normal ?_
        refine c_seq ?_
        refine c_seq ?_
        refine c_region ?_
        refine JL_run 4 [] [22, 21, 20] 0 ⟨[(22, vI 0), (21, vI ((x.entries.n : Nat) : Int)), (20, .v (.slice x.entries.A x.entries.n x.entries.c))], []⟩ [] [] (by kernel_rfl) on wn ?_
        refine l_nil (q_then_normal ?_)
        refine c_block ?_
        refine c_loop (σ := Nat) (fun i => i ≤ x.entries.n ∧ mLog x.abs = firstF (logF x.entries.xs) (x.entries.n - i) i) (fun i => x.entries.n - i) (fun i => []) (fun i => ⟨[(22, vI ((i : Nat) : Int)), (21, vI ((x.entries.n : Nat) : Int)), (20, .v (.slice x.entries.A x.entries.n x.entries.c))], []⟩) 0 ⟨Nat.zero_le _, by unfold mLog; rw [q1, q2, if_neg (by omega), if_neg (by omega)]⟩ (s_start [22, 21, 20] 0 (by kernel_rfl) rfl) ?_
        rintro i ⟨hi, hI⟩
        refine c_seq ?_
        refine c_region ?_
        refine JL_run 1 [] [23, 22, 21, 20] 0 ⟨[(23, vB (decide (((i : Nat) : Int) < ((x.entries.n : Nat) : Int)))), (22, vI ((i : Nat) : Int)), (21, vI ((x.entries.n : Nat) : Int)), (20, .v (.slice x.entries.A x.entries.n x.entries.c))], []⟩ [] [] (by kernel_rfl) on wn ?_
        refine l_nil (q_then_normal ?_)
        refine c_seq ?_
        cases h4 : decide (((i : Nat) : Int) < ((x.entries.n : Nat) : Int)) with
        | true =>
          have h4 := of_decide_eq_true h4
          refine c_if true rfl ?_
          refine c_skip ?_
          refine q_then_normal ?_
          refine c_seq ?_
          refine c_block ?_
          refine c_seq ?_
          refine c_region ?_
          refine JL_run 3 [(0, .idx x.entries.ad i), (1, .ext [.string (x.entries.at i)])] [4, 22, 21, 20] 0 ⟨[(4, vS (x.entries.at i)), (22, vI ((i : Nat) : Int)), (21, vI ((x.entries.n : Nat) : Int)), (20, .v (.slice x.entries.A x.entries.n x.entries.c))], []⟩ [x.entries.A = some x.entries.ad, ((i : Nat) : Int) = ((i : Nat) : Int), i < x.entries.n] [(x.entries.ad.add (i * 1), [.string (x.entries.at i)])] (by kernel_rfl) (oc (Sl.ok.own (s := x.entries) (i := i) okx (by omega)) (oc rfl (oc (by omega) on))) (fun w hk hr => ⟨(Sl.rd.all (s := x.entries) (i := i) (Rds.kp hx hk) (by omega) rfl), trivial⟩) ?_
          refine l_nil (q_then_normal ?_)
          refine c_seq ?_
          refine c_region ?_
          refine JL_run 1 [] [27, 22, 21, 20] 0 ⟨[(27, vS (x.entries.at i)), (22, vI ((i : Nat) : Int)), (21, vI ((x.entries.n : Nat) : Int)), (20, .v (.slice x.entries.A x.entries.n x.entries.c))], []⟩ [] [] (by kernel_rfl) on wn ?_
          refine l_pure 67 [] [vS (x.entries.at i)] (.tuple #[.agg #[.int .i64 ((mDecode (x.entries.at i)).1.kind), .int .i64 ((mDecode (x.entries.at i)).1.client), .int .i64 ((mDecode (x.entries.at i)).1.session), .int .i64 ((mDecode (x.entries.at i)).1.seq), .int .i64 ((mDecode (x.entries.at i)).1.acked), .int .i64 ((mDecode (x.entries.at i)).1.op.kind), .string ((mDecode (x.entries.at i)).1.op.a), .string ((mDecode (x.entries.at i)).1.op.b), .int .i64 ((mDecode (x.entries.at i)).1.op.n)], .int .i64 ((mDecode (x.entries.at i)).2)]) Try.call67 rfl rfl rfl rfl (fun bs w hS => command_Decode (x.entries.at i) w (Sl.ok.at (s := x.entries) (i := i) okx (by omega))) ?_
          refine JL_run 6 [] [6, 22, 21, 20] 0 ⟨[(6, vI ((mDecode (x.entries.at i)).2)), (22, vI ((i : Nat) : Int)), (21, vI ((x.entries.n : Nat) : Int)), (20, .v (.slice x.entries.A x.entries.n x.entries.c))], []⟩ [] [] (by kernel_rfl) on wn ?_
          refine l_nil (q_then_normal ?_)
          refine c_seq ?_
          refine c_region ?_
          refine JL_run 2 [] [32, 6, 22, 21, 20] 0 ⟨[(32, vB (!(decide ((mDecode (x.entries.at i)).2 = 0)))), (6, vI ((mDecode (x.entries.at i)).2)), (22, vI ((i : Nat) : Int)), (21, vI ((x.entries.n : Nat) : Int)), (20, .v (.slice x.entries.A x.entries.n x.entries.c))], []⟩ [] [] (by kernel_rfl) on wn ?_
          refine l_nil (q_then_normal ?_)
          cases h5 : decide ((mDecode (x.entries.at i)).2 = 0) with
          | true =>
            have h5 := of_decide_eq_true h5
            refine c_if false rfl ?_
            refine c_skip ?_
            refine q_block_normal (q_then_normal ?_)
            refine c_region ?_
            refine JL_run 2 [] [22, 21, 20] 0 ⟨[(22, vI (((i : Nat) : Int) + 1)), (21, vI ((x.entries.n : Nat) : Int)), (20, .v (.slice x.entries.A x.entries.n x.entries.c))], []⟩ [inR (((i : Nat) : Int) + 1)] [] (by kernel_rfl) (oc (by unfold inR; omega) on) wn ?_
            have hf0 : logF x.entries.xs i = 0 := by unfold logF; rw [hat]; assumption
            refine l_nil (q_loop (x := (i : Nat)) ((i + 1) : Nat) ⟨by omega, by rw [hI]; exact firstF_step (by omega) hf0⟩ (by omega) (s_start [22, 21, 20] 0 (by kernel_rfl) rfl))
          | false =>
            have h5 := of_decide_eq_false h5
            refine c_if true rfl ?_
            refine c_seq ?_
            refine c_region ?_
            refine JL_run 2 [] [2] 0 ⟨[(2, vI ((mDecode (x.entries.at i)).2))], []⟩ [] [] (by kernel_rfl) on wn ?_
            refine l_nil (q_then_normal ?_)
            refine c_ret ?_
            refine q_block_ret (q_then_ret (q_then_ret (q_block_ret (q_then_ret (q_ret (.inl rfl) [vI ((mDecode (x.entries.at i)).2)] rfl (fun bs w hS => ?_))))))
            refine ⟨?_, hS.kp⟩
            simp only [retOf, den, List.map_cons, List.map_nil]
            have hf : logF x.entries.xs i = (mDecode (x.entries.at i)).2 := by unfold logF; rw [hat]
            rw [hI, firstF_here (by omega) hf (by assumption)]
        | false =>
          have h4 := of_decide_eq_false h4
          refine c_if false rfl ?_
          refine c_exit ?_
          refine q_then_exit (q_then_exit (q_block_hit (q_then_normal ?_)))
          refine c_seq ?_
          refine c_region ?_
          refine JL_run 1 [] [2] 0 ⟨[(2, vI 0)], []⟩ [] [] (by kernel_rfl) on wn ?_
          refine l_nil (q_then_normal ?_)
          refine c_ret ?_
          refine q_ret (.inl rfl) [vI 0] rfl (fun bs w hS => ?_)
          refine ⟨?_, hS.kp⟩
          simp only [retOf, den, List.map_cons, List.map_nil]
          rw [hI, firstF_end (by omega)]

theorem ref_LogFault {B : Nat → Prop} (x : CLog) (w : World) (hx : Rds.sub B w x) : Calls Try.prog 63 #[.agg #[.int .i64 x.base, .slice x.entries.A x.entries.n x.entries.c]] w fun e w' => e = .returned (.int .i64 (mLog x.abs)) ∧ Kp [] w w' := by
  have okx := Rds.okof hx
  have ncx := Sl.ok.nc okx
  have hnx : x.entries.n = x.entries.xs.length := rfl
  have q1 : x.abs.base = x.base := rfl
  have q2 : x.abs.entries = x.entries.xs := rfl
  have hat : ∀ q, x.entries.xs.getD q default = x.entries.at q := fun _ => rfl
  refine calls_J0 33 Try.func63 rfl rfl [.agg #[.int .i64 x.base, .slice x.entries.A x.entries.n x.entries.c]] rfl ?_
  refine c_seq ?_
  refine c_region ?_
  refine JL_run 2 [] [1] 1 ⟨[(1, .p 0 0)], [⟨33, [vI x.base, .v (.slice x.entries.A x.entries.n x.entries.c)]⟩]⟩ [] [] (by kernel_rfl) on wn ?_
  refine l_nil (q_then_normal ?_)
  refine c_seq ?_
  refine c_seq ?_
  refine c_region ?_
  refine JL_run 2 [] [7, 1] 1 ⟨[(7, vI x.base), (1, .p 0 0)], [⟨33, [vI x.base, .v (.slice x.entries.A x.entries.n x.entries.c)]⟩]⟩ [] [] (by kernel_rfl) on wn ?_
  refine l_pure 64 [] [vI x.base, vI 0, vI 1073741424] (.bool (inB x.base 0 1073741424)) Try.call64 rfl rfl rfl rfl (fun bs w hS => ref_In _ _ _ w) ?_
  refine JL_run 1 [] [9, 1] 1 ⟨[(9, vB (!(inB x.base 0 1073741424))), (1, .p 0 0)], [⟨33, [vI x.base, .v (.slice x.entries.A x.entries.n x.entries.c)]⟩]⟩ [] [] (by kernel_rfl) on wn ?_
  refine l_nil (q_then_normal ?_)
  cases h1 : inB x.base 0 1073741424 with
  | true =>
    simp only [inB, Bool.and_eq_true, Bool.and_eq_false_iff, decide_eq_true_eq, decide_eq_false_iff_not] at h1
    refine c_if false rfl ?_
    refine c_skip ?_
    refine q_then_normal ?_
    refine c_seq ?_
    refine c_seq ?_
    refine c_region ?_
    refine JL_run 4 [] [13, 1] 1 ⟨[(13, vB (decide ((400 : Int) < ((x.entries.n : Nat) : Int)))), (1, .p 0 0)], [⟨33, [vI x.base, .v (.slice x.entries.A x.entries.n x.entries.c)]⟩]⟩ [] [] (by kernel_rfl) on wn ?_
    refine l_nil (q_then_normal ?_)
    cases h2 : decide ((400 : Int) < ((x.entries.n : Nat) : Int)) with
    | true =>
      have h2 := of_decide_eq_true h2
      refine c_if true rfl ?_
      refine c_seq ?_
      refine c_region ?_
      refine JL_run 1 [] [2] 0 ⟨[(2, vI 1)], []⟩ [] [] (by kernel_rfl) on wn ?_
      refine l_nil (q_then_normal ?_)
      refine c_ret ?_
      refine q_then_ret (q_ret (.inl rfl) [vI 1] rfl (fun bs w hS => ?_))
      refine ⟨?_, hS.kp⟩
      simp only [retOf, den, List.map_cons, List.map_nil]
      have hm : mLog x.abs = 1 := by
        unfold mLog; rw [q1, q2]
        first | rw [if_pos (by omega)] | rw [if_neg (by omega), if_pos (by omega)]
      rw [hm]
    | false =>
      have h2 := of_decide_eq_false h2
      refine c_if false rfl ?_
      refine c_skip ?_
      refine q_then_normal ?_
      refine c_seq ?_
      refine c_seq ?_
      refine c_region ?_
      refine JL_run 1 [] [3, 1] 1 ⟨[(3, vI 0), (1, .p 0 0)], [⟨33, [vI x.base, .v (.slice x.entries.A x.entries.n x.entries.c)]⟩]⟩ [] [] (by kernel_rfl) on wn ?_
      refine l_nil (q_then_normal ?_)
      refine c_block ?_
      refine c_loop (σ := Nat) (fun i => i ≤ x.entries.n ∧ mLog x.abs = firstF (logF x.entries.xs) (x.entries.n - i) i) (fun i => x.entries.n - i) (fun i => []) (fun i => ⟨[(3, vI ((i : Nat) : Int)), (1, .p 0 0)], [⟨33, [vI x.base, .v (.slice x.entries.A x.entries.n x.entries.c)]⟩]⟩) 0 ⟨Nat.zero_le _, by unfold mLog; rw [q1, q2, if_neg (by omega), if_neg (by omega)]⟩ (s_start [3, 1] 1 (by kernel_rfl) rfl) ?_
      rintro i ⟨hi, hI⟩
      refine c_seq ?_
      refine c_seq ?_
      refine c_region ?_
      refine JL_run 5 [] [18, 3, 1] 1 ⟨[(18, vB (decide (((i : Nat) : Int) < ((x.entries.n : Nat) : Int)))), (3, vI ((i : Nat) : Int)), (1, .p 0 0)], [⟨33, [vI x.base, .v (.slice x.entries.A x.entries.n x.entries.c)]⟩]⟩ [] [] (by kernel_rfl) on wn ?_
      refine l_nil (q_then_normal ?_)
      cases h3 : decide (((i : Nat) : Int) < ((x.entries.n : Nat) : Int)) with
      | true =>
        have h3 := of_decide_eq_true h3
        refine c_if true rfl ?_
        refine c_skip ?_
        refine q_then_normal ?_
        refine c_seq ?_
        refine c_block ?_
        refine c_seq ?_
        refine c_region ?_
        refine JL_run 5 [(3, .idx x.entries.ad i), (4, .ext [.string (x.entries.at i)])] [26, 3, 1] 1 ⟨[(26, vS (x.entries.at i)), (3, vI ((i : Nat) : Int)), (1, .p 0 0)], [⟨33, [vI x.base, .v (.slice x.entries.A x.entries.n x.entries.c)]⟩]⟩ [x.entries.A = some x.entries.ad, ((i : Nat) : Int) = ((i : Nat) : Int), i < x.entries.n] [(x.entries.ad.add (i * 1), [.string (x.entries.at i)])] (by kernel_rfl) (oc (Sl.ok.own (s := x.entries) (i := i) okx (by omega)) (oc rfl (oc (by omega) on))) (fun w hk hr => ⟨(Sl.rd.all (s := x.entries) (i := i) (Rds.kp hx hk) (by omega) rfl), trivial⟩) ?_
        refine l_pure 68 [] [vS (x.entries.at i)] (.tuple #[.agg #[.int .i64 ((mDecode (x.entries.at i)).1.kind), .int .i64 ((mDecode (x.entries.at i)).1.client), .int .i64 ((mDecode (x.entries.at i)).1.session), .int .i64 ((mDecode (x.entries.at i)).1.seq), .int .i64 ((mDecode (x.entries.at i)).1.acked), .int .i64 ((mDecode (x.entries.at i)).1.op.kind), .string ((mDecode (x.entries.at i)).1.op.a), .string ((mDecode (x.entries.at i)).1.op.b), .int .i64 ((mDecode (x.entries.at i)).1.op.n)], .int .i64 ((mDecode (x.entries.at i)).2)]) Try.call68 rfl rfl rfl rfl (fun bs w hS => ref_CommandOf (x.entries.at i) w (Sl.ok.at (s := x.entries) (i := i) okx (by omega))) ?_
        refine JL_run 6 [] [5, 3, 1] 1 ⟨[(5, vI ((mDecode (x.entries.at i)).2)), (3, vI ((i : Nat) : Int)), (1, .p 0 0)], [⟨33, [vI x.base, .v (.slice x.entries.A x.entries.n x.entries.c)]⟩]⟩ [] [] (by kernel_rfl) on wn ?_
        refine l_nil (q_then_normal ?_)
        refine c_seq ?_
        refine c_region ?_
        refine JL_run 2 [] [31, 5, 3, 1] 1 ⟨[(31, vB (!(decide ((mDecode (x.entries.at i)).2 = 0)))), (5, vI ((mDecode (x.entries.at i)).2)), (3, vI ((i : Nat) : Int)), (1, .p 0 0)], [⟨33, [vI x.base, .v (.slice x.entries.A x.entries.n x.entries.c)]⟩]⟩ [] [] (by kernel_rfl) on wn ?_
        refine l_nil (q_then_normal ?_)
        cases h4 : decide ((mDecode (x.entries.at i)).2 = 0) with
        | true =>
          have h4 := of_decide_eq_true h4
          refine c_if false rfl ?_
          refine c_skip ?_
          refine q_block_normal (q_then_normal ?_)
          refine c_region ?_
          refine JL_run 3 [] [3, 1] 1 ⟨[(3, vI (((i : Nat) : Int) + 1)), (1, .p 0 0)], [⟨33, [vI x.base, .v (.slice x.entries.A x.entries.n x.entries.c)]⟩]⟩ [inR (((i : Nat) : Int) + 1)] [] (by kernel_rfl) (oc (by unfold inR; omega) on) wn ?_
          have hf0 : logF x.entries.xs i = 0 := by unfold logF; rw [hat]; assumption
          refine l_nil (q_loop (x := (i : Nat)) ((i + 1) : Nat) ⟨by omega, by rw [hI]; exact firstF_step (by omega) hf0⟩ (by omega) (s_start [3, 1] 1 (by kernel_rfl) rfl))
        | false =>
          have h4 := of_decide_eq_false h4
          refine c_if true rfl ?_
          refine c_seq ?_
          refine c_region ?_
          refine JL_run 2 [] [2] 0 ⟨[(2, vI ((mDecode (x.entries.at i)).2))], []⟩ [] [] (by kernel_rfl) on wn ?_
          refine l_nil (q_then_normal ?_)
          refine c_ret ?_
          refine q_block_ret (q_then_ret (q_then_ret (q_block_ret (q_then_ret (q_ret (.inl rfl) [vI ((mDecode (x.entries.at i)).2)] rfl (fun bs w hS => ?_))))))
          refine ⟨?_, hS.kp⟩
          simp only [retOf, den, List.map_cons, List.map_nil]
          have hf : logF x.entries.xs i = (mDecode (x.entries.at i)).2 := by unfold logF; rw [hat]
          rw [hI, firstF_here (by omega) hf (by assumption)]
      | false =>
        have h3 := of_decide_eq_false h3
        refine c_if false rfl ?_
        refine c_exit ?_
        refine q_then_exit (q_then_exit (q_block_hit (q_then_normal ?_)))
        refine c_seq ?_
        refine c_region ?_
        refine JL_run 1 [] [2] 0 ⟨[(2, vI 0)], []⟩ [] [] (by kernel_rfl) on wn ?_
        refine l_nil (q_then_normal ?_)
        refine c_ret ?_
        refine q_ret (.inl rfl) [vI 0] rfl (fun bs w hS => ?_)
        refine ⟨?_, hS.kp⟩
        simp only [retOf, den, List.map_cons, List.map_nil]
        rw [hI, firstF_end (by omega)]
  | false =>
    simp only [inB, Bool.and_eq_true, Bool.and_eq_false_iff, decide_eq_true_eq, decide_eq_false_iff_not] at h1
    refine c_if true rfl ?_
    refine c_seq ?_
    refine c_region ?_
    refine JL_run 1 [] [2] 0 ⟨[(2, vI 2)], []⟩ [] [] (by kernel_rfl) on wn ?_
    refine l_nil (q_then_normal ?_)
    refine c_ret ?_
    refine q_then_ret (q_ret (.inl rfl) [vI 2] rfl (fun bs w hS => ?_))
    refine ⟨?_, hS.kp⟩
    simp only [retOf, den, List.map_cons, List.map_nil]
    have hm : mLog x.abs = 2 := by
      unfold mLog; rw [q1, q2]
      first | rw [if_pos (by omega)] | rw [if_neg (by omega), if_pos (by omega)]
    rw [hm]

theorem log_Last {B : Nat → Prop} (x : CLog) (w : World) (hx : Rds.sub B w x) (hb : 0 ≤ x.base ∧ x.base ≤ 1073741424 ∧ x.entries.n ≤ 1048576) : Calls Try.prog 61 #[.agg #[.int .i64 x.base, .slice x.entries.A x.entries.n x.entries.c]] w fun e w' => e = .returned (.int .i64 (x.base + (x.entries.n : Int))) ∧ Kp [] w w' := by
  have okx := Rds.okof hx
  have ncx := Sl.ok.nc okx
  have hnx : x.entries.n = x.entries.xs.length := rfl
  have q1 : x.abs.base = x.base := rfl
  have q2 : x.abs.entries = x.entries.xs := rfl
  have hat : ∀ q, x.entries.xs.getD q default = x.entries.at q := fun _ => rfl
  refine calls_J0 9 Try.func61 rfl rfl [.agg #[.int .i64 x.base, .slice x.entries.A x.entries.n x.entries.c]] rfl ?_
  refine c_seq ?_
  refine c_region ?_
  refine JL_run 2 [] [1] 1 ⟨[(1, .p 0 0)], [⟨33, [vI x.base, .v (.slice x.entries.A x.entries.n x.entries.c)]⟩]⟩ [] [] (by kernel_rfl) on wn ?_
  refine l_nil (q_then_normal ?_)
  refine c_seq ?_
  refine c_region ?_
  refine JL_run 7 [] [2] 0 ⟨[(2, vI (x.base + ((x.entries.n : Nat) : Int)))], []⟩ [inR (x.base + ((x.entries.n : Nat) : Int))] [] (by kernel_rfl) (oc (by unfold inR; omega) on) wn ?_
  refine l_nil (q_then_normal ?_)
  refine c_ret ?_
  refine q_ret (.inl rfl) [vI (x.base + ((x.entries.n : Nat) : Int))] rfl (fun bs w hS => ?_)
  exact ⟨rfl, hS.kp⟩

theorem ref_LastOf {B : Nat → Prop} (x : CLog) (w : World) (hx : Rds.sub B w x) (hb : 0 ≤ x.base ∧ x.base ≤ 1073741424 ∧ x.entries.n ≤ 1048576) : Calls Try.prog 65 #[.agg #[.int .i64 x.base, .slice x.entries.A x.entries.n x.entries.c]] w fun e w' => e = .returned (.int .i64 (x.base + (x.entries.n : Int))) ∧ Kp [] w w' := by
  have okx := Rds.okof hx
  have ncx := Sl.ok.nc okx
  have hnx : x.entries.n = x.entries.xs.length := rfl
  have q1 : x.abs.base = x.base := rfl
  have q2 : x.abs.entries = x.entries.xs := rfl
  have hat : ∀ q, x.entries.xs.getD q default = x.entries.at q := fun _ => rfl
  refine calls_J0 9 Try.func65 rfl rfl [.agg #[.int .i64 x.base, .slice x.entries.A x.entries.n x.entries.c]] rfl ?_
  refine c_seq ?_
  refine c_region ?_
  refine JL_run 2 [] [1] 1 ⟨[(1, .p 0 0)], [⟨33, [vI x.base, .v (.slice x.entries.A x.entries.n x.entries.c)]⟩]⟩ [] [] (by kernel_rfl) on wn ?_
  refine l_nil (q_then_normal ?_)
  refine c_seq ?_
  refine c_region ?_
  refine JL_run 7 [] [2] 0 ⟨[(2, vI (x.base + ((x.entries.n : Nat) : Int)))], []⟩ [inR (x.base + ((x.entries.n : Nat) : Int))] [] (by kernel_rfl) (oc (by unfold inR; omega) on) wn ?_
  refine l_nil (q_then_normal ?_)
  refine c_ret ?_
  refine q_ret (.inl rfl) [vI (x.base + ((x.entries.n : Nat) : Int))] rfl (fun bs w hS => ?_)
  exact ⟨rfl, hS.kp⟩

theorem same_texts {B B' : Nat → Prop} (a b : Sl ByteArray) (w : World) (ha : a.rd B w) (hb : b.rd B' w) (he : a.xs = b.xs) : Calls Try.prog 24 #[.slice a.A a.n a.c, .slice b.A b.n b.c] w fun e w' => e = .returned (.bool true) ∧ Kp [] w w' := by
  have oka := Sl.rd.ok ha
  have okb := Sl.rd.ok hb
  have hn := xs_n he
  have nca := Sl.ok.nc oka
  refine calls_J0 26 Try.func24 rfl rfl [.slice a.A a.n a.c, .slice b.A b.n b.c] rfl ?_
  refine c_seq ?_
  refine c_region ?_
  refine JL_run 1 [] [0, 1] 0 ⟨[(0, .v (.slice a.A a.n a.c)), (1, .v (.slice b.A b.n b.c))], []⟩ [] [] (by kernel_rfl) on wn ?_
  refine l_nil (q_then_normal ?_)
  refine c_seq ?_
  refine c_seq ?_
  refine c_region ?_
  refine JL_run 5 [] [10, 0, 1] 0 ⟨[(10, vB (!(decide (((a.n : Nat) : Int) = ((b.n : Nat) : Int))))), (0, .v (.slice a.A a.n a.c)), (1, .v (.slice b.A b.n b.c))], []⟩ [] [] (by kernel_rfl) on wn ?_
  refine l_nil (q_then_normal ?_)
  cases h1 : decide (((a.n : Nat) : Int) = ((b.n : Nat) : Int)) with
  | true =>
    have h1 := of_decide_eq_true h1
    refine c_if false rfl ?_
    refine c_skip ?_
    refine q_then_normal ?_
    refine c_seq ?_
    refine c_seq ?_
    refine c_region ?_
    refine JL_run 1 [] [5, 0, 1] 0 ⟨[(5, vI 0), (0, .v (.slice a.A a.n a.c)), (1, .v (.slice b.A b.n b.c))], []⟩ [] [] (by kernel_rfl) on wn ?_
    refine l_nil (q_then_normal ?_)
    refine c_block ?_
    refine c_loop (σ := Nat) (fun i => True) (fun i => a.n - i) (fun i => []) (fun i => ⟨[(5, vI ((i : Nat) : Int)), (0, .v (.slice a.A a.n a.c)), (1, .v (.slice b.A b.n b.c))], []⟩) 0 trivial (s_start [5, 0, 1] 0 (by kernel_rfl) rfl) ?_
    rintro i _
    have hat := xs_at he i
    refine c_seq ?_
    refine c_seq ?_
    refine c_region ?_
    refine JL_run 4 [] [14, 5, 0, 1] 0 ⟨[(14, vB (decide (((i : Nat) : Int) < ((a.n : Nat) : Int)))), (5, vI ((i : Nat) : Int)), (0, .v (.slice a.A a.n a.c)), (1, .v (.slice b.A b.n b.c))], []⟩ [] [] (by kernel_rfl) on wn ?_
    refine l_nil (q_then_normal ?_)
    cases h2 : decide (((i : Nat) : Int) < ((a.n : Nat) : Int)) with
    | true =>
      have h2 := of_decide_eq_true h2
      refine c_if true rfl ?_
      refine c_skip ?_
      refine q_then_normal ?_
      refine c_seq ?_
      refine c_block ?_
      refine c_seq ?_
      refine c_draw 9 [] (.p 0 (.p 1 (.p 2 (.q 3 (.p 4 (.p 5 (.p 6 (.q 7 (.p 8 .nil))))))))) [] [] Try_mixed (by kernel_rfl) (pq_then (pq_block (pq_then (pq_then (pq_block (pq_then pq_body)))))) .slnil ?_
      refine h_quiet [(2, .idx a.ad i), (3, .ext [.string (a.at i)]), (6, .idx b.ad i), (7, .ext [.string (b.at i)])] [(0, true), (1, true), (2, true), (3, false), (4, true), (5, true), (6, true), (7, false), (8, true)] [(25, vB (!(decide ((a.at i) = (b.at i))))), (24, vS (b.at i)), (23, .v (.pointer (some (b.ad.add (i * 1))))), (22, vI ((i : Nat) : Int)), (21, .v (.slice b.A b.n b.c)), (20, vS (a.at i)), (19, .v (.pointer (some (a.ad.add (i * 1))))), (18, vI ((i : Nat) : Int)), (17, .v (.slice a.A a.n a.c)), (14, vB true), (5, vI ((i : Nat) : Int)), (0, .v (.slice a.A a.n a.c)), (1, .v (.slice b.A b.n b.c))] [a.A = some a.ad, ((i : Nat) : Int) = ((i : Nat) : Int), i < a.n, b.A = some b.ad, ((i : Nat) : Int) = ((i : Nat) : Int), i < b.n] [(a.ad.add (i * 1), [.string (a.at i)]), (b.ad.add (i * 1), [.string (b.at i)])] rfl (by kernel_rfl) (oc (Sl.ok.own (s := a) (i := i) oka (by omega)) (oc rfl (oc (by omega) (oc (Sl.ok.own (s := b) (i := i) okb (by omega)) (oc rfl (oc (by omega) on)))))) (fun w hk hr => ⟨(Sl.rd.all (s := a) (i := i) (Sl.rd.kp ha hk) (by omega) rfl), ⟨(Sl.rd.all (s := b) (i := i) (Sl.rd.kp hb hk) (by omega) rfl), trivial⟩⟩) ?_
      refine h_nil ?_
      refine l_nil (q_then_normal ?_)
      cases h3 : decide ((a.at i) = (b.at i)) with
      | true =>
        have h3 := of_decide_eq_true h3
        refine c_if false rfl ?_
        refine c_skip ?_
        refine q_block_normal (q_then_normal ?_)
        refine c_region ?_
        refine JL_run 3 [] [5, 0, 1] 0 ⟨[(5, vI (((i : Nat) : Int) + 1)), (0, .v (.slice a.A a.n a.c)), (1, .v (.slice b.A b.n b.c))], []⟩ [inR (((i : Nat) : Int) + 1)] [] (by kernel_rfl) (oc (by unfold inR; omega) on) wn ?_
        refine l_nil (q_loop (x := (i : Nat)) ((i + 1) : Nat) trivial (by omega) (s_start [5, 0, 1] 0 (by kernel_rfl) rfl))
      | false =>
        have h3 := of_decide_eq_false h3
        exfalso; first | omega | exact h3 (xs_at he i)
    | false =>
      have h2 := of_decide_eq_false h2
      refine c_if false rfl ?_
      refine c_exit ?_
      refine q_then_exit (q_then_exit (q_block_hit (q_then_normal ?_)))
      refine c_seq ?_
      refine c_region ?_
      refine JL_run 1 [] [4] 0 ⟨[(4, vB true)], []⟩ [] [] (by kernel_rfl) on wn ?_
      refine l_nil (q_then_normal ?_)
      refine c_ret ?_
      refine q_ret (.inl rfl) [vB true] rfl (fun bs w hS => ?_)
      exact ⟨rfl, hS.kp⟩
  | false =>
    have h1 := of_decide_eq_false h1
    exfalso; first | omega | exact h1 (xs_at he i)

theorem cloneS_ByteArray (A : Option Addr) (n c : Nat) (L : List ByteArray) (w : World) (hl : L.length = n) (hsrc : SrcAt w A n (L.flatMap Lay.cells)) (hb : n ≤ 1048576) : Calls Try.prog 62 #[.slice A n c] w fun e w' => ∃ y : Sl ByteArray, e = .returned y.val ∧ y.xs = L ∧ Kp [] w w' ∧ Fresh w w' (rowA 9 y.A y.c y.xs) := by
  refine calls_J0 8 Try.func62 rfl rfl [.slice A n c] rfl ?_
  refine c_seq ?_
  refine c_region ?_
  refine JL_run 1 [] [0] 0 ⟨[(0, .v (.slice A n c))], []⟩ [] [] (by kernel_rfl) on wn ?_
  refine l_nil (q_then_normal ?_)
  refine c_seq ?_
  refine c_seq ?_
  refine c_region ?_
  refine JL_run 2 [(1, .val (.bool A.isNone))] [4, 0] 0 ⟨[(4, vB A.isNone), (0, .v (.slice A n c))], []⟩ [∀ w, (do eqGuard .eql 31 (.tmp 3) (.const (.slice none 0 0)) (.slice A n c) (.slice none 0 0); binOp .eql 31 (.slice A n c) (.slice none 0 0) : Sem Value).run Try.prog w = .ok (.bool A.isNone) w] [] (by kernel_rfl) (oc (eq_nil Try.underlying31) on) wn ?_
  refine l_nil (q_then_normal ?_)
  cases h1 : A.isNone with
  | true =>
    refine c_if true rfl ?_
    refine c_seq ?_
    refine c_region ?_
    refine JL_run 1 [] [2] 0 ⟨[(2, .v (.slice none 0 0))], []⟩ [] [] (by kernel_rfl) on wn ?_
    refine l_nil (q_then_normal ?_)
    refine c_ret ?_
    refine q_then_ret (q_ret (.inl rfl) [.v (.slice none 0 0)] rfl (fun bs w hS => ?_))
    have hnil : L = [] := by cases hA : A with | none => rw [hA] at hsrc; have h0 : n = 0 := hsrc; exact List.eq_nil_of_length_eq_zero (by omega) | some a => rw [hA] at h1; cases h1
    exact ⟨Sl.nil, rfl, hnil.symm, hS.kp, rowA_nil 9 w⟩
  | false =>
    refine c_if false rfl ?_
    refine c_skip ?_
    refine q_then_normal ?_
    refine c_seq ?_
    refine c_region ?_
    refine l_row0A (α := ByteArray) 9 Try.underlying31 (by kernel_rfl) (by kernel_rfl) (by kernel_rfl) rfl ?_
    intro A1
    refine JL_run 1 [] [6, 5] 0 ⟨[(6, .v (.slice A n c)), (5, .v (.slice A1 ([] : List ByteArray).length 0))], []⟩ [] [] (by kernel_rfl) on wn ?_
    refine l_appendA (α := ByteArray) 9 16 A1 0 ([]) (.v (.slice A n c)) (L) Try.underlying31 (by kernel_rfl) rfl rfl rfl (fun bs w hS => ⟨_, _, by rw [hl]; rfl, by rw [hl]; exact (SrcAt.kp hsrc hS.kp)⟩) (by simp only [List.length_nil]; omega) (by simp only [List.length_nil]; omega) ?_
    intro A2 c2
    refine JL_run 1 [] [2] 0 ⟨[(2, .v (.slice A2 ([] ++ L).length c2))], []⟩ [] [] (by kernel_rfl) on wn ?_
    refine l_nil (q_then_normal ?_)
    refine c_ret ?_
    refine q_ret (.inl rfl) [.v (.slice A2 ([] ++ L).length c2)] rfl (fun bs w hS => ?_)
    exact ⟨⟨A2, c2, [] ++ L⟩, rfl, by simp, hS.kp, hS.out1⟩
theorem clone_ByteArray {B : Nat → Prop} (s : Sl ByteArray) (w : World) (hs : s.rd B w) (hb : s.n ≤ 1048576) : Calls Try.prog 62 #[.slice s.A s.n s.c] w fun e w' => ∃ y : Sl ByteArray, e = .returned y.val ∧ y.xs = s.xs ∧ Kp [] w w' ∧ Fresh w w' (rowA 9 y.A y.c y.xs) := cloneS_ByteArray s.A s.n s.c s.xs w rfl hs.src hb

theorem same_log {B B' : Nat → Prop} (a b : CLog) (w : World) (ha : Rds.sub B w a) (hb : Rds.sub B' w b) (he : a.abs = b.abs) : Calls Try.prog 21 #[.agg #[.int .i64 a.base, .slice a.entries.A a.entries.n a.entries.c], .agg #[.int .i64 b.base, .slice b.entries.A b.entries.n b.entries.c]] w fun e w' => e = .returned (.bool true) ∧ Kp [] w w' := by
  have oka := Rds.okof ha
  have okb := Rds.okof hb
  refine calls_J0 17 Try.func21 rfl rfl [.agg #[.int .i64 a.base, .slice a.entries.A a.entries.n a.entries.c], .agg #[.int .i64 b.base, .slice b.entries.A b.entries.n b.entries.c]] rfl ?_
  refine c_seq ?_
  refine c_region ?_
  refine JL_run 3 [] [3, 2] 2 ⟨[(3, .p 1 0), (2, .p 0 0)], [⟨33, [vI a.base, .v (.slice a.entries.A a.entries.n a.entries.c)]⟩, ⟨33, [vI b.base, .v (.slice b.entries.A b.entries.n b.entries.c)]⟩]⟩ [] [] (by kernel_rfl) on wn ?_
  refine l_nil (q_then_normal ?_)
  refine c_seq ?_
  refine c_region ?_
  refine JL_run 6 [] [10, 3, 2] 2 ⟨[(10, vB (decide (a.base = b.base))), (3, .p 1 0), (2, .p 0 0)], [⟨33, [vI a.base, .v (.slice a.entries.A a.entries.n a.entries.c)]⟩, ⟨33, [vI b.base, .v (.slice b.entries.A b.entries.n b.entries.c)]⟩]⟩ [] [] (by kernel_rfl) on wn ?_
  cases h1 : decide (a.base = b.base) with
  | true =>
    have h1 := of_decide_eq_true h1
    refine JL_run 4 [] [14, 12, 10] 0 ⟨[(14, .v (.slice b.entries.A b.entries.n b.entries.c)), (12, .v (.slice a.entries.A a.entries.n a.entries.c)), (10, vB true)], []⟩ [] [] (by kernel_rfl) on wn ?_
    refine l_pure 24 [] [.v (.slice a.entries.A a.entries.n a.entries.c), .v (.slice b.entries.A b.entries.n b.entries.c)] (.bool true) Try.call24 rfl rfl rfl rfl (fun bs w hS => same_texts _ _ w (Rds.kp ha hS.kp) (Rds.kp hb hS.kp) (congrArg DLog.entries he)) ?_
    refine JL_run 2 [] [4] 0 ⟨[(4, vB true)], []⟩ [] [] (by kernel_rfl) on wn ?_
    refine l_nil (q_then_normal ?_)
    refine c_ret ?_
    refine q_ret (.inl rfl) [vB true] rfl (fun bs w hS => ?_)
    exact ⟨rfl, hS.kp⟩
  | false =>
    have h1 := of_decide_eq_false h1
    exact absurd (congrArg (fun q => q.base) he) h1

theorem log_CopyR {B : Nat → Prop} (x : CLog) (w : World) (hx : Rds.sub B w x) (hb : x.entries.n ≤ 1048576) : Calls Try.prog 66 #[.agg #[.int .i64 x.base, .slice x.entries.A x.entries.n x.entries.c]] w fun e w' => ∃ y : Sl ByteArray, e = .returned (.agg #[.int .i64 x.base, .slice y.A y.n y.c]) ∧ y.xs = x.entries.xs ∧ Kp [] w w' ∧ Fresh w w' (rowA 9 y.A y.c y.xs) := by
  have okx := Rds.okof hx
  have ncx := Sl.ok.nc okx
  have hnx : x.entries.n = x.entries.xs.length := rfl
  have hla : mLast x.abs = x.base + (x.entries.n : Int) := rfl
  have q1 : x.abs.base = x.base := rfl
  have q2 : x.abs.entries = x.entries.xs := rfl
  have hat : ∀ q, x.entries.xs.getD q default = x.entries.at q := fun _ => rfl
  refine calls_J0 9 Try.func66 rfl rfl [.agg #[.int .i64 x.base, .slice x.entries.A x.entries.n x.entries.c]] rfl ?_
  refine c_seq ?_
  refine c_region ?_
  refine JL_run 2 [] [2, 1] 2 ⟨[(2, .p 1 0), (1, .p 0 0)], [⟨33, [vI x.base, .v (.slice x.entries.A x.entries.n x.entries.c)]⟩, ⟨33, [vI 0, .v (.slice none 0 0)]⟩]⟩ [] [] (by kernel_rfl) on wn ?_
  refine l_nil (q_then_normal ?_)
  refine c_seq ?_
  refine c_draw 6 [] (.p 0 (.q 1 (.p 2 (.q 3 (.b 4 (.p 5 .nil) .z))))) [] [] Try_mixed (by kernel_rfl) (pq_then pq_body) .slnil ?_
  refine h_quiet [] [(0, true), (1, false), (2, true), (3, false)] [(6, .v (.slice x.entries.A x.entries.n x.entries.c)), (5, .p 0 1), (4, vI x.base), (3, .p 0 0), (2, .p 1 0), (1, .p 0 0)] [] [] rfl (by kernel_rfl) on wn ?_
  refine h_freshF (σ := Sl ByteArray) 62 [] [.v (.slice x.entries.A x.entries.n x.entries.c)] (fun y1 => .slice y1.A y1.n y1.c) (fun y1 => y1.xs = x.entries.xs) (fun y1 => rowA 9 y1.A y1.c (y1.xs : List ByteArray)) rfl Try.call62 rfl rfl rfl rfl (fun bs w hS => clone_ByteArray x.entries w (Rds.kp hx hS.kp) hb) (fun bs0 bs y w hp hl hS => hS.down hp hl rfl (le_same (le_same le_nil)) (.cons _ .slnil)) ?_
  rintro y1 hF1
  refine h_quiet [] [(5, true)] [(8, .v (.agg #[.int .i64 x.base, .slice y1.A y1.n y1.c])), (7, .v (.slice y1.A y1.n y1.c)), (6, .v (.slice x.entries.A x.entries.n x.entries.c)), (5, .p 0 1), (4, vI x.base), (3, .p 0 0), (2, .p 1 0), (1, .p 0 0)] [] [] rfl (by kernel_rfl) on wn ?_
  refine h_nil ?_
  refine JL_run 1 [] [2] 2 ⟨[(2, .p 1 0)], [⟨33, [vI x.base, .v (.slice x.entries.A x.entries.n x.entries.c)]⟩, ⟨33, [vI x.base, .v (.slice y1.A y1.n y1.c)]⟩]⟩ [] [] (by kernel_rfl) on wn ?_
  refine l_nil (q_then_normal ?_)
  refine c_ret ?_
  refine q_ret (.inl rfl) [.v (.agg #[.int .i64 x.base, .slice y1.A y1.n y1.c])] rfl (fun bs w hS => ?_)
  exact ⟨y1, rfl, hF1, hS.kp, hS.out1⟩
theorem log_Copy {B : Nat → Prop} (x : CLog) (w : World) (hx : Rds.sub B w x) (hsm : Rds.small x) : Calls Try.prog 66 #[.agg #[.int .i64 x.base, .slice x.entries.A x.entries.n x.entries.c]] w fun e w' => ∃ y : CLog, e = .returned (y.val) ∧ y.abs = x.abs ∧ FreshS w w' y :=
  (log_CopyR x w hx hsm.1).mono fun e w' ⟨y, h1, h2, h3, h4⟩ => ⟨⟨x.base, y⟩, h1, by simp [CLog.abs, h2], h3, h4.sub fun hp => rowA_rd hp (fun b hb => hb) fun z hz => Sl.rd.mem (s := x.entries) hx z (h2 ▸ hz)⟩

theorem ref_LogCopyR {B : Nat → Prop} (x : CLog) (w : World) (hx : Rds.sub B w x) (hb : x.entries.n ≤ 1048576) : Calls Try.prog 25 #[.agg #[.int .i64 x.base, .slice x.entries.A x.entries.n x.entries.c]] w fun e w' => ∃ y : Sl ByteArray, e = .returned (.agg #[.int .i64 x.base, .slice y.A y.n y.c]) ∧ y.xs = x.entries.xs ∧ Kp [] w w' ∧ Fresh w w' (rowA 9 y.A y.c y.xs) := by
  have okx := Rds.okof hx
  have ncx := Sl.ok.nc okx
  have hnx : x.entries.n = x.entries.xs.length := rfl
  have hla : mLast x.abs = x.base + (x.entries.n : Int) := rfl
  have q1 : x.abs.base = x.base := rfl
  have q2 : x.abs.entries = x.entries.xs := rfl
  have hat : ∀ q, x.entries.xs.getD q default = x.entries.at q := fun _ => rfl
  refine calls_J0 9 Try.func25 rfl rfl [.agg #[.int .i64 x.base, .slice x.entries.A x.entries.n x.entries.c]] rfl ?_
  refine c_seq ?_
  refine c_region ?_
  refine JL_run 2 [] [2, 1] 2 ⟨[(2, .p 1 0), (1, .p 0 0)], [⟨33, [vI x.base, .v (.slice x.entries.A x.entries.n x.entries.c)]⟩, ⟨33, [vI 0, .v (.slice none 0 0)]⟩]⟩ [] [] (by kernel_rfl) on wn ?_
  refine l_nil (q_then_normal ?_)
  refine c_seq ?_
  refine c_draw 6 [] (.p 0 (.q 1 (.p 2 (.q 3 (.b 4 (.p 5 .nil) .z))))) [] [] Try_mixed (by kernel_rfl) (pq_then pq_body) .slnil ?_
  refine h_quiet [] [(0, true), (1, false), (2, true), (3, false)] [(6, .v (.slice x.entries.A x.entries.n x.entries.c)), (5, .p 0 1), (4, vI x.base), (3, .p 0 0), (2, .p 1 0), (1, .p 0 0)] [] [] rfl (by kernel_rfl) on wn ?_
  refine h_rowA (α := ByteArray) 9 ?_
  refine h_appendA (α := ByteArray) 9 16 none 0 ([]) (.v (.slice x.entries.A x.entries.n x.entries.c)) (x.entries.xs) rfl Try.underlying31 (by kernel_rfl) rfl rfl rfl rfl (fun bs w hS => ⟨_, _, rfl, Sl.rd.src (s := x.entries) (Rds.kp hx hS.kp)⟩) (by simp only [List.length_nil]; omega) (by simp only [List.length_nil]; omega) (fun bs0 bs A2 c2 w hp hl hS => hS.down hp hl rfl (le_same (le_same le_nil)) (.cons _ .slnil)) ?_
  intro A1 c1
  refine h_quiet [] [(5, true)] [(8, .v (.agg #[.int .i64 x.base, .slice A1 ([] ++ x.entries.xs).length c1])), (7, .v (.slice A1 ([] ++ x.entries.xs).length c1)), (6, .v (.slice x.entries.A x.entries.n x.entries.c)), (5, .p 0 1), (4, vI x.base), (3, .p 0 0), (2, .p 1 0), (1, .p 0 0)] [] [] rfl (by kernel_rfl) on wn ?_
  refine h_nil ?_
  refine JL_run 1 [] [2] 2 ⟨[(2, .p 1 0)], [⟨33, [vI x.base, .v (.slice x.entries.A x.entries.n x.entries.c)]⟩, ⟨33, [vI x.base, .v (.slice A1 ([] ++ x.entries.xs).length c1)]⟩]⟩ [] [] (by kernel_rfl) on wn ?_
  refine l_nil (q_then_normal ?_)
  refine c_ret ?_
  refine q_ret (.inl rfl) [.v (.agg #[.int .i64 x.base, .slice A1 ([] ++ x.entries.xs).length c1])] rfl (fun bs w hS => ?_)
  exact ⟨⟨A1, c1, [] ++ x.entries.xs⟩, rfl, by simp, hS.kp, hS.out1⟩
theorem ref_LogCopy {B : Nat → Prop} (x : CLog) (w : World) (hx : Rds.sub B w x) (hsm : Rds.small x) : Calls Try.prog 25 #[.agg #[.int .i64 x.base, .slice x.entries.A x.entries.n x.entries.c]] w fun e w' => ∃ y : CLog, e = .returned (y.val) ∧ y.abs = x.abs ∧ FreshS w w' y :=
  (ref_LogCopyR x w hx hsm.1).mono fun e w' ⟨y, h1, h2, h3, h4⟩ => ⟨⟨x.base, y⟩, h1, by simp [CLog.abs, h2], h3, h4.sub fun hp => rowA_rd hp (fun b hb => hb) fun z hz => Sl.rd.mem (s := x.entries) hx z (h2 ▸ hz)⟩

theorem log_Put {B B' : Nat → Prop} (x : CLog) (n : Int) (m : Sl ByteArray) (w : World) (hx : Rds.sub B w x) (hm : m.rd B' w) : Calls Try.prog 26 #[.agg #[.int .i64 x.base, .slice x.entries.A x.entries.n x.entries.c], .int .i64 n, .slice m.A m.n m.c] w fun e w' => ∃ y : CLog, e = .returned (.tuple #[y.val, .int .i64 (mPut x.abs n m.xs).2]) ∧ y.abs = (mPut x.abs n m.xs).1 ∧ FreshS w w' y := by
  have okx := Rds.okof hx
  have ncx := Sl.ok.nc okx
  have hnx : x.entries.n = x.entries.xs.length := rfl
  have hla : mLast x.abs = x.base + (x.entries.n : Int) := rfl
  have q1 : x.abs.base = x.base := rfl
  have q2 : x.abs.entries = x.entries.xs := rfl
  have hat : ∀ q, x.entries.xs.getD q default = x.entries.at q := fun _ => rfl
  have okm := Sl.rd.ok hm
  have ncm := Sl.ok.nc okm
  have hmx : m.n = m.xs.length := rfl
  refine calls_J0 112 Try.func26 rfl rfl [.agg #[.int .i64 x.base, .slice x.entries.A x.entries.n x.entries.c], .int .i64 n, .slice m.A m.n m.c] rfl ?_
  refine c_seq ?_
  refine c_region ?_
  refine JL_run 3 [] [6, 3, 1, 2] 2 ⟨[(6, .p 1 0), (3, .p 0 0), (1, vI n), (2, .v (.slice m.A m.n m.c))], [⟨33, [vI x.base, .v (.slice x.entries.A x.entries.n x.entries.c)]⟩, ⟨33, [vI 0, .v (.slice none 0 0)]⟩]⟩ [] [] (by kernel_rfl) on wn ?_
  refine l_nil (q_then_normal ?_)
  refine c_seq ?_
  refine c_seq ?_
  refine c_region ?_
  refine JL_run 1 [] [16, 6, 3, 1, 2] 2 ⟨[(16, .v (.agg #[.int .i64 x.base, .slice x.entries.A x.entries.n x.entries.c])), (6, .p 1 0), (3, .p 0 0), (1, vI n), (2, .v (.slice m.A m.n m.c))], [⟨33, [vI x.base, .v (.slice x.entries.A x.entries.n x.entries.c)]⟩, ⟨33, [vI 0, .v (.slice none 0 0)]⟩]⟩ [] [] (by kernel_rfl) on wn ?_
  refine l_pure 60 [] [.v (.agg #[.int .i64 x.base, .slice x.entries.A x.entries.n x.entries.c])] (.int .i64 (mLog x.abs)) Try.call60 rfl rfl rfl rfl (fun bs w hS => log_Check x w (Rds.kp hx hS.kp)) ?_
  refine JL_run 1 [] [8, 6, 3, 1, 2] 2 ⟨[(8, vI (mLog x.abs)), (6, .p 1 0), (3, .p 0 0), (1, vI n), (2, .v (.slice m.A m.n m.c))], [⟨33, [vI x.base, .v (.slice x.entries.A x.entries.n x.entries.c)]⟩, ⟨33, [vI 0, .v (.slice none 0 0)]⟩]⟩ [] [] (by kernel_rfl) on wn ?_
  refine l_nil (q_then_normal ?_)
  refine c_seq ?_
  refine c_region ?_
  refine JL_run 2 [] [19, 8, 6, 3, 1, 2] 2 ⟨[(19, vB (!(decide (mLog x.abs = 0)))), (8, vI (mLog x.abs)), (6, .p 1 0), (3, .p 0 0), (1, vI n), (2, .v (.slice m.A m.n m.c))], [⟨33, [vI x.base, .v (.slice x.entries.A x.entries.n x.entries.c)]⟩, ⟨33, [vI 0, .v (.slice none 0 0)]⟩]⟩ [] [] (by kernel_rfl) on wn ?_
  refine l_nil (q_then_normal ?_)
  cases h1 : decide (mLog x.abs = 0) with
  | true =>
    have h1 := of_decide_eq_true h1
    obtain ⟨hb1, hb2, hb3, hb4⟩ := mLog_bd h1
    rw [q1] at hb1 hb2
    rw [q2] at hb3
    have hmsz : ∀ z, z ∈ x.entries.xs → z.size ≤ 9223372036854775807 := fun z hz => Sl.rd.mem (s := x.entries) hx z hz
    refine c_if false rfl ?_
    refine c_skip ?_
    refine q_then_normal ?_
    refine c_seq ?_
    refine c_seq ?_
    refine c_region ?_
    refine JL_run 3 [] [24, 6, 3, 1, 2] 2 ⟨[(24, vB (decide (n < 0))), (6, .p 1 0), (3, .p 0 0), (1, vI n), (2, .v (.slice m.A m.n m.c))], [⟨33, [vI x.base, .v (.slice x.entries.A x.entries.n x.entries.c)]⟩, ⟨33, [vI 0, .v (.slice none 0 0)]⟩]⟩ [] [] (by kernel_rfl) on wn ?_
    cases h2 : decide (n < 0) with
    | true =>
      have h2 := of_decide_eq_true h2
      refine JL_run 3 [] [27, 6, 3, 1, 2] 2 ⟨[(27, vB true), (6, .p 1 0), (3, .p 0 0), (1, vI n), (2, .v (.slice m.A m.n m.c))], [⟨33, [vI x.base, .v (.slice x.entries.A x.entries.n x.entries.c)]⟩, ⟨33, [vI 0, .v (.slice none 0 0)]⟩]⟩ [] [] (by kernel_rfl) on wn ?_
      refine l_nil (q_then_normal ?_)
      refine c_if true rfl ?_
      refine c_seq ?_
      refine c_region ?_
      refine JL_run 3 [] [7, 6] 2 ⟨[(7, vI 2), (6, .p 1 0)], [⟨33, [vI x.base, .v (.slice x.entries.A x.entries.n x.entries.c)]⟩, ⟨33, [vI 0, .v (.slice none 0 0)]⟩]⟩ [] [] (by kernel_rfl) on wn ?_
      refine l_nil (q_then_normal ?_)
      refine c_ret ?_
      refine q_then_ret (q_ret (.inl rfl) [.v (.agg #[.int .i64 0, .slice none 0 0]), vI 2] rfl (fun bs w hS => ?_))
      have hm : mPut x.abs n m.xs = (zLog, 2) := by
        unfold mPut; rw [if_neg (by simpa using (by assumption : mLog _ = 0)), hla, q1, q2]
        first | rw [if_pos (by omega)] | rw [if_neg (by omega), if_pos (by omega)] | rw [if_neg (by omega), if_neg (by omega), if_pos (by omega)] | (rw [if_neg (by omega), if_neg (by omega), if_neg (by omega), if_neg (by simp), if_pos (by show 400 < E.length; omega)])
        all_goals first | rfl | (exfalso; omega)
      refine ⟨⟨0, Sl.nil⟩, ?_, ?_, hS.outS (y := (⟨0, Sl.nil⟩ : CLog)) (Sl.rd_nil _ _)⟩
      · simp only [retOf, den, List.map_cons, List.map_nil]; rw [hm]; rfl
      · rw [hm]; rfl
    | false =>
      have h2 := of_decide_eq_false h2
      refine JL_run 3 [] [27, 6, 3, 1, 2] 2 ⟨[(27, vB (decide ((1073741824 : Int) < n))), (6, .p 1 0), (3, .p 0 0), (1, vI n), (2, .v (.slice m.A m.n m.c))], [⟨33, [vI x.base, .v (.slice x.entries.A x.entries.n x.entries.c)]⟩, ⟨33, [vI 0, .v (.slice none 0 0)]⟩]⟩ [] [] (by kernel_rfl) on wn ?_
      refine l_nil (q_then_normal ?_)
      cases h3 : decide ((1073741824 : Int) < n) with
      | true =>
        have h3 := of_decide_eq_true h3
        refine c_if true rfl ?_
        refine c_seq ?_
        refine c_region ?_
        refine JL_run 3 [] [7, 6] 2 ⟨[(7, vI 2), (6, .p 1 0)], [⟨33, [vI x.base, .v (.slice x.entries.A x.entries.n x.entries.c)]⟩, ⟨33, [vI 0, .v (.slice none 0 0)]⟩]⟩ [] [] (by kernel_rfl) on wn ?_
        refine l_nil (q_then_normal ?_)
        refine c_ret ?_
        refine q_then_ret (q_ret (.inl rfl) [.v (.agg #[.int .i64 0, .slice none 0 0]), vI 2] rfl (fun bs w hS => ?_))
        have hm : mPut x.abs n m.xs = (zLog, 2) := by
          unfold mPut; rw [if_neg (by simpa using (by assumption : mLog _ = 0)), hla, q1, q2]
          first | rw [if_pos (by omega)] | rw [if_neg (by omega), if_pos (by omega)] | rw [if_neg (by omega), if_neg (by omega), if_pos (by omega)] | (rw [if_neg (by omega), if_neg (by omega), if_neg (by omega), if_neg (by simp), if_pos (by show 400 < E.length; omega)])
          all_goals first | rfl | (exfalso; omega)
        refine ⟨⟨0, Sl.nil⟩, ?_, ?_, hS.outS (y := (⟨0, Sl.nil⟩ : CLog)) (Sl.rd_nil _ _)⟩
        · simp only [retOf, den, List.map_cons, List.map_nil]; rw [hm]; rfl
        · rw [hm]; rfl
      | false =>
        have h3 := of_decide_eq_false h3
        refine c_if false rfl ?_
        refine c_skip ?_
        refine q_then_normal ?_
        refine c_seq ?_
        refine c_seq ?_
        refine c_region ?_
        refine JL_run 3 [] [31, 6, 3, 1, 2] 2 ⟨[(31, vB (decide ((400 : Int) < ((m.n : Nat) : Int)))), (6, .p 1 0), (3, .p 0 0), (1, vI n), (2, .v (.slice m.A m.n m.c))], [⟨33, [vI x.base, .v (.slice x.entries.A x.entries.n x.entries.c)]⟩, ⟨33, [vI 0, .v (.slice none 0 0)]⟩]⟩ [] [] (by kernel_rfl) on wn ?_
        refine l_nil (q_then_normal ?_)
        cases h4 : decide ((400 : Int) < ((m.n : Nat) : Int)) with
        | true =>
          have h4 := of_decide_eq_true h4
          refine c_if true rfl ?_
          refine c_seq ?_
          refine c_region ?_
          refine JL_run 3 [] [7, 6] 2 ⟨[(7, vI 1), (6, .p 1 0)], [⟨33, [vI x.base, .v (.slice x.entries.A x.entries.n x.entries.c)]⟩, ⟨33, [vI 0, .v (.slice none 0 0)]⟩]⟩ [] [] (by kernel_rfl) on wn ?_
          refine l_nil (q_then_normal ?_)
          refine c_ret ?_
          refine q_then_ret (q_ret (.inl rfl) [.v (.agg #[.int .i64 0, .slice none 0 0]), vI 1] rfl (fun bs w hS => ?_))
          have hm : mPut x.abs n m.xs = (zLog, 1) := by
            unfold mPut; rw [if_neg (by simpa using (by assumption : mLog _ = 0)), hla, q1, q2]
            first | rw [if_pos (by omega)] | rw [if_neg (by omega), if_pos (by omega)] | rw [if_neg (by omega), if_neg (by omega), if_pos (by omega)] | (rw [if_neg (by omega), if_neg (by omega), if_neg (by omega), if_neg (by simp), if_pos (by show 400 < E.length; omega)])
            all_goals first | rfl | (exfalso; omega)
          refine ⟨⟨0, Sl.nil⟩, ?_, ?_, hS.outS (y := (⟨0, Sl.nil⟩ : CLog)) (Sl.rd_nil _ _)⟩
          · simp only [retOf, den, List.map_cons, List.map_nil]; rw [hm]; rfl
          · rw [hm]; rfl
        | false =>
          have h4 := of_decide_eq_false h4
          refine c_if false rfl ?_
          refine c_skip ?_
          refine q_then_normal ?_
          refine c_seq ?_
          refine c_seq ?_
          refine c_region ?_
          refine JL_run 2 [] [34, 33, 6, 3, 1, 2] 2 ⟨[(34, .v (.agg #[.int .i64 x.base, .slice x.entries.A x.entries.n x.entries.c])), (33, vI n), (6, .p 1 0), (3, .p 0 0), (1, vI n), (2, .v (.slice m.A m.n m.c))], [⟨33, [vI x.base, .v (.slice x.entries.A x.entries.n x.entries.c)]⟩, ⟨33, [vI 0, .v (.slice none 0 0)]⟩]⟩ [] [] (by kernel_rfl) on wn ?_
          refine l_pure 61 [] [.v (.agg #[.int .i64 x.base, .slice x.entries.A x.entries.n x.entries.c])] (.int .i64 (x.base + (x.entries.n : Int))) Try.call61 rfl rfl rfl rfl (fun bs w hS => log_Last x w (Rds.kp hx hS.kp) (by first | exact ⟨by omega, by omega, by omega⟩ | omega)) ?_
          refine JL_run 1 [] [36, 6, 3, 1, 2] 2 ⟨[(36, vB (decide (x.base + (x.entries.n : Int) < n))), (6, .p 1 0), (3, .p 0 0), (1, vI n), (2, .v (.slice m.A m.n m.c))], [⟨33, [vI x.base, .v (.slice x.entries.A x.entries.n x.entries.c)]⟩, ⟨33, [vI 0, .v (.slice none 0 0)]⟩]⟩ [] [] (by kernel_rfl) on wn ?_
          refine l_nil (q_then_normal ?_)
          cases h5 : decide (x.base + (x.entries.n : Int) < n) with
          | true =>
            have h5 := of_decide_eq_true h5
            refine c_if true rfl ?_
            refine c_seq ?_
            refine c_region ?_
            refine JL_run 3 [] [7, 6] 2 ⟨[(7, vI 13), (6, .p 1 0)], [⟨33, [vI x.base, .v (.slice x.entries.A x.entries.n x.entries.c)]⟩, ⟨33, [vI 0, .v (.slice none 0 0)]⟩]⟩ [] [] (by kernel_rfl) on wn ?_
            refine l_nil (q_then_normal ?_)
            refine c_ret ?_
            refine q_then_ret (q_ret (.inl rfl) [.v (.agg #[.int .i64 0, .slice none 0 0]), vI 13] rfl (fun bs w hS => ?_))
            have hm : mPut x.abs n m.xs = (zLog, 13) := by
              unfold mPut; rw [if_neg (by simpa using (by assumption : mLog _ = 0)), hla, q1, q2]
              first | rw [if_pos (by omega)] | rw [if_neg (by omega), if_pos (by omega)] | rw [if_neg (by omega), if_neg (by omega), if_pos (by omega)] | (rw [if_neg (by omega), if_neg (by omega), if_neg (by omega), if_neg (by simp), if_pos (by show 400 < E.length; omega)])
              all_goals first | rfl | (exfalso; omega)
            refine ⟨⟨0, Sl.nil⟩, ?_, ?_, hS.outS (y := (⟨0, Sl.nil⟩ : CLog)) (Sl.rd_nil _ _)⟩
            · simp only [retOf, den, List.map_cons, List.map_nil]; rw [hm]; rfl
            · rw [hm]; rfl
          | false =>
            have h5 := of_decide_eq_false h5
            refine c_if false rfl ?_
            refine c_skip ?_
            refine q_then_normal ?_
            refine c_seq ?_
            refine c_seq ?_
            refine c_region ?_
            refine JL_run 4 [] [41, 6, 3, 1, 2] 2 ⟨[(41, vB (decide (n < x.base))), (6, .p 1 0), (3, .p 0 0), (1, vI n), (2, .v (.slice m.A m.n m.c))], [⟨33, [vI x.base, .v (.slice x.entries.A x.entries.n x.entries.c)]⟩, ⟨33, [vI 0, .v (.slice none 0 0)]⟩]⟩ [] [] (by kernel_rfl) on wn ?_
            refine l_nil (q_then_normal ?_)
            cases h6 : decide (n < x.base) with
            | true =>
              have h6 := of_decide_eq_true h6
              refine c_if true rfl ?_
              refine c_seq ?_
              refine c_region ?_
              refine JL_run 6 [] [47, 45, 6, 3, 1, 2] 2 ⟨[(47, vI ((m.n : Nat) : Int)), (45, vI (x.base - n)), (6, .p 1 0), (3, .p 0 0), (1, vI n), (2, .v (.slice m.A m.n m.c))], [⟨33, [vI x.base, .v (.slice x.entries.A x.entries.n x.entries.c)]⟩, ⟨33, [vI 0, .v (.slice none 0 0)]⟩]⟩ [inR (x.base - n)] [] (by kernel_rfl) (oc (by unfold inR; omega) on) wn ?_
              cases h7 : decide (((m.n : Nat) : Int) < x.base - n) with
              | true =>
                have h7 := of_decide_eq_true h7
                refine JL_run 1 [] [48, 47, 45, 6, 3, 1, 2] 2 ⟨[(48, vI (if ((m.n : Nat) : Int) < x.base - n then ((m.n : Nat) : Int) else x.base - n)), (47, vI ((m.n : Nat) : Int)), (45, vI (x.base - n)), (6, .p 1 0), (3, .p 0 0), (1, vI n), (2, .v (.slice m.A m.n m.c))], [⟨33, [vI x.base, .v (.slice x.entries.A x.entries.n x.entries.c)]⟩, ⟨33, [vI 0, .v (.slice none 0 0)]⟩]⟩ [] [] (by kernel_rfl) on wn ?_
                rw [if_pos h7]
                refine JL_run 1 [] [9, 6, 3, 1, 2] 2 ⟨[(9, vI ((m.n : Nat) : Int)), (6, .p 1 0), (3, .p 0 0), (1, vI n), (2, .v (.slice m.A m.n m.c))], [⟨33, [vI x.base, .v (.slice x.entries.A x.entries.n x.entries.c)]⟩, ⟨33, [vI 0, .v (.slice none 0 0)]⟩]⟩ [] [] (by kernel_rfl) on wn ?_
                refine l_nil (q_then_normal ?_)
                refine c_region ?_
                refine JL_run 8 [(2, .sl m.n m.n)] [1, 2, 6, 3] 2 ⟨[(1, vI (n + ((m.n : Nat) : Int))), (2, .v (.slice (if m.c = m.n then m.A else m.A.map (·.add (m.n * 1))) (m.n - m.n) (m.c - m.n))), (6, .p 1 0), (3, .p 0 0)], [⟨33, [vI x.base, .v (.slice x.entries.A x.entries.n x.entries.c)]⟩, ⟨33, [vI 0, .v (.slice none 0 0)]⟩]⟩ [((m.n : Nat) : Int) = ((m.n : Nat) : Int), m.n = m.n, m.n ≤ m.n, inR (n + ((m.n : Nat) : Int))] [] (by kernel_rfl) (oc rfl (oc rfl (oc (by omega) (oc (by unfold inR; omega) on)))) wn ?_
                refine l_nil (q_then_normal ?_)
                refine c_seq ?_
                refine c_region ?_
                refine JL_run 1 [] [55, 1, 2, 6, 3] 2 ⟨[(55, .v (.agg #[.int .i64 x.base, .slice x.entries.A x.entries.n x.entries.c])), (1, vI (n + ((m.n : Nat) : Int))), (2, .v (.slice (if m.c = m.n then m.A else m.A.map (·.add (m.n * 1))) (m.n - m.n) (m.c - m.n))), (6, .p 1 0), (3, .p 0 0)], [⟨33, [vI x.base, .v (.slice x.entries.A x.entries.n x.entries.c)]⟩, ⟨33, [vI 0, .v (.slice none 0 0)]⟩]⟩ [] [] (by kernel_rfl) on wn ?_
                refine l_freshF (σ := Sl ByteArray) 66 [] [.v (.agg #[.int .i64 x.base, .slice x.entries.A x.entries.n x.entries.c])] (fun y1 => .agg #[.int .i64 x.base, .slice y1.A y1.n y1.c]) (fun y1 => y1.xs = x.entries.xs) (fun y1 => rowA 9 y1.A y1.c (y1.xs : List ByteArray)) Try.call66 rfl rfl rfl rfl (fun bs w hS => log_CopyR x w (Rds.kp hx hS.kp) (by omega)) ?_
                rintro y1 hF1
                obtain ⟨A1, c1, rfl⟩ := Sl.of_xs hF1
                refine l_weak (rowA 9 A1 c1 (x.entries.xs : List ByteArray)) (List.Sublist.refl _) (fun w h => h) ?_
                refine l_know (F := RowOk A1 c1 (x.entries.xs : List ByteArray)) (fun bs w hS => rowA_rok (hS.res _ (.head _))) fun hrow1 => ?_
                have nchrow1 := hrow1.2
                refine JL_run 2 [] [10, 1, 2, 6, 3] 3 ⟨[(10, .p 2 0), (1, vI (n + ((m.n : Nat) : Int))), (2, .v (.slice (if m.c = m.n then m.A else m.A.map (·.add (m.n * 1))) (m.n - m.n) (m.c - m.n))), (6, .p 1 0), (3, .p 0 0)], [⟨33, [vI x.base, .v (.slice x.entries.A x.entries.n x.entries.c)]⟩, ⟨33, [vI 0, .v (.slice none 0 0)]⟩, ⟨33, [vI x.base, .v (.slice A1 x.entries.xs.length c1)]⟩]⟩ [] [] (by kernel_rfl) on wn ?_
                refine l_nil (q_then_normal ?_)
                refine c_seq ?_
                refine c_seq ?_
                refine c_region ?_
                refine JL_run 3 [] [59, 58, 57, 10, 1, 6, 3] 3 ⟨[(59, vI 0), (58, vI ((m.n - m.n : Nat) : Int)), (57, .v (.slice (if m.c = m.n then m.A else m.A.map (·.add (m.n * 1))) (m.n - m.n) (m.c - m.n))), (10, .p 2 0), (1, vI (n + ((m.n : Nat) : Int))), (6, .p 1 0), (3, .p 0 0)], [⟨33, [vI x.base, .v (.slice x.entries.A x.entries.n x.entries.c)]⟩, ⟨33, [vI 0, .v (.slice none 0 0)]⟩, ⟨33, [vI x.base, .v (.slice A1 x.entries.xs.length c1)]⟩]⟩ [] [] (by kernel_rfl) on wn ?_
                refine l_nil (q_then_normal ?_)
                refine c_block ?_
                obtain ⟨r, hr⟩ : ∃ r : Sl ByteArray, r = ⟨offA m.A m.c m.n 1, m.c - m.n, m.xs.drop m.n⟩ := ⟨_, rfl⟩
                have hrx : r.xs = m.xs.drop (x.base - n).toNat := by rw [hr] <;> exact drop_cut (by first | omega | (split at * <;> omega))
                have hrr : Sl.rd anyB w r := by rw [hr]; exact (hm.wide (fun _ _ => trivial)).drop _ (by first | omega | (split <;> omega))
                have hrk : r.n = m.n - m.n := by rw [hr]; exact List.length_drop ..
                have okr := Sl.rd.ok hrr
                have ncr := Sl.ok.nc okr
                have hrnx : r.n = r.xs.length := rfl
                refine c_loop (σ := Nat × Option Addr × Nat × List ByteArray) (fun ⟨i, A, c, E⟩ => i ≤ r.n ∧ putGo x.entries.xs (n - x.base).toNat (m.xs.drop (x.base - n).toNat) = putGo E ((n - x.base).toNat + i) (r.xs.drop i) ∧ (n - x.base).toNat + i ≤ E.length ∧ E.length ≤ 400 + i ∧ ∀ z, z ∈ E → z.size ≤ 9223372036854775807) (fun ⟨i, A, c, E⟩ => r.n - i) (fun ⟨i, A, c, E⟩ => [rowA 9 A c (E : List ByteArray)]) (fun ⟨i, A, c, E⟩ => ⟨[(57, .v (.slice r.A r.n r.c)), (59, vI ((i : Nat) : Int)), (58, vI ((r.n : Nat) : Int)), (10, .p 2 0), (1, vI (n + ((m.n : Nat) : Int))), (6, .p 1 0), (3, .p 0 0)], [⟨33, [vI x.base, .v (.slice x.entries.A x.entries.n x.entries.c)]⟩, ⟨33, [vI 0, .v (.slice none 0 0)]⟩, ⟨33, [vI x.base, .v (.slice A E.length c)]⟩]⟩) ⟨0, A1, c1, x.entries.xs⟩ ⟨Nat.zero_le _, by rw [hrx]; rfl, by omega, by omega, hmsz⟩ (s_start [57, 59, 58, 10, 1, 6, 3] 3 (by simp only [hr, Sl.n, List.length_drop]; kernel_rfl) rfl) ?_
                rintro ⟨i, A, c, E⟩ ⟨hi, hP, hE, hE4, hEs⟩
                refine c_know (F := RowOk A c (E : List ByteArray)) (fun bs w hS => rowA_rok (hS.res _ (.head _))) fun hrow => ?_
                have nch := hrow.2
                refine c_seq ?_
                refine c_region ?_
                refine JL_run 1 [] [60, 57, 59, 58, 10, 1, 6, 3] 3 ⟨[(60, vB (decide (((i : Nat) : Int) < ((r.n : Nat) : Int)))), (57, .v (.slice r.A r.n r.c)), (59, vI ((i : Nat) : Int)), (58, vI ((r.n : Nat) : Int)), (10, .p 2 0), (1, vI (n + ((m.n : Nat) : Int))), (6, .p 1 0), (3, .p 0 0)], [⟨33, [vI x.base, .v (.slice x.entries.A x.entries.n x.entries.c)]⟩, ⟨33, [vI 0, .v (.slice none 0 0)]⟩, ⟨33, [vI x.base, .v (.slice A E.length c)]⟩]⟩ [] [] (by kernel_rfl) on wn ?_
                refine l_nil (q_then_normal ?_)
                refine c_seq ?_
                cases h8 : decide (((i : Nat) : Int) < ((r.n : Nat) : Int)) with
                | true =>
                  have h8 := of_decide_eq_true h8
                  exfalso; omega
                | false =>
                  have h8 := of_decide_eq_false h8
                  refine c_if false rfl ?_
                  refine c_exit ?_
                  refine q_then_exit (q_then_exit (q_block_hit (q_then_normal ?_)))
                  refine c_seq ?_
                  refine c_seq ?_
                  refine c_region ?_
                  refine JL_run 4 [] [109, 10, 6] 3 ⟨[(109, vB (decide ((400 : Int) < ((E.length : Nat) : Int)))), (10, .p 2 0), (6, .p 1 0)], [⟨33, [vI x.base, .v (.slice x.entries.A x.entries.n x.entries.c)]⟩, ⟨33, [vI 0, .v (.slice none 0 0)]⟩, ⟨33, [vI x.base, .v (.slice A E.length c)]⟩]⟩ [] [] (by kernel_rfl) on wn ?_
                  refine l_nil (q_then_normal ?_)
                  cases h9 : decide ((400 : Int) < ((E.length : Nat) : Int)) with
                  | true =>
                    have h9 := of_decide_eq_true h9
                    refine c_if true rfl ?_
                    refine c_seq ?_
                    refine c_region ?_
                    refine JL_run 3 [] [7, 6] 2 ⟨[(7, vI 8), (6, .p 1 0)], [⟨33, [vI x.base, .v (.slice x.entries.A x.entries.n x.entries.c)]⟩, ⟨33, [vI 0, .v (.slice none 0 0)]⟩]⟩ [] [] (by kernel_rfl) on wn ?_
                    refine l_nil (q_then_normal ?_)
                    refine c_ret ?_
                    refine q_then_ret (q_ret (.inl rfl) [.v (.agg #[.int .i64 0, .slice none 0 0]), vI 8] rfl (fun bs w hS => ?_))
                    have hpg : putGo x.entries.xs (n - x.base).toNat (m.xs.drop (x.base - n).toNat) = (E, 0) := by rw [hP]; exact putGo_end (by omega)
                    have hm : mPut x.abs n m.xs = (zLog, 8) := by
                      unfold mPut; rw [if_neg (by simpa using (by assumption : mLog _ = 0)), hla, q1, q2]
                      first | rw [if_pos (by omega)] | rw [if_neg (by omega), if_pos (by omega)] | rw [if_neg (by omega), if_neg (by omega), if_pos (by omega)] | (rw [if_neg (by omega), if_neg (by omega), if_neg (by omega), hpg, if_neg (by simp), if_pos (by show 400 < E.length; omega)])
                      all_goals first | rfl | (exfalso; omega)
                    refine ⟨⟨0, Sl.nil⟩, ?_, ?_, hS.outS (y := (⟨0, Sl.nil⟩ : CLog)) (Sl.rd_nil _ _)⟩
                    · simp only [retOf, den, List.map_cons, List.map_nil]; rw [hm]; rfl
                    · rw [hm]; rfl
                  | false =>
                    have h9 := of_decide_eq_false h9
                    refine c_if false rfl ?_
                    refine c_skip ?_
                    refine q_then_normal ?_
                    refine c_seq ?_
                    refine c_region ?_
                    refine JL_run 3 [] [7, 6] 2 ⟨[(7, vI 0), (6, .p 1 0)], [⟨33, [vI x.base, .v (.slice x.entries.A x.entries.n x.entries.c)]⟩, ⟨33, [vI x.base, .v (.slice A E.length c)]⟩]⟩ [] [] (by kernel_rfl) on wn ?_
                    refine l_nil (q_then_normal ?_)
                    refine c_ret ?_
                    refine q_ret (.inl rfl) [.v (.agg #[.int .i64 x.base, .slice A E.length c]), vI 0] rfl (fun bs w hS => ?_)
                    have hpg : putGo x.entries.xs (n - x.base).toNat (m.xs.drop (x.base - n).toNat) = (E, 0) := by rw [hP]; exact putGo_end (by omega)
                    have hm : mPut x.abs n m.xs = (⟨x.base, E⟩, 0) := by unfold mPut; rw [if_neg (by simpa using (by assumption : mLog _ = 0)), hla, q1, q2]; rw [if_neg (by omega), if_neg (by omega), if_neg (by omega), hpg, if_neg (by simp), if_neg (by show ¬ 400 < E.length; omega)]
                    refine ⟨⟨x.base, ⟨A, c, E⟩⟩, ?_, ?_, hS.outS (y := (⟨x.base, ⟨A, c, E⟩⟩ : CLog)) (allR_row (.head _) (hS.res _ (.head _)) hEs)⟩
                    · rw [hm]; rfl
                    · rw [hm]; rfl
              | false =>
                have h7 := of_decide_eq_false h7
                refine JL_run 1 [] [48, 47, 45, 6, 3, 1, 2] 2 ⟨[(48, vI (if ((m.n : Nat) : Int) < x.base - n then ((m.n : Nat) : Int) else x.base - n)), (47, vI ((m.n : Nat) : Int)), (45, vI (x.base - n)), (6, .p 1 0), (3, .p 0 0), (1, vI n), (2, .v (.slice m.A m.n m.c))], [⟨33, [vI x.base, .v (.slice x.entries.A x.entries.n x.entries.c)]⟩, ⟨33, [vI 0, .v (.slice none 0 0)]⟩]⟩ [] [] (by kernel_rfl) on wn ?_
                rw [if_neg h7]
                refine JL_run 1 [] [9, 6, 3, 1, 2] 2 ⟨[(9, vI (x.base - n)), (6, .p 1 0), (3, .p 0 0), (1, vI n), (2, .v (.slice m.A m.n m.c))], [⟨33, [vI x.base, .v (.slice x.entries.A x.entries.n x.entries.c)]⟩, ⟨33, [vI 0, .v (.slice none 0 0)]⟩]⟩ [] [] (by kernel_rfl) on wn ?_
                refine l_nil (q_then_normal ?_)
                refine c_region ?_
                refine JL_run 8 [(2, .sl (x.base - n).toNat m.n)] [1, 2, 6, 3] 2 ⟨[(1, vI (n + (x.base - n))), (2, .v (.slice (if m.c = (x.base - n).toNat then m.A else m.A.map (·.add ((x.base - n).toNat * 1))) (m.n - (x.base - n).toNat) (m.c - (x.base - n).toNat))), (6, .p 1 0), (3, .p 0 0)], [⟨33, [vI x.base, .v (.slice x.entries.A x.entries.n x.entries.c)]⟩, ⟨33, [vI 0, .v (.slice none 0 0)]⟩]⟩ [x.base - n = (((x.base - n).toNat : Nat) : Int), m.n = m.n, (x.base - n).toNat ≤ m.n, inR (n + (x.base - n))] [] (by kernel_rfl) (oc (by omega) (oc rfl (oc (by omega) (oc (by unfold inR; omega) on)))) wn ?_
                refine l_nil (q_then_normal ?_)
                refine c_seq ?_
                refine c_region ?_
                refine JL_run 1 [] [55, 1, 2, 6, 3] 2 ⟨[(55, .v (.agg #[.int .i64 x.base, .slice x.entries.A x.entries.n x.entries.c])), (1, vI (n + (x.base - n))), (2, .v (.slice (if m.c = (x.base - n).toNat then m.A else m.A.map (·.add ((x.base - n).toNat * 1))) (m.n - (x.base - n).toNat) (m.c - (x.base - n).toNat))), (6, .p 1 0), (3, .p 0 0)], [⟨33, [vI x.base, .v (.slice x.entries.A x.entries.n x.entries.c)]⟩, ⟨33, [vI 0, .v (.slice none 0 0)]⟩]⟩ [] [] (by kernel_rfl) on wn ?_
                refine l_freshF (σ := Sl ByteArray) 66 [] [.v (.agg #[.int .i64 x.base, .slice x.entries.A x.entries.n x.entries.c])] (fun y3 => .agg #[.int .i64 x.base, .slice y3.A y3.n y3.c]) (fun y3 => y3.xs = x.entries.xs) (fun y3 => rowA 9 y3.A y3.c (y3.xs : List ByteArray)) Try.call66 rfl rfl rfl rfl (fun bs w hS => log_CopyR x w (Rds.kp hx hS.kp) (by omega)) ?_
                rintro y3 hF3
                obtain ⟨A3, c3, rfl⟩ := Sl.of_xs hF3
                refine l_weak (rowA 9 A3 c3 (x.entries.xs : List ByteArray)) (List.Sublist.refl _) (fun w h => h) ?_
                refine l_know (F := RowOk A3 c3 (x.entries.xs : List ByteArray)) (fun bs w hS => rowA_rok (hS.res _ (.head _))) fun hrow3 => ?_
                have nchrow3 := hrow3.2
                refine JL_run 2 [] [10, 1, 2, 6, 3] 3 ⟨[(10, .p 2 0), (1, vI (n + (x.base - n))), (2, .v (.slice (if m.c = (x.base - n).toNat then m.A else m.A.map (·.add ((x.base - n).toNat * 1))) (m.n - (x.base - n).toNat) (m.c - (x.base - n).toNat))), (6, .p 1 0), (3, .p 0 0)], [⟨33, [vI x.base, .v (.slice x.entries.A x.entries.n x.entries.c)]⟩, ⟨33, [vI 0, .v (.slice none 0 0)]⟩, ⟨33, [vI x.base, .v (.slice A3 x.entries.xs.length c3)]⟩]⟩ [] [] (by kernel_rfl) on wn ?_
                refine l_nil (q_then_normal ?_)
                refine c_seq ?_
                refine c_seq ?_
                refine c_region ?_
                refine JL_run 3 [] [59, 58, 57, 10, 1, 6, 3] 3 ⟨[(59, vI 0), (58, vI ((m.n - (x.base - n).toNat : Nat) : Int)), (57, .v (.slice (if m.c = (x.base - n).toNat then m.A else m.A.map (·.add ((x.base - n).toNat * 1))) (m.n - (x.base - n).toNat) (m.c - (x.base - n).toNat))), (10, .p 2 0), (1, vI (n + (x.base - n))), (6, .p 1 0), (3, .p 0 0)], [⟨33, [vI x.base, .v (.slice x.entries.A x.entries.n x.entries.c)]⟩, ⟨33, [vI 0, .v (.slice none 0 0)]⟩, ⟨33, [vI x.base, .v (.slice A3 x.entries.xs.length c3)]⟩]⟩ [] [] (by kernel_rfl) on wn ?_
                refine l_nil (q_then_normal ?_)
                refine c_block ?_
                obtain ⟨r, hr⟩ : ∃ r : Sl ByteArray, r = ⟨offA m.A m.c (x.base - n).toNat 1, m.c - (x.base - n).toNat, m.xs.drop (x.base - n).toNat⟩ := ⟨_, rfl⟩
                have hrx : r.xs = m.xs.drop (x.base - n).toNat := by rw [hr] <;> exact drop_cut (by first | omega | (split at * <;> omega))
                have hrr : Sl.rd anyB w r := by rw [hr]; exact (hm.wide (fun _ _ => trivial)).drop _ (by first | omega | (split <;> omega))
                have hrk : r.n = m.n - (x.base - n).toNat := by rw [hr]; exact List.length_drop ..
                have okr := Sl.rd.ok hrr
                have ncr := Sl.ok.nc okr
                have hrnx : r.n = r.xs.length := rfl
                refine c_loop (σ := Nat × Option Addr × Nat × List ByteArray) (fun ⟨i, A, c, E⟩ => i ≤ r.n ∧ putGo x.entries.xs (n - x.base).toNat (m.xs.drop (x.base - n).toNat) = putGo E ((n - x.base).toNat + i) (r.xs.drop i) ∧ (n - x.base).toNat + i ≤ E.length ∧ E.length ≤ 400 + i ∧ ∀ z, z ∈ E → z.size ≤ 9223372036854775807) (fun ⟨i, A, c, E⟩ => r.n - i) (fun ⟨i, A, c, E⟩ => [rowA 9 A c (E : List ByteArray)]) (fun ⟨i, A, c, E⟩ => ⟨[(57, .v (.slice r.A r.n r.c)), (59, vI ((i : Nat) : Int)), (58, vI ((r.n : Nat) : Int)), (10, .p 2 0), (1, vI (n + (x.base - n))), (6, .p 1 0), (3, .p 0 0)], [⟨33, [vI x.base, .v (.slice x.entries.A x.entries.n x.entries.c)]⟩, ⟨33, [vI 0, .v (.slice none 0 0)]⟩, ⟨33, [vI x.base, .v (.slice A E.length c)]⟩]⟩) ⟨0, A3, c3, x.entries.xs⟩ ⟨Nat.zero_le _, by rw [hrx]; rfl, by omega, by omega, hmsz⟩ (s_start [57, 59, 58, 10, 1, 6, 3] 3 (by simp only [hr, Sl.n, List.length_drop]; kernel_rfl) rfl) ?_
                rintro ⟨i, A, c, E⟩ ⟨hi, hP, hE, hE4, hEs⟩
                refine c_know (F := RowOk A c (E : List ByteArray)) (fun bs w hS => rowA_rok (hS.res _ (.head _))) fun hrow => ?_
                have nch := hrow.2
                refine c_seq ?_
                refine c_region ?_
                refine JL_run 1 [] [60, 57, 59, 58, 10, 1, 6, 3] 3 ⟨[(60, vB (decide (((i : Nat) : Int) < ((r.n : Nat) : Int)))), (57, .v (.slice r.A r.n r.c)), (59, vI ((i : Nat) : Int)), (58, vI ((r.n : Nat) : Int)), (10, .p 2 0), (1, vI (n + (x.base - n))), (6, .p 1 0), (3, .p 0 0)], [⟨33, [vI x.base, .v (.slice x.entries.A x.entries.n x.entries.c)]⟩, ⟨33, [vI 0, .v (.slice none 0 0)]⟩, ⟨33, [vI x.base, .v (.slice A E.length c)]⟩]⟩ [] [] (by kernel_rfl) on wn ?_
                refine l_nil (q_then_normal ?_)
                refine c_seq ?_
                cases h10 : decide (((i : Nat) : Int) < ((r.n : Nat) : Int)) with
                | true =>
                  have h10 := of_decide_eq_true h10
                  refine c_if true rfl ?_
                  refine c_skip ?_
                  refine q_then_normal ?_
                  refine c_seq ?_
                  refine c_block ?_
                  refine c_seq ?_
                  refine c_region ?_
                  refine JL_run 5 [(1, .idx r.ad i), (2, .ext [.string (r.at i)])] [12, 11, 57, 59, 58, 10, 1, 6, 3] 3 ⟨[(12, vS (r.at i)), (11, vI ((i : Nat) : Int)), (57, .v (.slice r.A r.n r.c)), (59, vI ((i : Nat) : Int)), (58, vI ((r.n : Nat) : Int)), (10, .p 2 0), (1, vI (n + (x.base - n))), (6, .p 1 0), (3, .p 0 0)], [⟨33, [vI x.base, .v (.slice x.entries.A x.entries.n x.entries.c)]⟩, ⟨33, [vI 0, .v (.slice none 0 0)]⟩, ⟨33, [vI x.base, .v (.slice A E.length c)]⟩]⟩ [r.A = some r.ad, ((i : Nat) : Int) = ((i : Nat) : Int), i < r.n] [(r.ad.add (i * 1), [.string (r.at i)])] (by kernel_rfl) (oc (Sl.ok.own (s := r) (i := i) okr (by omega)) (oc rfl (oc (by omega) on))) (fun w hk hr => ⟨(Sl.rd.all (s := r) (i := i) (Sl.rd.kp hrr hk) (by omega) rfl), trivial⟩) ?_
                  refine l_nil (q_then_normal ?_)
                  refine c_seq ?_
                  refine c_seq ?_
                  refine c_region ?_
                  refine JL_run 1 [] [65, 12, 11, 57, 59, 58, 10, 1, 6, 3] 3 ⟨[(65, vS (r.at i)), (12, vS (r.at i)), (11, vI ((i : Nat) : Int)), (57, .v (.slice r.A r.n r.c)), (59, vI ((i : Nat) : Int)), (58, vI ((r.n : Nat) : Int)), (10, .p 2 0), (1, vI (n + (x.base - n))), (6, .p 1 0), (3, .p 0 0)], [⟨33, [vI x.base, .v (.slice x.entries.A x.entries.n x.entries.c)]⟩, ⟨33, [vI 0, .v (.slice none 0 0)]⟩, ⟨33, [vI x.base, .v (.slice A E.length c)]⟩]⟩ [] [] (by kernel_rfl) on wn ?_
                  refine l_pure 67 [] [vS (r.at i)] (.tuple #[.agg #[.int .i64 ((mDecode (r.at i)).1.kind), .int .i64 ((mDecode (r.at i)).1.client), .int .i64 ((mDecode (r.at i)).1.session), .int .i64 ((mDecode (r.at i)).1.seq), .int .i64 ((mDecode (r.at i)).1.acked), .int .i64 ((mDecode (r.at i)).1.op.kind), .string ((mDecode (r.at i)).1.op.a), .string ((mDecode (r.at i)).1.op.b), .int .i64 ((mDecode (r.at i)).1.op.n)], .int .i64 ((mDecode (r.at i)).2)]) Try.call67 rfl rfl rfl rfl (fun bs w hS => command_Decode (r.at i) w (Sl.ok.at (s := r) (i := i) okr (by omega))) ?_
                  refine JL_run 6 [] [14, 12, 11, 57, 59, 58, 10, 1, 6, 3] 3 ⟨[(14, vI ((mDecode (r.at i)).2)), (12, vS (r.at i)), (11, vI ((i : Nat) : Int)), (57, .v (.slice r.A r.n r.c)), (59, vI ((i : Nat) : Int)), (58, vI ((r.n : Nat) : Int)), (10, .p 2 0), (1, vI (n + (x.base - n))), (6, .p 1 0), (3, .p 0 0)], [⟨33, [vI x.base, .v (.slice x.entries.A x.entries.n x.entries.c)]⟩, ⟨33, [vI 0, .v (.slice none 0 0)]⟩, ⟨33, [vI x.base, .v (.slice A E.length c)]⟩]⟩ [] [] (by kernel_rfl) on wn ?_
                  refine l_nil (q_then_normal ?_)
                  refine c_seq ?_
                  refine c_region ?_
                  refine JL_run 2 [] [70, 14, 12, 11, 57, 59, 58, 10, 1, 6, 3] 3 ⟨[(70, vB (!(decide ((mDecode (r.at i)).2 = 0)))), (14, vI ((mDecode (r.at i)).2)), (12, vS (r.at i)), (11, vI ((i : Nat) : Int)), (57, .v (.slice r.A r.n r.c)), (59, vI ((i : Nat) : Int)), (58, vI ((r.n : Nat) : Int)), (10, .p 2 0), (1, vI (n + (x.base - n))), (6, .p 1 0), (3, .p 0 0)], [⟨33, [vI x.base, .v (.slice x.entries.A x.entries.n x.entries.c)]⟩, ⟨33, [vI 0, .v (.slice none 0 0)]⟩, ⟨33, [vI x.base, .v (.slice A E.length c)]⟩]⟩ [] [] (by kernel_rfl) on wn ?_
                  refine l_nil (q_then_normal ?_)
                  cases h11 : decide ((mDecode (r.at i)).2 = 0) with
                  | true =>
                    have h11 := of_decide_eq_true h11
                    refine c_if false rfl ?_
                    refine c_skip ?_
                    refine q_then_normal ?_
                    refine c_seq ?_
                    refine c_region ?_
                    refine JL_run 7 [] [15, 12, 57, 59, 58, 10, 1, 6, 3] 3 ⟨[(15, vI (((n + (x.base - n)) + ((i : Nat) : Int)) - x.base)), (12, vS (r.at i)), (57, .v (.slice r.A r.n r.c)), (59, vI ((i : Nat) : Int)), (58, vI ((r.n : Nat) : Int)), (10, .p 2 0), (1, vI (n + (x.base - n))), (6, .p 1 0), (3, .p 0 0)], [⟨33, [vI x.base, .v (.slice x.entries.A x.entries.n x.entries.c)]⟩, ⟨33, [vI 0, .v (.slice none 0 0)]⟩, ⟨33, [vI x.base, .v (.slice A E.length c)]⟩]⟩ [inR ((n + (x.base - n)) + ((i : Nat) : Int)), inR (((n + (x.base - n)) + ((i : Nat) : Int)) - x.base)] [] (by kernel_rfl) (oc (by unfold inR; omega) (oc (by unfold inR; omega) on)) wn ?_
                    refine l_nil (q_then_normal ?_)
                    refine c_seq ?_
                    refine c_seq ?_
                    refine c_region ?_
                    refine JL_run 6 [] [84, 15, 12, 57, 59, 58, 10, 1, 6, 3] 3 ⟨[(84, vB (decide (((n + (x.base - n)) + ((i : Nat) : Int)) - x.base < ((E.length : Nat) : Int)))), (15, vI (((n + (x.base - n)) + ((i : Nat) : Int)) - x.base)), (12, vS (r.at i)), (57, .v (.slice r.A r.n r.c)), (59, vI ((i : Nat) : Int)), (58, vI ((r.n : Nat) : Int)), (10, .p 2 0), (1, vI (n + (x.base - n))), (6, .p 1 0), (3, .p 0 0)], [⟨33, [vI x.base, .v (.slice x.entries.A x.entries.n x.entries.c)]⟩, ⟨33, [vI 0, .v (.slice none 0 0)]⟩, ⟨33, [vI x.base, .v (.slice A E.length c)]⟩]⟩ [] [] (by kernel_rfl) on wn ?_
                    cases h12 : decide (((n + (x.base - n)) + ((i : Nat) : Int)) - x.base < ((E.length : Nat) : Int)) with
                    | true =>
                      have h12 := of_decide_eq_true h12
                      refine JL_run 8 [(3, .idx (oad A) (((n + (x.base - n)) + ((i : Nat) : Int)) - x.base).toNat), (4, .ext [.string (E.getD (((n + (x.base - n)) + ((i : Nat) : Int)) - x.base).toNat default)])] [92, 15, 12, 57, 59, 58, 10, 1, 6, 3] 3 ⟨[(92, vB (decide ((E.getD (((n + (x.base - n)) + ((i : Nat) : Int)) - x.base).toNat default) = (r.at i)))), (15, vI (((n + (x.base - n)) + ((i : Nat) : Int)) - x.base)), (12, vS (r.at i)), (57, .v (.slice r.A r.n r.c)), (59, vI ((i : Nat) : Int)), (58, vI ((r.n : Nat) : Int)), (10, .p 2 0), (1, vI (n + (x.base - n))), (6, .p 1 0), (3, .p 0 0)], [⟨33, [vI x.base, .v (.slice x.entries.A x.entries.n x.entries.c)]⟩, ⟨33, [vI 0, .v (.slice none 0 0)]⟩, ⟨33, [vI x.base, .v (.slice A E.length c)]⟩]⟩ [A = some (oad A), ((n + (x.base - n)) + ((i : Nat) : Int)) - x.base = (((((n + (x.base - n)) + ((i : Nat) : Int)) - x.base).toNat : Nat) : Int), (((n + (x.base - n)) + ((i : Nat) : Int)) - x.base).toNat < E.length] [((oad A).add ((((n + (x.base - n)) + ((i : Nat) : Int)) - x.base).toNat * 1), [.string (E.getD (((n + (x.base - n)) + ((i : Nat) : Int)) - x.base).toNat default)])] (by kernel_rfl) (oc (hrow.1 (((n + (x.base - n)) + ((i : Nat) : Int)) - x.base).toNat (by omega)) (oc (by omega) (oc (by omega) on))) (fun w hk hr => ⟨(rowA_all (i := (((n + (x.base - n)) + ((i : Nat) : Int)) - x.base).toNat) (hr _ (.head _)) (by omega) rfl), trivial⟩) ?_
                      refine l_nil (q_then_normal ?_)
                      cases h13 : decide ((E.getD (((n + (x.base - n)) + ((i : Nat) : Int)) - x.base).toNat default) = (r.at i)) with
                      | true =>
                        have h13 := of_decide_eq_true h13
                        refine c_if true rfl ?_
                        refine c_exit ?_
                        refine q_then_exit (q_block_hit (q_then_normal ?_))
                        refine c_region ?_
                        refine JL_run 2 [] [59, 57, 58, 10, 1, 6, 3] 3 ⟨[(59, vI (((i : Nat) : Int) + 1)), (57, .v (.slice r.A r.n r.c)), (58, vI ((r.n : Nat) : Int)), (10, .p 2 0), (1, vI (n + (x.base - n))), (6, .p 1 0), (3, .p 0 0)], [⟨33, [vI x.base, .v (.slice x.entries.A x.entries.n x.entries.c)]⟩, ⟨33, [vI 0, .v (.slice none 0 0)]⟩, ⟨33, [vI x.base, .v (.slice A E.length c)]⟩]⟩ [inR (((i : Nat) : Int) + 1)] [] (by kernel_rfl) (oc (by unfold inR; omega) on) wn ?_
                        refine l_nil (q_loop (x := (⟨i, A, c, E⟩ : Nat × Option Addr × Nat × List ByteArray)) (⟨i + 1, A, c, E⟩ : Nat × Option Addr × Nat × List ByteArray) ⟨by omega, by rw [hP, putGo_next (by omega) h11, putOne_same (k := (n - x.base).toNat + i) (by omega) (by rw [show (n - x.base).toNat + i = (((n + (x.base - n)) + ((i : Nat) : Int)) - x.base).toNat by omega]; exact h13), show (n - x.base).toNat + i + 1 = (n - x.base).toNat + (i + 1) by omega], by omega, by omega, hEs⟩ (by show r.n - (i + 1) < r.n - i; omega) (s_start [57, 59, 58, 10, 1, 6, 3] 3 (by kernel_rfl) rfl))
                      | false =>
                        have h13 := of_decide_eq_false h13
                        refine c_if false rfl ?_
                        refine c_skip ?_
                        refine q_then_normal ?_
                        refine c_region ?_
                        refine JL_run 6 [] [98, 95, 94, 12, 57, 59, 58, 10, 1, 6, 3] 3 ⟨[(98, vI ((E.length : Nat) : Int)), (95, vI (((n + (x.base - n)) + ((i : Nat) : Int)) - x.base)), (94, .v (.slice A E.length c)), (12, vS (r.at i)), (57, .v (.slice r.A r.n r.c)), (59, vI ((i : Nat) : Int)), (58, vI ((r.n : Nat) : Int)), (10, .p 2 0), (1, vI (n + (x.base - n))), (6, .p 1 0), (3, .p 0 0)], [⟨33, [vI x.base, .v (.slice x.entries.A x.entries.n x.entries.c)]⟩, ⟨33, [vI 0, .v (.slice none 0 0)]⟩, ⟨33, [vI x.base, .v (.slice A E.length c)]⟩]⟩ [] [] (by kernel_rfl) on wn ?_
                        cases h14 : decide (((E.length : Nat) : Int) < ((n + (x.base - n)) + ((i : Nat) : Int)) - x.base) with
                        | true =>
                          have h14 := of_decide_eq_true h14
                          refine JL_run 1 [] [99, 98, 95, 94, 12, 57, 59, 58, 10, 1, 6, 3] 3 ⟨[(99, vI (if ((E.length : Nat) : Int) < ((n + (x.base - n)) + ((i : Nat) : Int)) - x.base then ((E.length : Nat) : Int) else ((n + (x.base - n)) + ((i : Nat) : Int)) - x.base)), (98, vI ((E.length : Nat) : Int)), (95, vI (((n + (x.base - n)) + ((i : Nat) : Int)) - x.base)), (94, .v (.slice A E.length c)), (12, vS (r.at i)), (57, .v (.slice r.A r.n r.c)), (59, vI ((i : Nat) : Int)), (58, vI ((r.n : Nat) : Int)), (10, .p 2 0), (1, vI (n + (x.base - n))), (6, .p 1 0), (3, .p 0 0)], [⟨33, [vI x.base, .v (.slice x.entries.A x.entries.n x.entries.c)]⟩, ⟨33, [vI 0, .v (.slice none 0 0)]⟩, ⟨33, [vI x.base, .v (.slice A E.length c)]⟩]⟩ [] [] (by kernel_rfl) on wn ?_
                          rw [if_pos h14]
                          refine JL_run 3 [(0, .sl 0 E.length)] [102, 100, 57, 59, 58, 10, 1, 6, 3] 4 ⟨[(102, .s 3 0 1 1), (100, .v (.slice A E.length c)), (57, .v (.slice r.A r.n r.c)), (59, vI ((i : Nat) : Int)), (58, vI ((r.n : Nat) : Int)), (10, .p 2 0), (1, vI (n + (x.base - n))), (6, .p 1 0), (3, .p 0 0)], [⟨33, [vI x.base, .v (.slice x.entries.A x.entries.n x.entries.c)]⟩, ⟨33, [vI 0, .v (.slice none 0 0)]⟩, ⟨33, [vI x.base, .v (.slice A E.length c)]⟩, ⟨9, [vS (r.at i)]⟩]⟩ [0 = 0, ((E.length : Nat) : Int) = ((E.length : Nat) : Int), E.length ≤ c] [] (by kernel_rfl) (oc rfl (oc rfl (oc (by omega) on))) wn ?_
                          refine l_weak (rowA 9 A c ((E).take E.length : List ByteArray)) (List.Sublist.refl _) (fun w h => rowA_take h E.length (by omega)) ?_
                          refine l_appendN (α := ByteArray) 9 16 A c ((E).take E.length) E.length (by rw [List.length_take]; exact Nat.min_eq_left (by omega)) (.s 3 0 1 1) ([(r.at i)]) Try.underlying31 (by kernel_rfl) rfl rfl rfl (fun bs w hS => by obtain ⟨q1, q2, q3, q4⟩ := src_loc (i := 3) (off := 0) (k := 1) (c := 1) (q := 1) (vs := [.string (r.at i)]) hS rfl rfl; exact ⟨some q1, q2, q3, q4⟩) (by simp only [List.length_append, List.length_nil, List.length_cons, List.length_take]; omega) (by simp only [List.length_append, List.length_nil, List.length_cons, List.length_take]; omega) ?_
                          intro A5 c5
                          refine JL_run 2 [] [57, 59, 58, 10, 1, 6, 3] 3 ⟨[(57, .v (.slice r.A r.n r.c)), (59, vI ((i : Nat) : Int)), (58, vI ((r.n : Nat) : Int)), (10, .p 2 0), (1, vI (n + (x.base - n))), (6, .p 1 0), (3, .p 0 0)], [⟨33, [vI x.base, .v (.slice x.entries.A x.entries.n x.entries.c)]⟩, ⟨33, [vI 0, .v (.slice none 0 0)]⟩, ⟨33, [vI x.base, .v (.slice A5 (((E).take E.length) ++ [(r.at i)]).length c5)]⟩]⟩ [] [] (by kernel_rfl) on wn ?_
                          refine l_nil (q_block_normal (q_then_normal ?_))
                          refine c_region ?_
                          refine JL_run 2 [] [59, 57, 58, 10, 1, 6, 3] 3 ⟨[(59, vI (((i : Nat) : Int) + 1)), (57, .v (.slice r.A r.n r.c)), (58, vI ((r.n : Nat) : Int)), (10, .p 2 0), (1, vI (n + (x.base - n))), (6, .p 1 0), (3, .p 0 0)], [⟨33, [vI x.base, .v (.slice x.entries.A x.entries.n x.entries.c)]⟩, ⟨33, [vI 0, .v (.slice none 0 0)]⟩, ⟨33, [vI x.base, .v (.slice A5 (((E).take E.length) ++ [(r.at i)]).length c5)]⟩]⟩ [inR (((i : Nat) : Int) + 1)] [] (by kernel_rfl) (oc (by unfold inR; omega) on) wn ?_
                          refine l_nil (q_loop (x := (⟨i, A, c, E⟩ : Nat × Option Addr × Nat × List ByteArray)) (⟨i + 1, A5, c5, ((E).take E.length) ++ [(r.at i)]⟩ : Nat × Option Addr × Nat × List ByteArray) ⟨by omega, by rw [hP, putGo_next (by omega) h11, putOne_new (k := (n - x.base).toNat + i) (by rintro ⟨hz1, hz2⟩; first | omega | (rw [show (n - x.base).toNat + i = (((n + (x.base - n)) + ((i : Nat) : Int)) - x.base).toNat by omega] at hz2; exact h13 hz2)), show (n - x.base).toNat + i + 1 = (n - x.base).toNat + (i + 1) by omega]; (rw [show (n - x.base).toNat + i = E.length by omega] <;> rfl), by simp only [List.length_append, List.length_take, List.length_cons, List.length_nil]; omega, by simp only [List.length_append, List.length_take, List.length_cons, List.length_nil]; omega, fun z hz => by simp only [List.nil_append, List.mem_append, List.mem_singleton] at hz; rcases hz with hz | hz; exact hEs z (List.mem_of_mem_take hz); subst hz; exact mDecode_size h11⟩ (by show r.n - (i + 1) < r.n - i; omega) (s_start [57, 59, 58, 10, 1, 6, 3] 3 (by kernel_rfl) rfl))
                        | false =>
                          have h14 := of_decide_eq_false h14
                          refine JL_run 1 [] [99, 98, 95, 94, 12, 57, 59, 58, 10, 1, 6, 3] 3 ⟨[(99, vI (if ((E.length : Nat) : Int) < ((n + (x.base - n)) + ((i : Nat) : Int)) - x.base then ((E.length : Nat) : Int) else ((n + (x.base - n)) + ((i : Nat) : Int)) - x.base)), (98, vI ((E.length : Nat) : Int)), (95, vI (((n + (x.base - n)) + ((i : Nat) : Int)) - x.base)), (94, .v (.slice A E.length c)), (12, vS (r.at i)), (57, .v (.slice r.A r.n r.c)), (59, vI ((i : Nat) : Int)), (58, vI ((r.n : Nat) : Int)), (10, .p 2 0), (1, vI (n + (x.base - n))), (6, .p 1 0), (3, .p 0 0)], [⟨33, [vI x.base, .v (.slice x.entries.A x.entries.n x.entries.c)]⟩, ⟨33, [vI 0, .v (.slice none 0 0)]⟩, ⟨33, [vI x.base, .v (.slice A E.length c)]⟩]⟩ [] [] (by kernel_rfl) on wn ?_
                          rw [if_neg h14]
                          refine JL_run 3 [(0, .sl 0 (((n + (x.base - n)) + ((i : Nat) : Int)) - x.base).toNat)] [102, 100, 57, 59, 58, 10, 1, 6, 3] 4 ⟨[(102, .s 3 0 1 1), (100, .v (.slice A (((n + (x.base - n)) + ((i : Nat) : Int)) - x.base).toNat c)), (57, .v (.slice r.A r.n r.c)), (59, vI ((i : Nat) : Int)), (58, vI ((r.n : Nat) : Int)), (10, .p 2 0), (1, vI (n + (x.base - n))), (6, .p 1 0), (3, .p 0 0)], [⟨33, [vI x.base, .v (.slice x.entries.A x.entries.n x.entries.c)]⟩, ⟨33, [vI 0, .v (.slice none 0 0)]⟩, ⟨33, [vI x.base, .v (.slice A E.length c)]⟩, ⟨9, [vS (r.at i)]⟩]⟩ [0 = 0, ((n + (x.base - n)) + ((i : Nat) : Int)) - x.base = (((((n + (x.base - n)) + ((i : Nat) : Int)) - x.base).toNat : Nat) : Int), (((n + (x.base - n)) + ((i : Nat) : Int)) - x.base).toNat ≤ c] [] (by kernel_rfl) (oc rfl (oc (by omega) (oc (by omega) on))) wn ?_
                          refine l_weak (rowA 9 A c ((E).take (((n + (x.base - n)) + ((i : Nat) : Int)) - x.base).toNat : List ByteArray)) (List.Sublist.refl _) (fun w h => rowA_take h (((n + (x.base - n)) + ((i : Nat) : Int)) - x.base).toNat (by omega)) ?_
                          refine l_appendN (α := ByteArray) 9 16 A c ((E).take (((n + (x.base - n)) + ((i : Nat) : Int)) - x.base).toNat) (((n + (x.base - n)) + ((i : Nat) : Int)) - x.base).toNat (by rw [List.length_take]; exact Nat.min_eq_left (by omega)) (.s 3 0 1 1) ([(r.at i)]) Try.underlying31 (by kernel_rfl) rfl rfl rfl (fun bs w hS => by obtain ⟨q1, q2, q3, q4⟩ := src_loc (i := 3) (off := 0) (k := 1) (c := 1) (q := 1) (vs := [.string (r.at i)]) hS rfl rfl; exact ⟨some q1, q2, q3, q4⟩) (by simp only [List.length_append, List.length_nil, List.length_cons, List.length_take]; omega) (by simp only [List.length_append, List.length_nil, List.length_cons, List.length_take]; omega) ?_
                          intro A6 c6
                          refine JL_run 2 [] [57, 59, 58, 10, 1, 6, 3] 3 ⟨[(57, .v (.slice r.A r.n r.c)), (59, vI ((i : Nat) : Int)), (58, vI ((r.n : Nat) : Int)), (10, .p 2 0), (1, vI (n + (x.base - n))), (6, .p 1 0), (3, .p 0 0)], [⟨33, [vI x.base, .v (.slice x.entries.A x.entries.n x.entries.c)]⟩, ⟨33, [vI 0, .v (.slice none 0 0)]⟩, ⟨33, [vI x.base, .v (.slice A6 (((E).take (((n + (x.base - n)) + ((i : Nat) : Int)) - x.base).toNat) ++ [(r.at i)]).length c6)]⟩]⟩ [] [] (by kernel_rfl) on wn ?_
                          refine l_nil (q_block_normal (q_then_normal ?_))
                          refine c_region ?_
                          refine JL_run 2 [] [59, 57, 58, 10, 1, 6, 3] 3 ⟨[(59, vI (((i : Nat) : Int) + 1)), (57, .v (.slice r.A r.n r.c)), (58, vI ((r.n : Nat) : Int)), (10, .p 2 0), (1, vI (n + (x.base - n))), (6, .p 1 0), (3, .p 0 0)], [⟨33, [vI x.base, .v (.slice x.entries.A x.entries.n x.entries.c)]⟩, ⟨33, [vI 0, .v (.slice none 0 0)]⟩, ⟨33, [vI x.base, .v (.slice A6 (((E).take (((n + (x.base - n)) + ((i : Nat) : Int)) - x.base).toNat) ++ [(r.at i)]).length c6)]⟩]⟩ [inR (((i : Nat) : Int) + 1)] [] (by kernel_rfl) (oc (by unfold inR; omega) on) wn ?_
                          refine l_nil (q_loop (x := (⟨i, A, c, E⟩ : Nat × Option Addr × Nat × List ByteArray)) (⟨i + 1, A6, c6, ((E).take (((n + (x.base - n)) + ((i : Nat) : Int)) - x.base).toNat) ++ [(r.at i)]⟩ : Nat × Option Addr × Nat × List ByteArray) ⟨by omega, by rw [hP, putGo_next (by omega) h11, putOne_new (k := (n - x.base).toNat + i) (by rintro ⟨hz1, hz2⟩; first | omega | (rw [show (n - x.base).toNat + i = (((n + (x.base - n)) + ((i : Nat) : Int)) - x.base).toNat by omega] at hz2; exact h13 hz2)), show (n - x.base).toNat + i + 1 = (n - x.base).toNat + (i + 1) by omega]; (rw [show (n - x.base).toNat + i = (((n + (x.base - n)) + ((i : Nat) : Int)) - x.base).toNat by omega] <;> rfl), by simp only [List.length_append, List.length_take, List.length_cons, List.length_nil]; omega, by simp only [List.length_append, List.length_take, List.length_cons, List.length_nil]; omega, fun z hz => by simp only [List.nil_append, List.mem_append, List.mem_singleton] at hz; rcases hz with hz | hz; exact hEs z (List.mem_of_mem_take hz); subst hz; exact mDecode_size h11⟩ (by show r.n - (i + 1) < r.n - i; omega) (s_start [57, 59, 58, 10, 1, 6, 3] 3 (by kernel_rfl) rfl))
                    | false =>
                      have h12 := of_decide_eq_false h12
                      refine JL_run 8 [] [92, 15, 12, 57, 59, 58, 10, 1, 6, 3] 3 ⟨[(92, vB false), (15, vI (((n + (x.base - n)) + ((i : Nat) : Int)) - x.base)), (12, vS (r.at i)), (57, .v (.slice r.A r.n r.c)), (59, vI ((i : Nat) : Int)), (58, vI ((r.n : Nat) : Int)), (10, .p 2 0), (1, vI (n + (x.base - n))), (6, .p 1 0), (3, .p 0 0)], [⟨33, [vI x.base, .v (.slice x.entries.A x.entries.n x.entries.c)]⟩, ⟨33, [vI 0, .v (.slice none 0 0)]⟩, ⟨33, [vI x.base, .v (.slice A E.length c)]⟩]⟩ [] [] (by kernel_rfl) on wn ?_
                      refine l_nil (q_then_normal ?_)
                      refine c_if false rfl ?_
                      refine c_skip ?_
                      refine q_then_normal ?_
                      refine c_region ?_
                      refine JL_run 6 [] [98, 95, 94, 12, 57, 59, 58, 10, 1, 6, 3] 3 ⟨[(98, vI ((E.length : Nat) : Int)), (95, vI (((n + (x.base - n)) + ((i : Nat) : Int)) - x.base)), (94, .v (.slice A E.length c)), (12, vS (r.at i)), (57, .v (.slice r.A r.n r.c)), (59, vI ((i : Nat) : Int)), (58, vI ((r.n : Nat) : Int)), (10, .p 2 0), (1, vI (n + (x.base - n))), (6, .p 1 0), (3, .p 0 0)], [⟨33, [vI x.base, .v (.slice x.entries.A x.entries.n x.entries.c)]⟩, ⟨33, [vI 0, .v (.slice none 0 0)]⟩, ⟨33, [vI x.base, .v (.slice A E.length c)]⟩]⟩ [] [] (by kernel_rfl) on wn ?_
                      cases h15 : decide (((E.length : Nat) : Int) < ((n + (x.base - n)) + ((i : Nat) : Int)) - x.base) with
                      | true =>
                        have h15 := of_decide_eq_true h15
                        refine JL_run 1 [] [99, 98, 95, 94, 12, 57, 59, 58, 10, 1, 6, 3] 3 ⟨[(99, vI (if ((E.length : Nat) : Int) < ((n + (x.base - n)) + ((i : Nat) : Int)) - x.base then ((E.length : Nat) : Int) else ((n + (x.base - n)) + ((i : Nat) : Int)) - x.base)), (98, vI ((E.length : Nat) : Int)), (95, vI (((n + (x.base - n)) + ((i : Nat) : Int)) - x.base)), (94, .v (.slice A E.length c)), (12, vS (r.at i)), (57, .v (.slice r.A r.n r.c)), (59, vI ((i : Nat) : Int)), (58, vI ((r.n : Nat) : Int)), (10, .p 2 0), (1, vI (n + (x.base - n))), (6, .p 1 0), (3, .p 0 0)], [⟨33, [vI x.base, .v (.slice x.entries.A x.entries.n x.entries.c)]⟩, ⟨33, [vI 0, .v (.slice none 0 0)]⟩, ⟨33, [vI x.base, .v (.slice A E.length c)]⟩]⟩ [] [] (by kernel_rfl) on wn ?_
                        rw [if_pos h15]
                        refine JL_run 3 [(0, .sl 0 E.length)] [102, 100, 57, 59, 58, 10, 1, 6, 3] 4 ⟨[(102, .s 3 0 1 1), (100, .v (.slice A E.length c)), (57, .v (.slice r.A r.n r.c)), (59, vI ((i : Nat) : Int)), (58, vI ((r.n : Nat) : Int)), (10, .p 2 0), (1, vI (n + (x.base - n))), (6, .p 1 0), (3, .p 0 0)], [⟨33, [vI x.base, .v (.slice x.entries.A x.entries.n x.entries.c)]⟩, ⟨33, [vI 0, .v (.slice none 0 0)]⟩, ⟨33, [vI x.base, .v (.slice A E.length c)]⟩, ⟨9, [vS (r.at i)]⟩]⟩ [0 = 0, ((E.length : Nat) : Int) = ((E.length : Nat) : Int), E.length ≤ c] [] (by kernel_rfl) (oc rfl (oc rfl (oc (by omega) on))) wn ?_
                        refine l_weak (rowA 9 A c ((E).take E.length : List ByteArray)) (List.Sublist.refl _) (fun w h => rowA_take h E.length (by omega)) ?_
                        refine l_appendN (α := ByteArray) 9 16 A c ((E).take E.length) E.length (by rw [List.length_take]; exact Nat.min_eq_left (by omega)) (.s 3 0 1 1) ([(r.at i)]) Try.underlying31 (by kernel_rfl) rfl rfl rfl (fun bs w hS => by obtain ⟨q1, q2, q3, q4⟩ := src_loc (i := 3) (off := 0) (k := 1) (c := 1) (q := 1) (vs := [.string (r.at i)]) hS rfl rfl; exact ⟨some q1, q2, q3, q4⟩) (by simp only [List.length_append, List.length_nil, List.length_cons, List.length_take]; omega) (by simp only [List.length_append, List.length_nil, List.length_cons, List.length_take]; omega) ?_
                        intro A7 c7
                        refine JL_run 2 [] [57, 59, 58, 10, 1, 6, 3] 3 ⟨[(57, .v (.slice r.A r.n r.c)), (59, vI ((i : Nat) : Int)), (58, vI ((r.n : Nat) : Int)), (10, .p 2 0), (1, vI (n + (x.base - n))), (6, .p 1 0), (3, .p 0 0)], [⟨33, [vI x.base, .v (.slice x.entries.A x.entries.n x.entries.c)]⟩, ⟨33, [vI 0, .v (.slice none 0 0)]⟩, ⟨33, [vI x.base, .v (.slice A7 (((E).take E.length) ++ [(r.at i)]).length c7)]⟩]⟩ [] [] (by kernel_rfl) on wn ?_
                        refine l_nil (q_block_normal (q_then_normal ?_))
                        refine c_region ?_
                        refine JL_run 2 [] [59, 57, 58, 10, 1, 6, 3] 3 ⟨[(59, vI (((i : Nat) : Int) + 1)), (57, .v (.slice r.A r.n r.c)), (58, vI ((r.n : Nat) : Int)), (10, .p 2 0), (1, vI (n + (x.base - n))), (6, .p 1 0), (3, .p 0 0)], [⟨33, [vI x.base, .v (.slice x.entries.A x.entries.n x.entries.c)]⟩, ⟨33, [vI 0, .v (.slice none 0 0)]⟩, ⟨33, [vI x.base, .v (.slice A7 (((E).take E.length) ++ [(r.at i)]).length c7)]⟩]⟩ [inR (((i : Nat) : Int) + 1)] [] (by kernel_rfl) (oc (by unfold inR; omega) on) wn ?_
                        refine l_nil (q_loop (x := (⟨i, A, c, E⟩ : Nat × Option Addr × Nat × List ByteArray)) (⟨i + 1, A7, c7, ((E).take E.length) ++ [(r.at i)]⟩ : Nat × Option Addr × Nat × List ByteArray) ⟨by omega, by rw [hP, putGo_next (by omega) h11, putOne_new (k := (n - x.base).toNat + i) (by rintro ⟨hz1, hz2⟩; omega), show (n - x.base).toNat + i + 1 = (n - x.base).toNat + (i + 1) by omega]; (rw [show (n - x.base).toNat + i = E.length by omega] <;> rfl), by simp only [List.length_append, List.length_take, List.length_cons, List.length_nil]; omega, by simp only [List.length_append, List.length_take, List.length_cons, List.length_nil]; omega, fun z hz => by simp only [List.nil_append, List.mem_append, List.mem_singleton] at hz; rcases hz with hz | hz; exact hEs z (List.mem_of_mem_take hz); subst hz; exact mDecode_size h11⟩ (by show r.n - (i + 1) < r.n - i; omega) (s_start [57, 59, 58, 10, 1, 6, 3] 3 (by kernel_rfl) rfl))
                      | false =>
                        have h15 := of_decide_eq_false h15
                        refine JL_run 1 [] [99, 98, 95, 94, 12, 57, 59, 58, 10, 1, 6, 3] 3 ⟨[(99, vI (if ((E.length : Nat) : Int) < ((n + (x.base - n)) + ((i : Nat) : Int)) - x.base then ((E.length : Nat) : Int) else ((n + (x.base - n)) + ((i : Nat) : Int)) - x.base)), (98, vI ((E.length : Nat) : Int)), (95, vI (((n + (x.base - n)) + ((i : Nat) : Int)) - x.base)), (94, .v (.slice A E.length c)), (12, vS (r.at i)), (57, .v (.slice r.A r.n r.c)), (59, vI ((i : Nat) : Int)), (58, vI ((r.n : Nat) : Int)), (10, .p 2 0), (1, vI (n + (x.base - n))), (6, .p 1 0), (3, .p 0 0)], [⟨33, [vI x.base, .v (.slice x.entries.A x.entries.n x.entries.c)]⟩, ⟨33, [vI 0, .v (.slice none 0 0)]⟩, ⟨33, [vI x.base, .v (.slice A E.length c)]⟩]⟩ [] [] (by kernel_rfl) on wn ?_
                        rw [if_neg h15]
                        refine JL_run 3 [(0, .sl 0 (((n + (x.base - n)) + ((i : Nat) : Int)) - x.base).toNat)] [102, 100, 57, 59, 58, 10, 1, 6, 3] 4 ⟨[(102, .s 3 0 1 1), (100, .v (.slice A (((n + (x.base - n)) + ((i : Nat) : Int)) - x.base).toNat c)), (57, .v (.slice r.A r.n r.c)), (59, vI ((i : Nat) : Int)), (58, vI ((r.n : Nat) : Int)), (10, .p 2 0), (1, vI (n + (x.base - n))), (6, .p 1 0), (3, .p 0 0)], [⟨33, [vI x.base, .v (.slice x.entries.A x.entries.n x.entries.c)]⟩, ⟨33, [vI 0, .v (.slice none 0 0)]⟩, ⟨33, [vI x.base, .v (.slice A E.length c)]⟩, ⟨9, [vS (r.at i)]⟩]⟩ [0 = 0, ((n + (x.base - n)) + ((i : Nat) : Int)) - x.base = (((((n + (x.base - n)) + ((i : Nat) : Int)) - x.base).toNat : Nat) : Int), (((n + (x.base - n)) + ((i : Nat) : Int)) - x.base).toNat ≤ c] [] (by kernel_rfl) (oc rfl (oc (by omega) (oc (by omega) on))) wn ?_
                        refine l_weak (rowA 9 A c ((E).take (((n + (x.base - n)) + ((i : Nat) : Int)) - x.base).toNat : List ByteArray)) (List.Sublist.refl _) (fun w h => rowA_take h (((n + (x.base - n)) + ((i : Nat) : Int)) - x.base).toNat (by omega)) ?_
                        refine l_appendN (α := ByteArray) 9 16 A c ((E).take (((n + (x.base - n)) + ((i : Nat) : Int)) - x.base).toNat) (((n + (x.base - n)) + ((i : Nat) : Int)) - x.base).toNat (by rw [List.length_take]; exact Nat.min_eq_left (by omega)) (.s 3 0 1 1) ([(r.at i)]) Try.underlying31 (by kernel_rfl) rfl rfl rfl (fun bs w hS => by obtain ⟨q1, q2, q3, q4⟩ := src_loc (i := 3) (off := 0) (k := 1) (c := 1) (q := 1) (vs := [.string (r.at i)]) hS rfl rfl; exact ⟨some q1, q2, q3, q4⟩) (by simp only [List.length_append, List.length_nil, List.length_cons, List.length_take]; omega) (by simp only [List.length_append, List.length_nil, List.length_cons, List.length_take]; omega) ?_
                        intro A8 c8
                        refine JL_run 2 [] [57, 59, 58, 10, 1, 6, 3] 3 ⟨[(57, .v (.slice r.A r.n r.c)), (59, vI ((i : Nat) : Int)), (58, vI ((r.n : Nat) : Int)), (10, .p 2 0), (1, vI (n + (x.base - n))), (6, .p 1 0), (3, .p 0 0)], [⟨33, [vI x.base, .v (.slice x.entries.A x.entries.n x.entries.c)]⟩, ⟨33, [vI 0, .v (.slice none 0 0)]⟩, ⟨33, [vI x.base, .v (.slice A8 (((E).take (((n + (x.base - n)) + ((i : Nat) : Int)) - x.base).toNat) ++ [(r.at i)]).length c8)]⟩]⟩ [] [] (by kernel_rfl) on wn ?_
                        refine l_nil (q_block_normal (q_then_normal ?_))
                        refine c_region ?_
                        refine JL_run 2 [] [59, 57, 58, 10, 1, 6, 3] 3 ⟨[(59, vI (((i : Nat) : Int) + 1)), (57, .v (.slice r.A r.n r.c)), (58, vI ((r.n : Nat) : Int)), (10, .p 2 0), (1, vI (n + (x.base - n))), (6, .p 1 0), (3, .p 0 0)], [⟨33, [vI x.base, .v (.slice x.entries.A x.entries.n x.entries.c)]⟩, ⟨33, [vI 0, .v (.slice none 0 0)]⟩, ⟨33, [vI x.base, .v (.slice A8 (((E).take (((n + (x.base - n)) + ((i : Nat) : Int)) - x.base).toNat) ++ [(r.at i)]).length c8)]⟩]⟩ [inR (((i : Nat) : Int) + 1)] [] (by kernel_rfl) (oc (by unfold inR; omega) on) wn ?_
                        refine l_nil (q_loop (x := (⟨i, A, c, E⟩ : Nat × Option Addr × Nat × List ByteArray)) (⟨i + 1, A8, c8, ((E).take (((n + (x.base - n)) + ((i : Nat) : Int)) - x.base).toNat) ++ [(r.at i)]⟩ : Nat × Option Addr × Nat × List ByteArray) ⟨by omega, by rw [hP, putGo_next (by omega) h11, putOne_new (k := (n - x.base).toNat + i) (by rintro ⟨hz1, hz2⟩; omega), show (n - x.base).toNat + i + 1 = (n - x.base).toNat + (i + 1) by omega]; (rw [show (n - x.base).toNat + i = (((n + (x.base - n)) + ((i : Nat) : Int)) - x.base).toNat by omega] <;> rfl), by simp only [List.length_append, List.length_take, List.length_cons, List.length_nil]; omega, by simp only [List.length_append, List.length_take, List.length_cons, List.length_nil]; omega, fun z hz => by simp only [List.nil_append, List.mem_append, List.mem_singleton] at hz; rcases hz with hz | hz; exact hEs z (List.mem_of_mem_take hz); subst hz; exact mDecode_size h11⟩ (by show r.n - (i + 1) < r.n - i; omega) (s_start [57, 59, 58, 10, 1, 6, 3] 3 (by kernel_rfl) rfl))
                  | false =>
                    have h11 := of_decide_eq_false h11
                    refine c_if true rfl ?_
                    refine c_seq ?_
                    refine c_region ?_
                    refine JL_run 4 [] [7, 6] 2 ⟨[(7, vI ((mDecode (r.at i)).2)), (6, .p 1 0)], [⟨33, [vI x.base, .v (.slice x.entries.A x.entries.n x.entries.c)]⟩, ⟨33, [vI 0, .v (.slice none 0 0)]⟩]⟩ [] [] (by kernel_rfl) on wn ?_
                    refine l_nil (q_then_normal ?_)
                    refine c_ret ?_
                    refine q_then_ret (q_block_ret (q_then_ret (q_then_ret (q_block_ret (q_then_ret (q_ret (.inl rfl) [.v (.agg #[.int .i64 0, .slice none 0 0]), vI ((mDecode (r.at i)).2)] rfl (fun bs w hS => ?_)))))))
                    have hpg : putGo x.entries.xs (n - x.base).toNat (m.xs.drop (x.base - n).toNat) = ([], (mDecode (r.at i)).2) := by rw [hP]; exact putGo_bad (by omega) h11
                    have hm : mPut x.abs n m.xs = (zLog, (mDecode (r.at i)).2) := by unfold mPut; rw [if_neg (by simpa using (by assumption : mLog _ = 0)), hla, q1, q2]; rw [if_neg (by omega), if_neg (by omega), if_neg (by omega), hpg]; exact if_pos h11
                    refine ⟨⟨0, Sl.nil⟩, ?_, ?_, hS.outS (y := (⟨0, Sl.nil⟩ : CLog)) (Sl.rd_nil _ _)⟩
                    · simp only [retOf, den, List.map_cons, List.map_nil]; rw [hm]; rfl
                    · rw [hm]; rfl
                | false =>
                  have h10 := of_decide_eq_false h10
                  refine c_if false rfl ?_
                  refine c_exit ?_
                  refine q_then_exit (q_then_exit (q_block_hit (q_then_normal ?_)))
                  refine c_seq ?_
                  refine c_seq ?_
                  refine c_region ?_
                  refine JL_run 4 [] [109, 10, 6] 3 ⟨[(109, vB (decide ((400 : Int) < ((E.length : Nat) : Int)))), (10, .p 2 0), (6, .p 1 0)], [⟨33, [vI x.base, .v (.slice x.entries.A x.entries.n x.entries.c)]⟩, ⟨33, [vI 0, .v (.slice none 0 0)]⟩, ⟨33, [vI x.base, .v (.slice A E.length c)]⟩]⟩ [] [] (by kernel_rfl) on wn ?_
                  refine l_nil (q_then_normal ?_)
                  cases h16 : decide ((400 : Int) < ((E.length : Nat) : Int)) with
                  | true =>
                    have h16 := of_decide_eq_true h16
                    refine c_if true rfl ?_
                    refine c_seq ?_
                    refine c_region ?_
                    refine JL_run 3 [] [7, 6] 2 ⟨[(7, vI 8), (6, .p 1 0)], [⟨33, [vI x.base, .v (.slice x.entries.A x.entries.n x.entries.c)]⟩, ⟨33, [vI 0, .v (.slice none 0 0)]⟩]⟩ [] [] (by kernel_rfl) on wn ?_
                    refine l_nil (q_then_normal ?_)
                    refine c_ret ?_
                    refine q_then_ret (q_ret (.inl rfl) [.v (.agg #[.int .i64 0, .slice none 0 0]), vI 8] rfl (fun bs w hS => ?_))
                    have hpg : putGo x.entries.xs (n - x.base).toNat (m.xs.drop (x.base - n).toNat) = (E, 0) := by rw [hP]; exact putGo_end (by omega)
                    have hm : mPut x.abs n m.xs = (zLog, 8) := by
                      unfold mPut; rw [if_neg (by simpa using (by assumption : mLog _ = 0)), hla, q1, q2]
                      first | rw [if_pos (by omega)] | rw [if_neg (by omega), if_pos (by omega)] | rw [if_neg (by omega), if_neg (by omega), if_pos (by omega)] | (rw [if_neg (by omega), if_neg (by omega), if_neg (by omega), hpg, if_neg (by simp), if_pos (by show 400 < E.length; omega)])
                      all_goals first | rfl | (exfalso; omega)
                    refine ⟨⟨0, Sl.nil⟩, ?_, ?_, hS.outS (y := (⟨0, Sl.nil⟩ : CLog)) (Sl.rd_nil _ _)⟩
                    · simp only [retOf, den, List.map_cons, List.map_nil]; rw [hm]; rfl
                    · rw [hm]; rfl
                  | false =>
                    have h16 := of_decide_eq_false h16
                    refine c_if false rfl ?_
                    refine c_skip ?_
                    refine q_then_normal ?_
                    refine c_seq ?_
                    refine c_region ?_
                    refine JL_run 3 [] [7, 6] 2 ⟨[(7, vI 0), (6, .p 1 0)], [⟨33, [vI x.base, .v (.slice x.entries.A x.entries.n x.entries.c)]⟩, ⟨33, [vI x.base, .v (.slice A E.length c)]⟩]⟩ [] [] (by kernel_rfl) on wn ?_
                    refine l_nil (q_then_normal ?_)
                    refine c_ret ?_
                    refine q_ret (.inl rfl) [.v (.agg #[.int .i64 x.base, .slice A E.length c]), vI 0] rfl (fun bs w hS => ?_)
                    have hpg : putGo x.entries.xs (n - x.base).toNat (m.xs.drop (x.base - n).toNat) = (E, 0) := by rw [hP]; exact putGo_end (by omega)
                    have hm : mPut x.abs n m.xs = (⟨x.base, E⟩, 0) := by unfold mPut; rw [if_neg (by simpa using (by assumption : mLog _ = 0)), hla, q1, q2]; rw [if_neg (by omega), if_neg (by omega), if_neg (by omega), hpg, if_neg (by simp), if_neg (by show ¬ 400 < E.length; omega)]
                    refine ⟨⟨x.base, ⟨A, c, E⟩⟩, ?_, ?_, hS.outS (y := (⟨x.base, ⟨A, c, E⟩⟩ : CLog)) (allR_row (.head _) (hS.res _ (.head _)) hEs)⟩
                    · rw [hm]; rfl
                    · rw [hm]; rfl
            | false =>
              have h6 := of_decide_eq_false h6
              refine c_if false rfl ?_
              refine c_skip ?_
              refine q_then_normal ?_
              refine c_seq ?_
              refine c_region ?_
              refine JL_run 1 [] [55, 6, 3, 1, 2] 2 ⟨[(55, .v (.agg #[.int .i64 x.base, .slice x.entries.A x.entries.n x.entries.c])), (6, .p 1 0), (3, .p 0 0), (1, vI n), (2, .v (.slice m.A m.n m.c))], [⟨33, [vI x.base, .v (.slice x.entries.A x.entries.n x.entries.c)]⟩, ⟨33, [vI 0, .v (.slice none 0 0)]⟩]⟩ [] [] (by kernel_rfl) on wn ?_
              refine l_freshF (σ := Sl ByteArray) 66 [] [.v (.agg #[.int .i64 x.base, .slice x.entries.A x.entries.n x.entries.c])] (fun y9 => .agg #[.int .i64 x.base, .slice y9.A y9.n y9.c]) (fun y9 => y9.xs = x.entries.xs) (fun y9 => rowA 9 y9.A y9.c (y9.xs : List ByteArray)) Try.call66 rfl rfl rfl rfl (fun bs w hS => log_CopyR x w (Rds.kp hx hS.kp) (by omega)) ?_
              rintro y9 hF9
              obtain ⟨A9, c9, rfl⟩ := Sl.of_xs hF9
              refine l_weak (rowA 9 A9 c9 (x.entries.xs : List ByteArray)) (List.Sublist.refl _) (fun w h => h) ?_
              refine l_know (F := RowOk A9 c9 (x.entries.xs : List ByteArray)) (fun bs w hS => rowA_rok (hS.res _ (.head _))) fun hrow9 => ?_
              have nchrow9 := hrow9.2
              refine JL_run 2 [] [10, 6, 3, 1, 2] 3 ⟨[(10, .p 2 0), (6, .p 1 0), (3, .p 0 0), (1, vI n), (2, .v (.slice m.A m.n m.c))], [⟨33, [vI x.base, .v (.slice x.entries.A x.entries.n x.entries.c)]⟩, ⟨33, [vI 0, .v (.slice none 0 0)]⟩, ⟨33, [vI x.base, .v (.slice A9 x.entries.xs.length c9)]⟩]⟩ [] [] (by kernel_rfl) on wn ?_
              refine l_nil (q_then_normal ?_)
              refine c_seq ?_
              refine c_seq ?_
              refine c_region ?_
              refine JL_run 3 [] [59, 58, 57, 10, 6, 3, 1] 3 ⟨[(59, vI 0), (58, vI ((m.n : Nat) : Int)), (57, .v (.slice m.A m.n m.c)), (10, .p 2 0), (6, .p 1 0), (3, .p 0 0), (1, vI n)], [⟨33, [vI x.base, .v (.slice x.entries.A x.entries.n x.entries.c)]⟩, ⟨33, [vI 0, .v (.slice none 0 0)]⟩, ⟨33, [vI x.base, .v (.slice A9 x.entries.xs.length c9)]⟩]⟩ [] [] (by kernel_rfl) on wn ?_
              refine l_nil (q_then_normal ?_)
              refine c_block ?_
              obtain ⟨r, hr, hrn⟩ : ∃ r : Sl ByteArray, r = m ∧ True := ⟨m, rfl, trivial⟩
              have hrx : r.xs = m.xs.drop (x.base - n).toNat := by rw [hr, show (x.base - n).toNat = 0 by omega]; rfl
              have hrr : Sl.rd anyB w r := by rw [hr]; exact hm.wide (fun _ _ => trivial)
              have hrk : r.n = m.n := by rw [hr]
              have okr := Sl.rd.ok hrr
              have ncr := Sl.ok.nc okr
              have hrnx : r.n = r.xs.length := rfl
              refine c_loop (σ := Nat × Option Addr × Nat × List ByteArray) (fun ⟨i, A, c, E⟩ => i ≤ r.n ∧ putGo x.entries.xs (n - x.base).toNat (m.xs.drop (x.base - n).toNat) = putGo E ((n - x.base).toNat + i) (r.xs.drop i) ∧ (n - x.base).toNat + i ≤ E.length ∧ E.length ≤ 400 + i ∧ ∀ z, z ∈ E → z.size ≤ 9223372036854775807) (fun ⟨i, A, c, E⟩ => r.n - i) (fun ⟨i, A, c, E⟩ => [rowA 9 A c (E : List ByteArray)]) (fun ⟨i, A, c, E⟩ => ⟨[(57, .v (.slice r.A r.n r.c)), (59, vI ((i : Nat) : Int)), (58, vI ((r.n : Nat) : Int)), (10, .p 2 0), (6, .p 1 0), (3, .p 0 0), (1, vI n)], [⟨33, [vI x.base, .v (.slice x.entries.A x.entries.n x.entries.c)]⟩, ⟨33, [vI 0, .v (.slice none 0 0)]⟩, ⟨33, [vI x.base, .v (.slice A E.length c)]⟩]⟩) ⟨0, A9, c9, x.entries.xs⟩ ⟨Nat.zero_le _, by rw [hrx]; rfl, by omega, by omega, hmsz⟩ (s_start [57, 59, 58, 10, 6, 3, 1] 3 (by simp only [hr, Sl.n, List.length_drop]; kernel_rfl) rfl) ?_
              rintro ⟨i, A, c, E⟩ ⟨hi, hP, hE, hE4, hEs⟩
              refine c_know (F := RowOk A c (E : List ByteArray)) (fun bs w hS => rowA_rok (hS.res _ (.head _))) fun hrow => ?_
              have nch := hrow.2
              refine c_seq ?_
              refine c_region ?_
              refine JL_run 1 [] [60, 57, 59, 58, 10, 6, 3, 1] 3 ⟨[(60, vB (decide (((i : Nat) : Int) < ((r.n : Nat) : Int)))), (57, .v (.slice r.A r.n r.c)), (59, vI ((i : Nat) : Int)), (58, vI ((r.n : Nat) : Int)), (10, .p 2 0), (6, .p 1 0), (3, .p 0 0), (1, vI n)], [⟨33, [vI x.base, .v (.slice x.entries.A x.entries.n x.entries.c)]⟩, ⟨33, [vI 0, .v (.slice none 0 0)]⟩, ⟨33, [vI x.base, .v (.slice A E.length c)]⟩]⟩ [] [] (by kernel_rfl) on wn ?_
              refine l_nil (q_then_normal ?_)
              refine c_seq ?_
              cases h17 : decide (((i : Nat) : Int) < ((r.n : Nat) : Int)) with
              | true =>
                have h17 := of_decide_eq_true h17
                refine c_if true rfl ?_
                refine c_skip ?_
                refine q_then_normal ?_
                refine c_seq ?_
                refine c_block ?_
                refine c_seq ?_
                refine c_region ?_
                refine JL_run 5 [(1, .idx r.ad i), (2, .ext [.string (r.at i)])] [12, 11, 57, 59, 58, 10, 6, 3, 1] 3 ⟨[(12, vS (r.at i)), (11, vI ((i : Nat) : Int)), (57, .v (.slice r.A r.n r.c)), (59, vI ((i : Nat) : Int)), (58, vI ((r.n : Nat) : Int)), (10, .p 2 0), (6, .p 1 0), (3, .p 0 0), (1, vI n)], [⟨33, [vI x.base, .v (.slice x.entries.A x.entries.n x.entries.c)]⟩, ⟨33, [vI 0, .v (.slice none 0 0)]⟩, ⟨33, [vI x.base, .v (.slice A E.length c)]⟩]⟩ [r.A = some r.ad, ((i : Nat) : Int) = ((i : Nat) : Int), i < r.n] [(r.ad.add (i * 1), [.string (r.at i)])] (by kernel_rfl) (oc (Sl.ok.own (s := r) (i := i) okr (by omega)) (oc rfl (oc (by omega) on))) (fun w hk hr => ⟨(Sl.rd.all (s := r) (i := i) (Sl.rd.kp hrr hk) (by omega) rfl), trivial⟩) ?_
                refine l_nil (q_then_normal ?_)
                refine c_seq ?_
                refine c_seq ?_
                refine c_region ?_
                refine JL_run 1 [] [65, 12, 11, 57, 59, 58, 10, 6, 3, 1] 3 ⟨[(65, vS (r.at i)), (12, vS (r.at i)), (11, vI ((i : Nat) : Int)), (57, .v (.slice r.A r.n r.c)), (59, vI ((i : Nat) : Int)), (58, vI ((r.n : Nat) : Int)), (10, .p 2 0), (6, .p 1 0), (3, .p 0 0), (1, vI n)], [⟨33, [vI x.base, .v (.slice x.entries.A x.entries.n x.entries.c)]⟩, ⟨33, [vI 0, .v (.slice none 0 0)]⟩, ⟨33, [vI x.base, .v (.slice A E.length c)]⟩]⟩ [] [] (by kernel_rfl) on wn ?_
                refine l_pure 67 [] [vS (r.at i)] (.tuple #[.agg #[.int .i64 ((mDecode (r.at i)).1.kind), .int .i64 ((mDecode (r.at i)).1.client), .int .i64 ((mDecode (r.at i)).1.session), .int .i64 ((mDecode (r.at i)).1.seq), .int .i64 ((mDecode (r.at i)).1.acked), .int .i64 ((mDecode (r.at i)).1.op.kind), .string ((mDecode (r.at i)).1.op.a), .string ((mDecode (r.at i)).1.op.b), .int .i64 ((mDecode (r.at i)).1.op.n)], .int .i64 ((mDecode (r.at i)).2)]) Try.call67 rfl rfl rfl rfl (fun bs w hS => command_Decode (r.at i) w (Sl.ok.at (s := r) (i := i) okr (by omega))) ?_
                refine JL_run 6 [] [14, 12, 11, 57, 59, 58, 10, 6, 3, 1] 3 ⟨[(14, vI ((mDecode (r.at i)).2)), (12, vS (r.at i)), (11, vI ((i : Nat) : Int)), (57, .v (.slice r.A r.n r.c)), (59, vI ((i : Nat) : Int)), (58, vI ((r.n : Nat) : Int)), (10, .p 2 0), (6, .p 1 0), (3, .p 0 0), (1, vI n)], [⟨33, [vI x.base, .v (.slice x.entries.A x.entries.n x.entries.c)]⟩, ⟨33, [vI 0, .v (.slice none 0 0)]⟩, ⟨33, [vI x.base, .v (.slice A E.length c)]⟩]⟩ [] [] (by kernel_rfl) on wn ?_
                refine l_nil (q_then_normal ?_)
                refine c_seq ?_
                refine c_region ?_
                refine JL_run 2 [] [70, 14, 12, 11, 57, 59, 58, 10, 6, 3, 1] 3 ⟨[(70, vB (!(decide ((mDecode (r.at i)).2 = 0)))), (14, vI ((mDecode (r.at i)).2)), (12, vS (r.at i)), (11, vI ((i : Nat) : Int)), (57, .v (.slice r.A r.n r.c)), (59, vI ((i : Nat) : Int)), (58, vI ((r.n : Nat) : Int)), (10, .p 2 0), (6, .p 1 0), (3, .p 0 0), (1, vI n)], [⟨33, [vI x.base, .v (.slice x.entries.A x.entries.n x.entries.c)]⟩, ⟨33, [vI 0, .v (.slice none 0 0)]⟩, ⟨33, [vI x.base, .v (.slice A E.length c)]⟩]⟩ [] [] (by kernel_rfl) on wn ?_
                refine l_nil (q_then_normal ?_)
                cases h18 : decide ((mDecode (r.at i)).2 = 0) with
                | true =>
                  have h18 := of_decide_eq_true h18
                  refine c_if false rfl ?_
                  refine c_skip ?_
                  refine q_then_normal ?_
                  refine c_seq ?_
                  refine c_region ?_
                  refine JL_run 7 [] [15, 12, 57, 59, 58, 10, 6, 3, 1] 3 ⟨[(15, vI ((n + ((i : Nat) : Int)) - x.base)), (12, vS (r.at i)), (57, .v (.slice r.A r.n r.c)), (59, vI ((i : Nat) : Int)), (58, vI ((r.n : Nat) : Int)), (10, .p 2 0), (6, .p 1 0), (3, .p 0 0), (1, vI n)], [⟨33, [vI x.base, .v (.slice x.entries.A x.entries.n x.entries.c)]⟩, ⟨33, [vI 0, .v (.slice none 0 0)]⟩, ⟨33, [vI x.base, .v (.slice A E.length c)]⟩]⟩ [inR (n + ((i : Nat) : Int)), inR ((n + ((i : Nat) : Int)) - x.base)] [] (by kernel_rfl) (oc (by unfold inR; omega) (oc (by unfold inR; omega) on)) wn ?_
                  refine l_nil (q_then_normal ?_)
                  refine c_seq ?_
                  refine c_seq ?_
                  refine c_region ?_
                  refine JL_run 6 [] [84, 15, 12, 57, 59, 58, 10, 6, 3, 1] 3 ⟨[(84, vB (decide ((n + ((i : Nat) : Int)) - x.base < ((E.length : Nat) : Int)))), (15, vI ((n + ((i : Nat) : Int)) - x.base)), (12, vS (r.at i)), (57, .v (.slice r.A r.n r.c)), (59, vI ((i : Nat) : Int)), (58, vI ((r.n : Nat) : Int)), (10, .p 2 0), (6, .p 1 0), (3, .p 0 0), (1, vI n)], [⟨33, [vI x.base, .v (.slice x.entries.A x.entries.n x.entries.c)]⟩, ⟨33, [vI 0, .v (.slice none 0 0)]⟩, ⟨33, [vI x.base, .v (.slice A E.length c)]⟩]⟩ [] [] (by kernel_rfl) on wn ?_
                  cases h19 : decide ((n + ((i : Nat) : Int)) - x.base < ((E.length : Nat) : Int)) with
                  | true =>
                    have h19 := of_decide_eq_true h19
                    refine JL_run 8 [(3, .idx (oad A) ((n + ((i : Nat) : Int)) - x.base).toNat), (4, .ext [.string (E.getD ((n + ((i : Nat) : Int)) - x.base).toNat default)])] [92, 15, 12, 57, 59, 58, 10, 6, 3, 1] 3 ⟨[(92, vB (decide ((E.getD ((n + ((i : Nat) : Int)) - x.base).toNat default) = (r.at i)))), (15, vI ((n + ((i : Nat) : Int)) - x.base)), (12, vS (r.at i)), (57, .v (.slice r.A r.n r.c)), (59, vI ((i : Nat) : Int)), (58, vI ((r.n : Nat) : Int)), (10, .p 2 0), (6, .p 1 0), (3, .p 0 0), (1, vI n)], [⟨33, [vI x.base, .v (.slice x.entries.A x.entries.n x.entries.c)]⟩, ⟨33, [vI 0, .v (.slice none 0 0)]⟩, ⟨33, [vI x.base, .v (.slice A E.length c)]⟩]⟩ [A = some (oad A), (n + ((i : Nat) : Int)) - x.base = ((((n + ((i : Nat) : Int)) - x.base).toNat : Nat) : Int), ((n + ((i : Nat) : Int)) - x.base).toNat < E.length] [((oad A).add (((n + ((i : Nat) : Int)) - x.base).toNat * 1), [.string (E.getD ((n + ((i : Nat) : Int)) - x.base).toNat default)])] (by kernel_rfl) (oc (hrow.1 ((n + ((i : Nat) : Int)) - x.base).toNat (by omega)) (oc (by omega) (oc (by omega) on))) (fun w hk hr => ⟨(rowA_all (i := ((n + ((i : Nat) : Int)) - x.base).toNat) (hr _ (.head _)) (by omega) rfl), trivial⟩) ?_
                    refine l_nil (q_then_normal ?_)
                    cases h20 : decide ((E.getD ((n + ((i : Nat) : Int)) - x.base).toNat default) = (r.at i)) with
                    | true =>
                      have h20 := of_decide_eq_true h20
                      refine c_if true rfl ?_
                      refine c_exit ?_
                      refine q_then_exit (q_block_hit (q_then_normal ?_))
                      refine c_region ?_
                      refine JL_run 2 [] [59, 57, 58, 10, 6, 3, 1] 3 ⟨[(59, vI (((i : Nat) : Int) + 1)), (57, .v (.slice r.A r.n r.c)), (58, vI ((r.n : Nat) : Int)), (10, .p 2 0), (6, .p 1 0), (3, .p 0 0), (1, vI n)], [⟨33, [vI x.base, .v (.slice x.entries.A x.entries.n x.entries.c)]⟩, ⟨33, [vI 0, .v (.slice none 0 0)]⟩, ⟨33, [vI x.base, .v (.slice A E.length c)]⟩]⟩ [inR (((i : Nat) : Int) + 1)] [] (by kernel_rfl) (oc (by unfold inR; omega) on) wn ?_
                      refine l_nil (q_loop (x := (⟨i, A, c, E⟩ : Nat × Option Addr × Nat × List ByteArray)) (⟨i + 1, A, c, E⟩ : Nat × Option Addr × Nat × List ByteArray) ⟨by omega, by rw [hP, putGo_next (by omega) h18, putOne_same (k := (n - x.base).toNat + i) (by omega) (by rw [show (n - x.base).toNat + i = ((n + ((i : Nat) : Int)) - x.base).toNat by omega]; exact h20), show (n - x.base).toNat + i + 1 = (n - x.base).toNat + (i + 1) by omega], by omega, by omega, hEs⟩ (by show r.n - (i + 1) < r.n - i; omega) (s_start [57, 59, 58, 10, 6, 3, 1] 3 (by kernel_rfl) rfl))
                    | false =>
                      have h20 := of_decide_eq_false h20
                      refine c_if false rfl ?_
                      refine c_skip ?_
                      refine q_then_normal ?_
                      refine c_region ?_
                      refine JL_run 6 [] [98, 95, 94, 12, 57, 59, 58, 10, 6, 3, 1] 3 ⟨[(98, vI ((E.length : Nat) : Int)), (95, vI ((n + ((i : Nat) : Int)) - x.base)), (94, .v (.slice A E.length c)), (12, vS (r.at i)), (57, .v (.slice r.A r.n r.c)), (59, vI ((i : Nat) : Int)), (58, vI ((r.n : Nat) : Int)), (10, .p 2 0), (6, .p 1 0), (3, .p 0 0), (1, vI n)], [⟨33, [vI x.base, .v (.slice x.entries.A x.entries.n x.entries.c)]⟩, ⟨33, [vI 0, .v (.slice none 0 0)]⟩, ⟨33, [vI x.base, .v (.slice A E.length c)]⟩]⟩ [] [] (by kernel_rfl) on wn ?_
                      cases h21 : decide (((E.length : Nat) : Int) < (n + ((i : Nat) : Int)) - x.base) with
                      | true =>
                        have h21 := of_decide_eq_true h21
                        refine JL_run 1 [] [99, 98, 95, 94, 12, 57, 59, 58, 10, 6, 3, 1] 3 ⟨[(99, vI (if ((E.length : Nat) : Int) < (n + ((i : Nat) : Int)) - x.base then ((E.length : Nat) : Int) else (n + ((i : Nat) : Int)) - x.base)), (98, vI ((E.length : Nat) : Int)), (95, vI ((n + ((i : Nat) : Int)) - x.base)), (94, .v (.slice A E.length c)), (12, vS (r.at i)), (57, .v (.slice r.A r.n r.c)), (59, vI ((i : Nat) : Int)), (58, vI ((r.n : Nat) : Int)), (10, .p 2 0), (6, .p 1 0), (3, .p 0 0), (1, vI n)], [⟨33, [vI x.base, .v (.slice x.entries.A x.entries.n x.entries.c)]⟩, ⟨33, [vI 0, .v (.slice none 0 0)]⟩, ⟨33, [vI x.base, .v (.slice A E.length c)]⟩]⟩ [] [] (by kernel_rfl) on wn ?_
                        rw [if_pos h21]
                        refine JL_run 3 [(0, .sl 0 E.length)] [102, 100, 57, 59, 58, 10, 6, 3, 1] 4 ⟨[(102, .s 3 0 1 1), (100, .v (.slice A E.length c)), (57, .v (.slice r.A r.n r.c)), (59, vI ((i : Nat) : Int)), (58, vI ((r.n : Nat) : Int)), (10, .p 2 0), (6, .p 1 0), (3, .p 0 0), (1, vI n)], [⟨33, [vI x.base, .v (.slice x.entries.A x.entries.n x.entries.c)]⟩, ⟨33, [vI 0, .v (.slice none 0 0)]⟩, ⟨33, [vI x.base, .v (.slice A E.length c)]⟩, ⟨9, [vS (r.at i)]⟩]⟩ [0 = 0, ((E.length : Nat) : Int) = ((E.length : Nat) : Int), E.length ≤ c] [] (by kernel_rfl) (oc rfl (oc rfl (oc (by omega) on))) wn ?_
                        refine l_weak (rowA 9 A c ((E).take E.length : List ByteArray)) (List.Sublist.refl _) (fun w h => rowA_take h E.length (by omega)) ?_
                        refine l_appendN (α := ByteArray) 9 16 A c ((E).take E.length) E.length (by rw [List.length_take]; exact Nat.min_eq_left (by omega)) (.s 3 0 1 1) ([(r.at i)]) Try.underlying31 (by kernel_rfl) rfl rfl rfl (fun bs w hS => by obtain ⟨q1, q2, q3, q4⟩ := src_loc (i := 3) (off := 0) (k := 1) (c := 1) (q := 1) (vs := [.string (r.at i)]) hS rfl rfl; exact ⟨some q1, q2, q3, q4⟩) (by simp only [List.length_append, List.length_nil, List.length_cons, List.length_take]; omega) (by simp only [List.length_append, List.length_nil, List.length_cons, List.length_take]; omega) ?_
                        intro A11 c11
                        refine JL_run 2 [] [57, 59, 58, 10, 6, 3, 1] 3 ⟨[(57, .v (.slice r.A r.n r.c)), (59, vI ((i : Nat) : Int)), (58, vI ((r.n : Nat) : Int)), (10, .p 2 0), (6, .p 1 0), (3, .p 0 0), (1, vI n)], [⟨33, [vI x.base, .v (.slice x.entries.A x.entries.n x.entries.c)]⟩, ⟨33, [vI 0, .v (.slice none 0 0)]⟩, ⟨33, [vI x.base, .v (.slice A11 (((E).take E.length) ++ [(r.at i)]).length c11)]⟩]⟩ [] [] (by kernel_rfl) on wn ?_
                        refine l_nil (q_block_normal (q_then_normal ?_))
                        refine c_region ?_
                        refine JL_run 2 [] [59, 57, 58, 10, 6, 3, 1] 3 ⟨[(59, vI (((i : Nat) : Int) + 1)), (57, .v (.slice r.A r.n r.c)), (58, vI ((r.n : Nat) : Int)), (10, .p 2 0), (6, .p 1 0), (3, .p 0 0), (1, vI n)], [⟨33, [vI x.base, .v (.slice x.entries.A x.entries.n x.entries.c)]⟩, ⟨33, [vI 0, .v (.slice none 0 0)]⟩, ⟨33, [vI x.base, .v (.slice A11 (((E).take E.length) ++ [(r.at i)]).length c11)]⟩]⟩ [inR (((i : Nat) : Int) + 1)] [] (by kernel_rfl) (oc (by unfold inR; omega) on) wn ?_
                        refine l_nil (q_loop (x := (⟨i, A, c, E⟩ : Nat × Option Addr × Nat × List ByteArray)) (⟨i + 1, A11, c11, ((E).take E.length) ++ [(r.at i)]⟩ : Nat × Option Addr × Nat × List ByteArray) ⟨by omega, by rw [hP, putGo_next (by omega) h18, putOne_new (k := (n - x.base).toNat + i) (by rintro ⟨hz1, hz2⟩; first | omega | (rw [show (n - x.base).toNat + i = ((n + ((i : Nat) : Int)) - x.base).toNat by omega] at hz2; exact h20 hz2)), show (n - x.base).toNat + i + 1 = (n - x.base).toNat + (i + 1) by omega]; (rw [show (n - x.base).toNat + i = E.length by omega] <;> rfl), by simp only [List.length_append, List.length_take, List.length_cons, List.length_nil]; omega, by simp only [List.length_append, List.length_take, List.length_cons, List.length_nil]; omega, fun z hz => by simp only [List.nil_append, List.mem_append, List.mem_singleton] at hz; rcases hz with hz | hz; exact hEs z (List.mem_of_mem_take hz); subst hz; exact mDecode_size h18⟩ (by show r.n - (i + 1) < r.n - i; omega) (s_start [57, 59, 58, 10, 6, 3, 1] 3 (by kernel_rfl) rfl))
                      | false =>
                        have h21 := of_decide_eq_false h21
                        refine JL_run 1 [] [99, 98, 95, 94, 12, 57, 59, 58, 10, 6, 3, 1] 3 ⟨[(99, vI (if ((E.length : Nat) : Int) < (n + ((i : Nat) : Int)) - x.base then ((E.length : Nat) : Int) else (n + ((i : Nat) : Int)) - x.base)), (98, vI ((E.length : Nat) : Int)), (95, vI ((n + ((i : Nat) : Int)) - x.base)), (94, .v (.slice A E.length c)), (12, vS (r.at i)), (57, .v (.slice r.A r.n r.c)), (59, vI ((i : Nat) : Int)), (58, vI ((r.n : Nat) : Int)), (10, .p 2 0), (6, .p 1 0), (3, .p 0 0), (1, vI n)], [⟨33, [vI x.base, .v (.slice x.entries.A x.entries.n x.entries.c)]⟩, ⟨33, [vI 0, .v (.slice none 0 0)]⟩, ⟨33, [vI x.base, .v (.slice A E.length c)]⟩]⟩ [] [] (by kernel_rfl) on wn ?_
                        rw [if_neg h21]
                        refine JL_run 3 [(0, .sl 0 ((n + ((i : Nat) : Int)) - x.base).toNat)] [102, 100, 57, 59, 58, 10, 6, 3, 1] 4 ⟨[(102, .s 3 0 1 1), (100, .v (.slice A ((n + ((i : Nat) : Int)) - x.base).toNat c)), (57, .v (.slice r.A r.n r.c)), (59, vI ((i : Nat) : Int)), (58, vI ((r.n : Nat) : Int)), (10, .p 2 0), (6, .p 1 0), (3, .p 0 0), (1, vI n)], [⟨33, [vI x.base, .v (.slice x.entries.A x.entries.n x.entries.c)]⟩, ⟨33, [vI 0, .v (.slice none 0 0)]⟩, ⟨33, [vI x.base, .v (.slice A E.length c)]⟩, ⟨9, [vS (r.at i)]⟩]⟩ [0 = 0, (n + ((i : Nat) : Int)) - x.base = ((((n + ((i : Nat) : Int)) - x.base).toNat : Nat) : Int), ((n + ((i : Nat) : Int)) - x.base).toNat ≤ c] [] (by kernel_rfl) (oc rfl (oc (by omega) (oc (by omega) on))) wn ?_
                        refine l_weak (rowA 9 A c ((E).take ((n + ((i : Nat) : Int)) - x.base).toNat : List ByteArray)) (List.Sublist.refl _) (fun w h => rowA_take h ((n + ((i : Nat) : Int)) - x.base).toNat (by omega)) ?_
                        refine l_appendN (α := ByteArray) 9 16 A c ((E).take ((n + ((i : Nat) : Int)) - x.base).toNat) ((n + ((i : Nat) : Int)) - x.base).toNat (by rw [List.length_take]; exact Nat.min_eq_left (by omega)) (.s 3 0 1 1) ([(r.at i)]) Try.underlying31 (by kernel_rfl) rfl rfl rfl (fun bs w hS => by obtain ⟨q1, q2, q3, q4⟩ := src_loc (i := 3) (off := 0) (k := 1) (c := 1) (q := 1) (vs := [.string (r.at i)]) hS rfl rfl; exact ⟨some q1, q2, q3, q4⟩) (by simp only [List.length_append, List.length_nil, List.length_cons, List.length_take]; omega) (by simp only [List.length_append, List.length_nil, List.length_cons, List.length_take]; omega) ?_
                        intro A12 c12
                        refine JL_run 2 [] [57, 59, 58, 10, 6, 3, 1] 3 ⟨[(57, .v (.slice r.A r.n r.c)), (59, vI ((i : Nat) : Int)), (58, vI ((r.n : Nat) : Int)), (10, .p 2 0), (6, .p 1 0), (3, .p 0 0), (1, vI n)], [⟨33, [vI x.base, .v (.slice x.entries.A x.entries.n x.entries.c)]⟩, ⟨33, [vI 0, .v (.slice none 0 0)]⟩, ⟨33, [vI x.base, .v (.slice A12 (((E).take ((n + ((i : Nat) : Int)) - x.base).toNat) ++ [(r.at i)]).length c12)]⟩]⟩ [] [] (by kernel_rfl) on wn ?_
                        refine l_nil (q_block_normal (q_then_normal ?_))
                        refine c_region ?_
                        refine JL_run 2 [] [59, 57, 58, 10, 6, 3, 1] 3 ⟨[(59, vI (((i : Nat) : Int) + 1)), (57, .v (.slice r.A r.n r.c)), (58, vI ((r.n : Nat) : Int)), (10, .p 2 0), (6, .p 1 0), (3, .p 0 0), (1, vI n)], [⟨33, [vI x.base, .v (.slice x.entries.A x.entries.n x.entries.c)]⟩, ⟨33, [vI 0, .v (.slice none 0 0)]⟩, ⟨33, [vI x.base, .v (.slice A12 (((E).take ((n + ((i : Nat) : Int)) - x.base).toNat) ++ [(r.at i)]).length c12)]⟩]⟩ [inR (((i : Nat) : Int) + 1)] [] (by kernel_rfl) (oc (by unfold inR; omega) on) wn ?_
                        refine l_nil (q_loop (x := (⟨i, A, c, E⟩ : Nat × Option Addr × Nat × List ByteArray)) (⟨i + 1, A12, c12, ((E).take ((n + ((i : Nat) : Int)) - x.base).toNat) ++ [(r.at i)]⟩ : Nat × Option Addr × Nat × List ByteArray) ⟨by omega, by rw [hP, putGo_next (by omega) h18, putOne_new (k := (n - x.base).toNat + i) (by rintro ⟨hz1, hz2⟩; first | omega | (rw [show (n - x.base).toNat + i = ((n + ((i : Nat) : Int)) - x.base).toNat by omega] at hz2; exact h20 hz2)), show (n - x.base).toNat + i + 1 = (n - x.base).toNat + (i + 1) by omega]; (rw [show (n - x.base).toNat + i = ((n + ((i : Nat) : Int)) - x.base).toNat by omega] <;> rfl), by simp only [List.length_append, List.length_take, List.length_cons, List.length_nil]; omega, by simp only [List.length_append, List.length_take, List.length_cons, List.length_nil]; omega, fun z hz => by simp only [List.nil_append, List.mem_append, List.mem_singleton] at hz; rcases hz with hz | hz; exact hEs z (List.mem_of_mem_take hz); subst hz; exact mDecode_size h18⟩ (by show r.n - (i + 1) < r.n - i; omega) (s_start [57, 59, 58, 10, 6, 3, 1] 3 (by kernel_rfl) rfl))
                  | false =>
                    have h19 := of_decide_eq_false h19
                    refine JL_run 8 [] [92, 15, 12, 57, 59, 58, 10, 6, 3, 1] 3 ⟨[(92, vB false), (15, vI ((n + ((i : Nat) : Int)) - x.base)), (12, vS (r.at i)), (57, .v (.slice r.A r.n r.c)), (59, vI ((i : Nat) : Int)), (58, vI ((r.n : Nat) : Int)), (10, .p 2 0), (6, .p 1 0), (3, .p 0 0), (1, vI n)], [⟨33, [vI x.base, .v (.slice x.entries.A x.entries.n x.entries.c)]⟩, ⟨33, [vI 0, .v (.slice none 0 0)]⟩, ⟨33, [vI x.base, .v (.slice A E.length c)]⟩]⟩ [] [] (by kernel_rfl) on wn ?_
                    refine l_nil (q_then_normal ?_)
                    refine c_if false rfl ?_
                    refine c_skip ?_
                    refine q_then_normal ?_
                    refine c_region ?_
                    refine JL_run 6 [] [98, 95, 94, 12, 57, 59, 58, 10, 6, 3, 1] 3 ⟨[(98, vI ((E.length : Nat) : Int)), (95, vI ((n + ((i : Nat) : Int)) - x.base)), (94, .v (.slice A E.length c)), (12, vS (r.at i)), (57, .v (.slice r.A r.n r.c)), (59, vI ((i : Nat) : Int)), (58, vI ((r.n : Nat) : Int)), (10, .p 2 0), (6, .p 1 0), (3, .p 0 0), (1, vI n)], [⟨33, [vI x.base, .v (.slice x.entries.A x.entries.n x.entries.c)]⟩, ⟨33, [vI 0, .v (.slice none 0 0)]⟩, ⟨33, [vI x.base, .v (.slice A E.length c)]⟩]⟩ [] [] (by kernel_rfl) on wn ?_
                    cases h22 : decide (((E.length : Nat) : Int) < (n + ((i : Nat) : Int)) - x.base) with
                    | true =>
                      have h22 := of_decide_eq_true h22
                      refine JL_run 1 [] [99, 98, 95, 94, 12, 57, 59, 58, 10, 6, 3, 1] 3 ⟨[(99, vI (if ((E.length : Nat) : Int) < (n + ((i : Nat) : Int)) - x.base then ((E.length : Nat) : Int) else (n + ((i : Nat) : Int)) - x.base)), (98, vI ((E.length : Nat) : Int)), (95, vI ((n + ((i : Nat) : Int)) - x.base)), (94, .v (.slice A E.length c)), (12, vS (r.at i)), (57, .v (.slice r.A r.n r.c)), (59, vI ((i : Nat) : Int)), (58, vI ((r.n : Nat) : Int)), (10, .p 2 0), (6, .p 1 0), (3, .p 0 0), (1, vI n)], [⟨33, [vI x.base, .v (.slice x.entries.A x.entries.n x.entries.c)]⟩, ⟨33, [vI 0, .v (.slice none 0 0)]⟩, ⟨33, [vI x.base, .v (.slice A E.length c)]⟩]⟩ [] [] (by kernel_rfl) on wn ?_
                      rw [if_pos h22]
                      refine JL_run 3 [(0, .sl 0 E.length)] [102, 100, 57, 59, 58, 10, 6, 3, 1] 4 ⟨[(102, .s 3 0 1 1), (100, .v (.slice A E.length c)), (57, .v (.slice r.A r.n r.c)), (59, vI ((i : Nat) : Int)), (58, vI ((r.n : Nat) : Int)), (10, .p 2 0), (6, .p 1 0), (3, .p 0 0), (1, vI n)], [⟨33, [vI x.base, .v (.slice x.entries.A x.entries.n x.entries.c)]⟩, ⟨33, [vI 0, .v (.slice none 0 0)]⟩, ⟨33, [vI x.base, .v (.slice A E.length c)]⟩, ⟨9, [vS (r.at i)]⟩]⟩ [0 = 0, ((E.length : Nat) : Int) = ((E.length : Nat) : Int), E.length ≤ c] [] (by kernel_rfl) (oc rfl (oc rfl (oc (by omega) on))) wn ?_
                      refine l_weak (rowA 9 A c ((E).take E.length : List ByteArray)) (List.Sublist.refl _) (fun w h => rowA_take h E.length (by omega)) ?_
                      refine l_appendN (α := ByteArray) 9 16 A c ((E).take E.length) E.length (by rw [List.length_take]; exact Nat.min_eq_left (by omega)) (.s 3 0 1 1) ([(r.at i)]) Try.underlying31 (by kernel_rfl) rfl rfl rfl (fun bs w hS => by obtain ⟨q1, q2, q3, q4⟩ := src_loc (i := 3) (off := 0) (k := 1) (c := 1) (q := 1) (vs := [.string (r.at i)]) hS rfl rfl; exact ⟨some q1, q2, q3, q4⟩) (by simp only [List.length_append, List.length_nil, List.length_cons, List.length_take]; omega) (by simp only [List.length_append, List.length_nil, List.length_cons, List.length_take]; omega) ?_
                      intro A13 c13
                      refine JL_run 2 [] [57, 59, 58, 10, 6, 3, 1] 3 ⟨[(57, .v (.slice r.A r.n r.c)), (59, vI ((i : Nat) : Int)), (58, vI ((r.n : Nat) : Int)), (10, .p 2 0), (6, .p 1 0), (3, .p 0 0), (1, vI n)], [⟨33, [vI x.base, .v (.slice x.entries.A x.entries.n x.entries.c)]⟩, ⟨33, [vI 0, .v (.slice none 0 0)]⟩, ⟨33, [vI x.base, .v (.slice A13 (((E).take E.length) ++ [(r.at i)]).length c13)]⟩]⟩ [] [] (by kernel_rfl) on wn ?_
                      refine l_nil (q_block_normal (q_then_normal ?_))
                      refine c_region ?_
                      refine JL_run 2 [] [59, 57, 58, 10, 6, 3, 1] 3 ⟨[(59, vI (((i : Nat) : Int) + 1)), (57, .v (.slice r.A r.n r.c)), (58, vI ((r.n : Nat) : Int)), (10, .p 2 0), (6, .p 1 0), (3, .p 0 0), (1, vI n)], [⟨33, [vI x.base, .v (.slice x.entries.A x.entries.n x.entries.c)]⟩, ⟨33, [vI 0, .v (.slice none 0 0)]⟩, ⟨33, [vI x.base, .v (.slice A13 (((E).take E.length) ++ [(r.at i)]).length c13)]⟩]⟩ [inR (((i : Nat) : Int) + 1)] [] (by kernel_rfl) (oc (by unfold inR; omega) on) wn ?_
                      refine l_nil (q_loop (x := (⟨i, A, c, E⟩ : Nat × Option Addr × Nat × List ByteArray)) (⟨i + 1, A13, c13, ((E).take E.length) ++ [(r.at i)]⟩ : Nat × Option Addr × Nat × List ByteArray) ⟨by omega, by rw [hP, putGo_next (by omega) h18, putOne_new (k := (n - x.base).toNat + i) (by rintro ⟨hz1, hz2⟩; omega), show (n - x.base).toNat + i + 1 = (n - x.base).toNat + (i + 1) by omega]; (rw [show (n - x.base).toNat + i = E.length by omega] <;> rfl), by simp only [List.length_append, List.length_take, List.length_cons, List.length_nil]; omega, by simp only [List.length_append, List.length_take, List.length_cons, List.length_nil]; omega, fun z hz => by simp only [List.nil_append, List.mem_append, List.mem_singleton] at hz; rcases hz with hz | hz; exact hEs z (List.mem_of_mem_take hz); subst hz; exact mDecode_size h18⟩ (by show r.n - (i + 1) < r.n - i; omega) (s_start [57, 59, 58, 10, 6, 3, 1] 3 (by kernel_rfl) rfl))
                    | false =>
                      have h22 := of_decide_eq_false h22
                      refine JL_run 1 [] [99, 98, 95, 94, 12, 57, 59, 58, 10, 6, 3, 1] 3 ⟨[(99, vI (if ((E.length : Nat) : Int) < (n + ((i : Nat) : Int)) - x.base then ((E.length : Nat) : Int) else (n + ((i : Nat) : Int)) - x.base)), (98, vI ((E.length : Nat) : Int)), (95, vI ((n + ((i : Nat) : Int)) - x.base)), (94, .v (.slice A E.length c)), (12, vS (r.at i)), (57, .v (.slice r.A r.n r.c)), (59, vI ((i : Nat) : Int)), (58, vI ((r.n : Nat) : Int)), (10, .p 2 0), (6, .p 1 0), (3, .p 0 0), (1, vI n)], [⟨33, [vI x.base, .v (.slice x.entries.A x.entries.n x.entries.c)]⟩, ⟨33, [vI 0, .v (.slice none 0 0)]⟩, ⟨33, [vI x.base, .v (.slice A E.length c)]⟩]⟩ [] [] (by kernel_rfl) on wn ?_
                      rw [if_neg h22]
                      refine JL_run 3 [(0, .sl 0 ((n + ((i : Nat) : Int)) - x.base).toNat)] [102, 100, 57, 59, 58, 10, 6, 3, 1] 4 ⟨[(102, .s 3 0 1 1), (100, .v (.slice A ((n + ((i : Nat) : Int)) - x.base).toNat c)), (57, .v (.slice r.A r.n r.c)), (59, vI ((i : Nat) : Int)), (58, vI ((r.n : Nat) : Int)), (10, .p 2 0), (6, .p 1 0), (3, .p 0 0), (1, vI n)], [⟨33, [vI x.base, .v (.slice x.entries.A x.entries.n x.entries.c)]⟩, ⟨33, [vI 0, .v (.slice none 0 0)]⟩, ⟨33, [vI x.base, .v (.slice A E.length c)]⟩, ⟨9, [vS (r.at i)]⟩]⟩ [0 = 0, (n + ((i : Nat) : Int)) - x.base = ((((n + ((i : Nat) : Int)) - x.base).toNat : Nat) : Int), ((n + ((i : Nat) : Int)) - x.base).toNat ≤ c] [] (by kernel_rfl) (oc rfl (oc (by omega) (oc (by omega) on))) wn ?_
                      refine l_weak (rowA 9 A c ((E).take ((n + ((i : Nat) : Int)) - x.base).toNat : List ByteArray)) (List.Sublist.refl _) (fun w h => rowA_take h ((n + ((i : Nat) : Int)) - x.base).toNat (by omega)) ?_
                      refine l_appendN (α := ByteArray) 9 16 A c ((E).take ((n + ((i : Nat) : Int)) - x.base).toNat) ((n + ((i : Nat) : Int)) - x.base).toNat (by rw [List.length_take]; exact Nat.min_eq_left (by omega)) (.s 3 0 1 1) ([(r.at i)]) Try.underlying31 (by kernel_rfl) rfl rfl rfl (fun bs w hS => by obtain ⟨q1, q2, q3, q4⟩ := src_loc (i := 3) (off := 0) (k := 1) (c := 1) (q := 1) (vs := [.string (r.at i)]) hS rfl rfl; exact ⟨some q1, q2, q3, q4⟩) (by simp only [List.length_append, List.length_nil, List.length_cons, List.length_take]; omega) (by simp only [List.length_append, List.length_nil, List.length_cons, List.length_take]; omega) ?_
                      intro A14 c14
                      refine JL_run 2 [] [57, 59, 58, 10, 6, 3, 1] 3 ⟨[(57, .v (.slice r.A r.n r.c)), (59, vI ((i : Nat) : Int)), (58, vI ((r.n : Nat) : Int)), (10, .p 2 0), (6, .p 1 0), (3, .p 0 0), (1, vI n)], [⟨33, [vI x.base, .v (.slice x.entries.A x.entries.n x.entries.c)]⟩, ⟨33, [vI 0, .v (.slice none 0 0)]⟩, ⟨33, [vI x.base, .v (.slice A14 (((E).take ((n + ((i : Nat) : Int)) - x.base).toNat) ++ [(r.at i)]).length c14)]⟩]⟩ [] [] (by kernel_rfl) on wn ?_
                      refine l_nil (q_block_normal (q_then_normal ?_))
                      refine c_region ?_
                      refine JL_run 2 [] [59, 57, 58, 10, 6, 3, 1] 3 ⟨[(59, vI (((i : Nat) : Int) + 1)), (57, .v (.slice r.A r.n r.c)), (58, vI ((r.n : Nat) : Int)), (10, .p 2 0), (6, .p 1 0), (3, .p 0 0), (1, vI n)], [⟨33, [vI x.base, .v (.slice x.entries.A x.entries.n x.entries.c)]⟩, ⟨33, [vI 0, .v (.slice none 0 0)]⟩, ⟨33, [vI x.base, .v (.slice A14 (((E).take ((n + ((i : Nat) : Int)) - x.base).toNat) ++ [(r.at i)]).length c14)]⟩]⟩ [inR (((i : Nat) : Int) + 1)] [] (by kernel_rfl) (oc (by unfold inR; omega) on) wn ?_
                      refine l_nil (q_loop (x := (⟨i, A, c, E⟩ : Nat × Option Addr × Nat × List ByteArray)) (⟨i + 1, A14, c14, ((E).take ((n + ((i : Nat) : Int)) - x.base).toNat) ++ [(r.at i)]⟩ : Nat × Option Addr × Nat × List ByteArray) ⟨by omega, by rw [hP, putGo_next (by omega) h18, putOne_new (k := (n - x.base).toNat + i) (by rintro ⟨hz1, hz2⟩; omega), show (n - x.base).toNat + i + 1 = (n - x.base).toNat + (i + 1) by omega]; (rw [show (n - x.base).toNat + i = ((n + ((i : Nat) : Int)) - x.base).toNat by omega] <;> rfl), by simp only [List.length_append, List.length_take, List.length_cons, List.length_nil]; omega, by simp only [List.length_append, List.length_take, List.length_cons, List.length_nil]; omega, fun z hz => by simp only [List.nil_append, List.mem_append, List.mem_singleton] at hz; rcases hz with hz | hz; exact hEs z (List.mem_of_mem_take hz); subst hz; exact mDecode_size h18⟩ (by show r.n - (i + 1) < r.n - i; omega) (s_start [57, 59, 58, 10, 6, 3, 1] 3 (by kernel_rfl) rfl))
                | false =>
                  have h18 := of_decide_eq_false h18
                  refine c_if true rfl ?_
                  refine c_seq ?_
                  refine c_region ?_
                  refine JL_run 4 [] [7, 6] 2 ⟨[(7, vI ((mDecode (r.at i)).2)), (6, .p 1 0)], [⟨33, [vI x.base, .v (.slice x.entries.A x.entries.n x.entries.c)]⟩, ⟨33, [vI 0, .v (.slice none 0 0)]⟩]⟩ [] [] (by kernel_rfl) on wn ?_
                  refine l_nil (q_then_normal ?_)
                  refine c_ret ?_
                  refine q_then_ret (q_block_ret (q_then_ret (q_then_ret (q_block_ret (q_then_ret (q_ret (.inl rfl) [.v (.agg #[.int .i64 0, .slice none 0 0]), vI ((mDecode (r.at i)).2)] rfl (fun bs w hS => ?_)))))))
                  have hpg : putGo x.entries.xs (n - x.base).toNat (m.xs.drop (x.base - n).toNat) = ([], (mDecode (r.at i)).2) := by rw [hP]; exact putGo_bad (by omega) h18
                  have hm : mPut x.abs n m.xs = (zLog, (mDecode (r.at i)).2) := by unfold mPut; rw [if_neg (by simpa using (by assumption : mLog _ = 0)), hla, q1, q2]; rw [if_neg (by omega), if_neg (by omega), if_neg (by omega), hpg]; exact if_pos h18
                  refine ⟨⟨0, Sl.nil⟩, ?_, ?_, hS.outS (y := (⟨0, Sl.nil⟩ : CLog)) (Sl.rd_nil _ _)⟩
                  · simp only [retOf, den, List.map_cons, List.map_nil]; rw [hm]; rfl
                  · rw [hm]; rfl
              | false =>
                have h17 := of_decide_eq_false h17
                refine c_if false rfl ?_
                refine c_exit ?_
                refine q_then_exit (q_then_exit (q_block_hit (q_then_normal ?_)))
                refine c_seq ?_
                refine c_seq ?_
                refine c_region ?_
                refine JL_run 4 [] [109, 10, 6] 3 ⟨[(109, vB (decide ((400 : Int) < ((E.length : Nat) : Int)))), (10, .p 2 0), (6, .p 1 0)], [⟨33, [vI x.base, .v (.slice x.entries.A x.entries.n x.entries.c)]⟩, ⟨33, [vI 0, .v (.slice none 0 0)]⟩, ⟨33, [vI x.base, .v (.slice A E.length c)]⟩]⟩ [] [] (by kernel_rfl) on wn ?_
                refine l_nil (q_then_normal ?_)
                cases h23 : decide ((400 : Int) < ((E.length : Nat) : Int)) with
                | true =>
                  have h23 := of_decide_eq_true h23
                  refine c_if true rfl ?_
                  refine c_seq ?_
                  refine c_region ?_
                  refine JL_run 3 [] [7, 6] 2 ⟨[(7, vI 8), (6, .p 1 0)], [⟨33, [vI x.base, .v (.slice x.entries.A x.entries.n x.entries.c)]⟩, ⟨33, [vI 0, .v (.slice none 0 0)]⟩]⟩ [] [] (by kernel_rfl) on wn ?_
                  refine l_nil (q_then_normal ?_)
                  refine c_ret ?_
                  refine q_then_ret (q_ret (.inl rfl) [.v (.agg #[.int .i64 0, .slice none 0 0]), vI 8] rfl (fun bs w hS => ?_))
                  have hpg : putGo x.entries.xs (n - x.base).toNat (m.xs.drop (x.base - n).toNat) = (E, 0) := by rw [hP]; exact putGo_end (by omega)
                  have hm : mPut x.abs n m.xs = (zLog, 8) := by
                    unfold mPut; rw [if_neg (by simpa using (by assumption : mLog _ = 0)), hla, q1, q2]
                    first | rw [if_pos (by omega)] | rw [if_neg (by omega), if_pos (by omega)] | rw [if_neg (by omega), if_neg (by omega), if_pos (by omega)] | (rw [if_neg (by omega), if_neg (by omega), if_neg (by omega), hpg, if_neg (by simp), if_pos (by show 400 < E.length; omega)])
                    all_goals first | rfl | (exfalso; omega)
                  refine ⟨⟨0, Sl.nil⟩, ?_, ?_, hS.outS (y := (⟨0, Sl.nil⟩ : CLog)) (Sl.rd_nil _ _)⟩
                  · simp only [retOf, den, List.map_cons, List.map_nil]; rw [hm]; rfl
                  · rw [hm]; rfl
                | false =>
                  have h23 := of_decide_eq_false h23
                  refine c_if false rfl ?_
                  refine c_skip ?_
                  refine q_then_normal ?_
                  refine c_seq ?_
                  refine c_region ?_
                  refine JL_run 3 [] [7, 6] 2 ⟨[(7, vI 0), (6, .p 1 0)], [⟨33, [vI x.base, .v (.slice x.entries.A x.entries.n x.entries.c)]⟩, ⟨33, [vI x.base, .v (.slice A E.length c)]⟩]⟩ [] [] (by kernel_rfl) on wn ?_
                  refine l_nil (q_then_normal ?_)
                  refine c_ret ?_
                  refine q_ret (.inl rfl) [.v (.agg #[.int .i64 x.base, .slice A E.length c]), vI 0] rfl (fun bs w hS => ?_)
                  have hpg : putGo x.entries.xs (n - x.base).toNat (m.xs.drop (x.base - n).toNat) = (E, 0) := by rw [hP]; exact putGo_end (by omega)
                  have hm : mPut x.abs n m.xs = (⟨x.base, E⟩, 0) := by unfold mPut; rw [if_neg (by simpa using (by assumption : mLog _ = 0)), hla, q1, q2]; rw [if_neg (by omega), if_neg (by omega), if_neg (by omega), hpg, if_neg (by simp), if_neg (by show ¬ 400 < E.length; omega)]
                  refine ⟨⟨x.base, ⟨A, c, E⟩⟩, ?_, ?_, hS.outS (y := (⟨x.base, ⟨A, c, E⟩⟩ : CLog)) (allR_row (.head _) (hS.res _ (.head _)) hEs)⟩
                  · rw [hm]; rfl
                  · rw [hm]; rfl
  | false =>
    have h1 := of_decide_eq_false h1
    refine c_if true rfl ?_
    refine c_seq ?_
    refine c_region ?_
    refine JL_run 4 [] [7, 6] 2 ⟨[(7, vI (mLog x.abs)), (6, .p 1 0)], [⟨33, [vI x.base, .v (.slice x.entries.A x.entries.n x.entries.c)]⟩, ⟨33, [vI 0, .v (.slice none 0 0)]⟩]⟩ [] [] (by kernel_rfl) on wn ?_
    refine l_nil (q_then_normal ?_)
    refine c_ret ?_
    refine q_then_ret (q_ret (.inl rfl) [.v (.agg #[.int .i64 0, .slice none 0 0]), vI (mLog x.abs)] rfl (fun bs w hS => ?_))
    have hm : mPut x.abs n m.xs = (zLog, mLog x.abs) := by unfold mPut; rw [if_pos h1]
    refine ⟨⟨0, Sl.nil⟩, ?_, ?_, hS.outS (y := (⟨0, Sl.nil⟩ : CLog)) (Sl.rd_nil _ _)⟩
    · simp only [retOf, den, List.map_cons, List.map_nil]; rw [hm]; rfl
    · rw [hm]; rfl

end Go.Proofs.Ytececkgjacccmad.W
