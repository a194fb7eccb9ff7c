/-
  The functions that the law LogCuts reaches, walked: each returns what its model says.
  Conditions: those that each theorem states.
-/
import Derived.Test.YtececkgjacccmadWLogCutsa
set_option linter.unusedVariables false
set_option linter.unusedSimpArgs false
set_option maxRecDepth 100000
namespace Go.Proofs.Ytececkgjacccmad.W
open Go.Proofs.Ytececkgjacccmad.Fw Go.RowKit

theorem ref_CommandOf (s : ByteArray) (w : World) (hs : s.size ≤ 9223372036854775807) : Calls Try.prog 68 #[.string s] w fun e w' => e = .returned (.tuple #[.agg #[.int .i64 ((mDecode s).1.kind), .int .i64 ((mDecode s).1.client), .int .i64 ((mDecode s).1.session), .int .i64 ((mDecode s).1.seq), .int .i64 ((mDecode s).1.acked), .int .i64 ((mDecode s).1.op.kind), .string ((mDecode s).1.op.a), .string ((mDecode s).1.op.b), .int .i64 ((mDecode s).1.op.n)], .int .i64 ((mDecode s).2)]) ∧ Kp [] w w' := by
  have hu0 := (s.data.getD 0 0).toNat_lt
  have hu1 := (s.data.getD 1 0).toNat_lt
  have hex : (s.extract 2 s.size).size ≤ s.size := by simp
  refine calls_J0 110 Try.func68 rfl rfl [.string s] rfl ?_
  refine c_seq ?_
  refine c_region ?_
  refine JL_run 2 [] [2, 0] 1 ⟨[(2, .p 0 0), (0, vS s)], [⟨100, [vI 0, vI 0, vI 0, vI 0, vI 0, vI 0, vS emp, vS emp, vI 0]⟩]⟩ [] [] (by kernel_rfl) on wn ?_
  refine l_nil (q_then_normal ?_)
  refine c_seq ?_
  refine c_seq ?_
  refine c_region ?_
  refine JL_run 3 [] [20, 2, 0] 1 ⟨[(20, vB (decide ((5000 : Int) < (s.size : Int)))), (2, .p 0 0), (0, vS s)], [⟨100, [vI 0, vI 0, vI 0, vI 0, vI 0, vI 0, vS emp, vS emp, vI 0]⟩]⟩ [] [] (by kernel_rfl) on wn ?_
  refine l_nil (q_then_normal ?_)
  cases h1 : decide ((5000 : Int) < (s.size : Int)) with
  | true =>
    have h1 := of_decide_eq_true h1
    refine c_if true rfl ?_
    refine c_seq ?_
    refine c_region ?_
    refine JL_run 3 [] [3, 2] 1 ⟨[(3, vI 1), (2, .p 0 0)], [⟨100, [vI 0, vI 0, vI 0, vI 0, vI 0, vI 0, vS emp, vS emp, vI 0]⟩]⟩ [] [] (by kernel_rfl) on wn ?_
    refine l_nil (q_then_normal ?_)
    refine c_ret ?_
    refine q_then_ret (q_ret (.inl rfl) [.v (.agg #[.int .i64 0, .int .i64 0, .int .i64 0, .int .i64 0, .int .i64 0, .int .i64 0, .string emp, .string emp, .int .i64 0]), vI 1] rfl (fun bs w hS => ?_))
    refine ⟨?_, hS.kp⟩
    have hm : mDecode s = ((⟨0, 0, 0, 0, 0, ⟨0, emp, emp, 0⟩⟩ : DCommand), 1) := by
      have hk : (cmd0 s).kind = ((s.data.getD 0 0).toNat : Int) := rfl
      unfold mDecode
      repeat (first | rw [if_pos (by omega)] | rw [if_neg (by omega)])
      rfl
    rw [hm]
    rfl
  | false =>
    have h1 := of_decide_eq_false h1
    refine c_if false rfl ?_
    refine c_skip ?_
    refine q_then_normal ?_
    refine c_seq ?_
    refine c_seq ?_
    refine c_region ?_
    refine JL_run 3 [] [24, 2, 0] 1 ⟨[(24, vB (decide ((s.size : Int) < 2))), (2, .p 0 0), (0, vS s)], [⟨100, [vI 0, vI 0, vI 0, vI 0, vI 0, vI 0, vS emp, vS emp, vI 0]⟩]⟩ [] [] (by kernel_rfl) on wn ?_
    refine l_nil (q_then_normal ?_)
    cases h2 : decide ((s.size : Int) < 2) with
    | true =>
      have h2 := of_decide_eq_true h2
      refine c_if true rfl ?_
      refine c_seq ?_
      refine c_region ?_
      refine JL_run 3 [] [3, 2] 1 ⟨[(3, vI 5), (2, .p 0 0)], [⟨100, [vI 0, vI 0, vI 0, vI 0, vI 0, vI 0, vS emp, vS emp, vI 0]⟩]⟩ [] [] (by kernel_rfl) on wn ?_
      refine l_nil (q_then_normal ?_)
      refine c_ret ?_
      refine q_then_ret (q_ret (.inl rfl) [.v (.agg #[.int .i64 0, .int .i64 0, .int .i64 0, .int .i64 0, .int .i64 0, .int .i64 0, .string emp, .string emp, .int .i64 0]), vI 5] rfl (fun bs w hS => ?_))
      refine ⟨?_, hS.kp⟩
      have hm : mDecode s = ((⟨0, 0, 0, 0, 0, ⟨0, emp, emp, 0⟩⟩ : DCommand), 5) := by
        have hk : (cmd0 s).kind = ((s.data.getD 0 0).toNat : Int) := rfl
        unfold mDecode
        repeat (first | rw [if_pos (by omega)] | rw [if_neg (by omega)])
        rfl
      rw [hm]
      rfl
    | false =>
      have h2 := of_decide_eq_false h2
      refine c_if false rfl ?_
      refine c_skip ?_
      refine q_then_normal ?_
      refine c_seq ?_
      refine c_draw 8 [(0, false), (1, false), (2, false), (3, false), (4, false), (5, false), (6, false), (7, true)] [] [] Try_mixed (by kernel_rfl) (pq_then pq_body) (List.Sublist.refl _) ?_
      refine h_quiet [(1, .sidx 0), (4, .sidx 1)] 7 [(32, .v (.agg #[.int .i64 ((s.data.getD 0 0).toNat : Int), .int .i64 ((s.data.getD 1 0).toNat : Int), .int .i64 0, .int .i64 0, .int .i64 0, .int .i64 0, .string emp, .string emp, .int .i64 0])), (31, vI ((s.data.getD 1 0).toNat : Int)), (30, .v (.int .u8 ((s.data.getD 1 0).toNat : Int))), (29, vS s), (28, vI ((s.data.getD 0 0).toNat : Int)), (27, .v (.int .u8 ((s.data.getD 0 0).toNat : Int))), (26, vS s), (24, vB false), (2, .p 0 0), (0, vS s)] [(0 : Int) = ((0 : Nat) : Int), 0 < s.size, 0 ≤ ((s.data.getD 0 0).toNat : Int), ((s.data.getD 0 0).toNat : Int) ≤ 255, (1 : Int) = ((1 : Nat) : Int), 1 < s.size, 0 ≤ ((s.data.getD 1 0).toNat : Int), ((s.data.getD 1 0).toNat : Int) ≤ 255] [] rfl rfl (by kernel_rfl) (oc rfl (oc (by omega) (oc (by omega) (oc (by omega) (oc rfl (oc (by omega) (oc (by omega) (oc (by omega) on)))))))) wn ?_
      refine h_local ⟨[(4, .p 1 0), (32, .v (.agg #[.int .i64 ((s.data.getD 0 0).toNat : Int), .int .i64 ((s.data.getD 1 0).toNat : Int), .int .i64 0, .int .i64 0, .int .i64 0, .int .i64 0, .string emp, .string emp, .int .i64 0])), (31, vI ((s.data.getD 1 0).toNat : Int)), (30, .v (.int .u8 ((s.data.getD 1 0).toNat : Int))), (29, vS s), (28, vI ((s.data.getD 0 0).toNat : Int)), (27, .v (.int .u8 ((s.data.getD 0 0).toNat : Int))), (26, vS s), (24, vB false), (2, .p 0 0), (0, vS s)], [⟨100, [vI 0, vI 0, vI 0, vI 0, vI 0, vI 0, vS emp, vS emp, vI 0]⟩, ⟨100, [vI 0, vI 0, vI 0, vI 0, vI 0, vI 0, vS emp, vS emp, vI 0]⟩]⟩ (by kernel_rfl) (fun bs0 bs w hp hl hS => hS.down hp hl rfl (le_same le_nil) (List.Sublist.refl _)) ?_
      refine h_nil ?_
      refine JL_run 1 [] [4, 2, 0] 2 ⟨[(4, .p 1 0), (2, .p 0 0), (0, vS s)], [⟨100, [vI 0, vI 0, vI 0, vI 0, vI 0, vI 0, vS emp, vS emp, vI 0]⟩, ⟨100, [vI ((s.data.getD 0 0).toNat : Int), vI ((s.data.getD 1 0).toNat : Int), vI 0, vI 0, vI 0, vI 0, vS emp, vS emp, vI 0]⟩]⟩ [] [] (by kernel_rfl) on wn ?_
      refine l_nil (q_then_normal ?_)
      refine c_seq ?_
      refine c_region ?_
      refine JL_run 3 [(1, .sl 2 s.size)] [5, 4, 2] 2 ⟨[(5, vS (s.extract 2 s.size)), (4, .p 1 0), (2, .p 0 0)], [⟨100, [vI 0, vI 0, vI 0, vI 0, vI 0, vI 0, vS emp, vS emp, vI 0]⟩, ⟨100, [vI ((s.data.getD 0 0).toNat : Int), vI ((s.data.getD 1 0).toNat : Int), vI 0, vI 0, vI 0, vI 0, vS emp, vS emp, vI 0]⟩]⟩ [(2 : Int) = ((2 : Nat) : Int), s.size = s.size, 2 ≤ s.size] [] (by kernel_rfl) (oc rfl (oc rfl (oc (by omega) on))) wn ?_
      refine l_nil (q_then_normal ?_)
      refine c_seq ?_
      refine c_seq ?_
      refine c_region ?_
      refine JL_run 3 [] [37, 5, 4, 2] 2 ⟨[(37, vB (decide (((s.data.getD 0 0).toNat : Int) = 2))), (5, vS (s.extract 2 s.size)), (4, .p 1 0), (2, .p 0 0)], [⟨100, [vI 0, vI 0, vI 0, vI 0, vI 0, vI 0, vS emp, vS emp, vI 0]⟩, ⟨100, [vI ((s.data.getD 0 0).toNat : Int), vI ((s.data.getD 1 0).toNat : Int), vI 0, vI 0, vI 0, vI 0, vS emp, vS emp, vI 0]⟩]⟩ [] [] (by kernel_rfl) on wn ?_
      refine l_nil (q_then_normal ?_)
      cases h3 : decide (((s.data.getD 0 0).toNat : Int) = 2) with
      | true =>
        have h3 := of_decide_eq_true h3
        refine c_if true rfl ?_
        refine c_seq ?_
        refine c_region ?_
        refine JL_run 1 [] [6, 5, 4, 2] 3 ⟨[(6, .p 2 0), (5, vS (s.extract 2 s.size)), (4, .p 1 0), (2, .p 0 0)], [⟨100, [vI 0, vI 0, vI 0, vI 0, vI 0, vI 0, vS emp, vS emp, vI 0]⟩, ⟨100, [vI ((s.data.getD 0 0).toNat : Int), vI ((s.data.getD 1 0).toNat : Int), vI 0, vI 0, vI 0, vI 0, vS emp, vS emp, vI 0]⟩, ⟨155, [vI 0, vI 0, vI 0, vI 0, vI 0]⟩]⟩ [] [] (by kernel_rfl) on wn ?_
        refine l_nil (q_then_normal ?_)
        refine c_seq ?_
        refine c_seq ?_
        refine c_region ?_
        refine JL_run 1 [] [7, 6, 5, 4, 2] 3 ⟨[(7, vI 0), (6, .p 2 0), (5, vS (s.extract 2 s.size)), (4, .p 1 0), (2, .p 0 0)], [⟨100, [vI 0, vI 0, vI 0, vI 0, vI 0, vI 0, vS emp, vS emp, vI 0]⟩, ⟨100, [vI ((s.data.getD 0 0).toNat : Int), vI ((s.data.getD 1 0).toNat : Int), vI 0, vI 0, vI 0, vI 0, vS emp, vS emp, vI 0]⟩, ⟨155, [vI 0, vI 0, vI 0, vI 0, vI 0]⟩]⟩ [] [] (by kernel_rfl) on wn ?_
        refine l_nil (q_then_normal ?_)
        refine c_block ?_
        refine c_unroll (n := 6) ?_
        refine c_seq ?_
        refine c_seq ?_
        refine c_region ?_
        refine JL_run 2 [] [39, 7, 6, 5, 4, 2] 3 ⟨[(39, vB true), (7, vI 0), (6, .p 2 0), (5, vS (s.extract 2 s.size)), (4, .p 1 0), (2, .p 0 0)], [⟨100, [vI 0, vI 0, vI 0, vI 0, vI 0, vI 0, vS emp, vS emp, vI 0]⟩, ⟨100, [vI ((s.data.getD 0 0).toNat : Int), vI ((s.data.getD 1 0).toNat : Int), vI 0, vI 0, vI 0, vI 0, vS emp, vS emp, vI 0]⟩, ⟨155, [vI 0, vI 0, vI 0, vI 0, vI 0]⟩]⟩ [] [] (by kernel_rfl) on wn ?_
        refine l_nil (q_then_normal ?_)
        refine c_if true rfl ?_
        refine c_skip ?_
        refine q_then_normal ?_
        refine c_seq ?_
        refine c_block ?_
        refine c_seq ?_
        refine c_region ?_
        refine JL_run 1 [] [43, 7, 6, 4, 2] 3 ⟨[(43, vS (s.extract 2 s.size)), (7, vI 0), (6, .p 2 0), (4, .p 1 0), (2, .p 0 0)], [⟨100, [vI 0, vI 0, vI 0, vI 0, vI 0, vI 0, vS emp, vS emp, vI 0]⟩, ⟨100, [vI ((s.data.getD 0 0).toNat : Int), vI ((s.data.getD 1 0).toNat : Int), vI 0, vI 0, vI 0, vI 0, vS emp, vS emp, vI 0]⟩, ⟨155, [vI 0, vI 0, vI 0, vI 0, vI 0]⟩]⟩ [] [] (by kernel_rfl) on wn ?_
        refine l_pure 116 [] [vS (s.extract 2 s.size)] (.tuple #[.int .i64 ((mRead (s.extract 2 s.size)).1), .string ((mRead (s.extract 2 s.size)).2.1), .int .i64 ((mRead (s.extract 2 s.size)).2.2)]) Try.call116 rfl rfl rfl rfl (fun bs w hS => ref_NumberOf _ w (by first | assumption | omega | (simp only [emp_size]; omega))) ?_
        have hzr1 := mRead_bd (s.extract 2 s.size)
        generalize hr1 : mRead (s.extract 2 s.size) = r1 at hzr1 ⊢
        refine JL_run 7 [] [10, 9, 8, 7, 6, 4, 2] 3 ⟨[(10, vI r1.2.2), (9, vS r1.2.1), (8, vI r1.1), (7, vI 0), (6, .p 2 0), (4, .p 1 0), (2, .p 0 0)], [⟨100, [vI 0, vI 0, vI 0, vI 0, vI 0, vI 0, vS emp, vS emp, vI 0]⟩, ⟨100, [vI ((s.data.getD 0 0).toNat : Int), vI ((s.data.getD 1 0).toNat : Int), vI 0, vI 0, vI 0, vI 0, vS emp, vS emp, vI 0]⟩, ⟨155, [vI 0, vI 0, vI 0, vI 0, vI 0]⟩]⟩ [] [] (by kernel_rfl) on wn ?_
        refine l_nil (q_then_normal ?_)
        refine c_seq ?_
        refine c_seq ?_
        refine c_region ?_
        refine JL_run 2 [] [49, 10, 9, 8, 7, 6, 4, 2] 3 ⟨[(49, vB (!(decide (r1.2.2 = 0)))), (10, vI r1.2.2), (9, vS r1.2.1), (8, vI r1.1), (7, vI 0), (6, .p 2 0), (4, .p 1 0), (2, .p 0 0)], [⟨100, [vI 0, vI 0, vI 0, vI 0, vI 0, vI 0, vS emp, vS emp, vI 0]⟩, ⟨100, [vI ((s.data.getD 0 0).toNat : Int), vI ((s.data.getD 1 0).toNat : Int), vI 0, vI 0, vI 0, vI 0, vS emp, vS emp, vI 0]⟩, ⟨155, [vI 0, vI 0, vI 0, vI 0, vI 0]⟩]⟩ [] [] (by kernel_rfl) on wn ?_
        refine l_nil (q_then_normal ?_)
        cases h4 : decide (r1.2.2 = 0) with
        | true =>
          have h4 := of_decide_eq_true h4
          refine c_if false rfl ?_
          refine c_skip ?_
          refine q_then_normal ?_
          refine c_seq ?_
          refine c_region ?_
          refine JL_run 4 [(2, .idx default 0)] [9, 7, 6, 4, 2] 3 ⟨[(9, vS r1.2.1), (7, vI 0), (6, .p 2 0), (4, .p 1 0), (2, .p 0 0)], [⟨100, [vI 0, vI 0, vI 0, vI 0, vI 0, vI 0, vS emp, vS emp, vI 0]⟩, ⟨100, [vI ((s.data.getD 0 0).toNat : Int), vI ((s.data.getD 1 0).toNat : Int), vI 0, vI 0, vI 0, vI 0, vS emp, vS emp, vI 0]⟩, ⟨155, [vI r1.1, vI 0, vI 0, vI 0, vI 0]⟩]⟩ [(0 : Int) = ((0 : Nat) : Int), 0 < 5] [] (by kernel_rfl) (oc rfl (oc (by omega) on)) wn ?_
          refine l_nil (q_then_normal ?_)
          refine c_region ?_
          refine JL_run 2 [] [5, 7, 6, 4, 2] 3 ⟨[(5, vS r1.2.1), (7, vI 0), (6, .p 2 0), (4, .p 1 0), (2, .p 0 0)], [⟨100, [vI 0, vI 0, vI 0, vI 0, vI 0, vI 0, vS emp, vS emp, vI 0]⟩, ⟨100, [vI ((s.data.getD 0 0).toNat : Int), vI ((s.data.getD 1 0).toNat : Int), vI 0, vI 0, vI 0, vI 0, vS emp, vS emp, vI 0]⟩, ⟨155, [vI r1.1, vI 0, vI 0, vI 0, vI 0]⟩]⟩ [] [] (by kernel_rfl) on wn ?_
          refine l_nil (q_block_normal (q_then_normal ?_))
          refine c_region ?_
          refine JL_run 3 [] [7, 5, 6, 4, 2] 3 ⟨[(7, vI 1), (5, vS r1.2.1), (6, .p 2 0), (4, .p 1 0), (2, .p 0 0)], [⟨100, [vI 0, vI 0, vI 0, vI 0, vI 0, vI 0, vS emp, vS emp, vI 0]⟩, ⟨100, [vI ((s.data.getD 0 0).toNat : Int), vI ((s.data.getD 1 0).toNat : Int), vI 0, vI 0, vI 0, vI 0, vS emp, vS emp, vI 0]⟩, ⟨155, [vI r1.1, vI 0, vI 0, vI 0, vI 0]⟩]⟩ [inR (1)] [] (by kernel_rfl) (oc (by unfold inR; omega) on) wn ?_
          refine l_nil (q_round ?_)
          refine c_seq ?_
          refine c_seq ?_
          refine c_region ?_
          refine JL_run 2 [] [39, 7, 5, 6, 4, 2] 3 ⟨[(39, vB true), (7, vI 1), (5, vS r1.2.1), (6, .p 2 0), (4, .p 1 0), (2, .p 0 0)], [⟨100, [vI 0, vI 0, vI 0, vI 0, vI 0, vI 0, vS emp, vS emp, vI 0]⟩, ⟨100, [vI ((s.data.getD 0 0).toNat : Int), vI ((s.data.getD 1 0).toNat : Int), vI 0, vI 0, vI 0, vI 0, vS emp, vS emp, vI 0]⟩, ⟨155, [vI r1.1, vI 0, vI 0, vI 0, vI 0]⟩]⟩ [] [] (by kernel_rfl) on wn ?_
          refine l_nil (q_then_normal ?_)
          refine c_if true rfl ?_
          refine c_skip ?_
          refine q_then_normal ?_
          refine c_seq ?_
          refine c_block ?_
          refine c_seq ?_
          refine c_region ?_
          refine JL_run 1 [] [43, 7, 6, 4, 2] 3 ⟨[(43, vS r1.2.1), (7, vI 1), (6, .p 2 0), (4, .p 1 0), (2, .p 0 0)], [⟨100, [vI 0, vI 0, vI 0, vI 0, vI 0, vI 0, vS emp, vS emp, vI 0]⟩, ⟨100, [vI ((s.data.getD 0 0).toNat : Int), vI ((s.data.getD 1 0).toNat : Int), vI 0, vI 0, vI 0, vI 0, vS emp, vS emp, vI 0]⟩, ⟨155, [vI r1.1, vI 0, vI 0, vI 0, vI 0]⟩]⟩ [] [] (by kernel_rfl) on wn ?_
          refine l_pure 116 [] [vS r1.2.1] (.tuple #[.int .i64 ((mRead r1.2.1).1), .string ((mRead r1.2.1).2.1), .int .i64 ((mRead r1.2.1).2.2)]) Try.call116 rfl rfl rfl rfl (fun bs w hS => ref_NumberOf _ w (by first | assumption | omega | (simp only [emp_size]; omega))) ?_
          have hzr2 := mRead_bd r1.2.1
          generalize hr2 : mRead r1.2.1 = r2 at hzr2 ⊢
          refine JL_run 7 [] [10, 9, 8, 7, 6, 4, 2] 3 ⟨[(10, vI r2.2.2), (9, vS r2.2.1), (8, vI r2.1), (7, vI 1), (6, .p 2 0), (4, .p 1 0), (2, .p 0 0)], [⟨100, [vI 0, vI 0, vI 0, vI 0, vI 0, vI 0, vS emp, vS emp, vI 0]⟩, ⟨100, [vI ((s.data.getD 0 0).toNat : Int), vI ((s.data.getD 1 0).toNat : Int), vI 0, vI 0, vI 0, vI 0, vS emp, vS emp, vI 0]⟩, ⟨155, [vI r1.1, vI 0, vI 0, vI 0, vI 0]⟩]⟩ [] [] (by kernel_rfl) on wn ?_
          refine l_nil (q_then_normal ?_)
          refine c_seq ?_
          refine c_seq ?_
          refine c_region ?_
          refine JL_run 2 [] [49, 10, 9, 8, 7, 6, 4, 2] 3 ⟨[(49, vB (!(decide (r2.2.2 = 0)))), (10, vI r2.2.2), (9, vS r2.2.1), (8, vI r2.1), (7, vI 1), (6, .p 2 0), (4, .p 1 0), (2, .p 0 0)], [⟨100, [vI 0, vI 0, vI 0, vI 0, vI 0, vI 0, vS emp, vS emp, vI 0]⟩, ⟨100, [vI ((s.data.getD 0 0).toNat : Int), vI ((s.data.getD 1 0).toNat : Int), vI 0, vI 0, vI 0, vI 0, vS emp, vS emp, vI 0]⟩, ⟨155, [vI r1.1, vI 0, vI 0, vI 0, vI 0]⟩]⟩ [] [] (by kernel_rfl) on wn ?_
          refine l_nil (q_then_normal ?_)
          cases h5 : decide (r2.2.2 = 0) with
          | true =>
            have h5 := of_decide_eq_true h5
            refine c_if false rfl ?_
            refine c_skip ?_
            refine q_then_normal ?_
            refine c_seq ?_
            refine c_region ?_
            refine JL_run 4 [(2, .idx default 1)] [9, 7, 6, 4, 2] 3 ⟨[(9, vS r2.2.1), (7, vI 1), (6, .p 2 0), (4, .p 1 0), (2, .p 0 0)], [⟨100, [vI 0, vI 0, vI 0, vI 0, vI 0, vI 0, vS emp, vS emp, vI 0]⟩, ⟨100, [vI ((s.data.getD 0 0).toNat : Int), vI ((s.data.getD 1 0).toNat : Int), vI 0, vI 0, vI 0, vI 0, vS emp, vS emp, vI 0]⟩, ⟨155, [vI r1.1, vI r2.1, vI 0, vI 0, vI 0]⟩]⟩ [(1 : Int) = ((1 : Nat) : Int), 1 < 5] [] (by kernel_rfl) (oc rfl (oc (by omega) on)) wn ?_
            refine l_nil (q_then_normal ?_)
            refine c_region ?_
            refine JL_run 2 [] [5, 7, 6, 4, 2] 3 ⟨[(5, vS r2.2.1), (7, vI 1), (6, .p 2 0), (4, .p 1 0), (2, .p 0 0)], [⟨100, [vI 0, vI 0, vI 0, vI 0, vI 0, vI 0, vS emp, vS emp, vI 0]⟩, ⟨100, [vI ((s.data.getD 0 0).toNat : Int), vI ((s.data.getD 1 0).toNat : Int), vI 0, vI 0, vI 0, vI 0, vS emp, vS emp, vI 0]⟩, ⟨155, [vI r1.1, vI r2.1, vI 0, vI 0, vI 0]⟩]⟩ [] [] (by kernel_rfl) on wn ?_
            refine l_nil (q_block_normal (q_then_normal ?_))
            refine c_region ?_
            refine JL_run 3 [] [7, 5, 6, 4, 2] 3 ⟨[(7, vI 2), (5, vS r2.2.1), (6, .p 2 0), (4, .p 1 0), (2, .p 0 0)], [⟨100, [vI 0, vI 0, vI 0, vI 0, vI 0, vI 0, vS emp, vS emp, vI 0]⟩, ⟨100, [vI ((s.data.getD 0 0).toNat : Int), vI ((s.data.getD 1 0).toNat : Int), vI 0, vI 0, vI 0, vI 0, vS emp, vS emp, vI 0]⟩, ⟨155, [vI r1.1, vI r2.1, vI 0, vI 0, vI 0]⟩]⟩ [inR (2)] [] (by kernel_rfl) (oc (by unfold inR; omega) on) wn ?_
            refine l_nil (q_round ?_)
            refine c_seq ?_
            refine c_seq ?_
            refine c_region ?_
            refine JL_run 2 [] [39, 7, 5, 6, 4, 2] 3 ⟨[(39, vB true), (7, vI 2), (5, vS r2.2.1), (6, .p 2 0), (4, .p 1 0), (2, .p 0 0)], [⟨100, [vI 0, vI 0, vI 0, vI 0, vI 0, vI 0, vS emp, vS emp, vI 0]⟩, ⟨100, [vI ((s.data.getD 0 0).toNat : Int), vI ((s.data.getD 1 0).toNat : Int), vI 0, vI 0, vI 0, vI 0, vS emp, vS emp, vI 0]⟩, ⟨155, [vI r1.1, vI r2.1, vI 0, vI 0, vI 0]⟩]⟩ [] [] (by kernel_rfl) on wn ?_
            refine l_nil (q_then_normal ?_)
            refine c_if true rfl ?_
            refine c_skip ?_
            refine q_then_normal ?_
            refine c_seq ?_
            refine c_block ?_
            refine c_seq ?_
            refine c_region ?_
            refine JL_run 1 [] [43, 7, 6, 4, 2] 3 ⟨[(43, vS r2.2.1), (7, vI 2), (6, .p 2 0), (4, .p 1 0), (2, .p 0 0)], [⟨100, [vI 0, vI 0, vI 0, vI 0, vI 0, vI 0, vS emp, vS emp, vI 0]⟩, ⟨100, [vI ((s.data.getD 0 0).toNat : Int), vI ((s.data.getD 1 0).toNat : Int), vI 0, vI 0, vI 0, vI 0, vS emp, vS emp, vI 0]⟩, ⟨155, [vI r1.1, vI r2.1, vI 0, vI 0, vI 0]⟩]⟩ [] [] (by kernel_rfl) on wn ?_
            refine l_pure 116 [] [vS r2.2.1] (.tuple #[.int .i64 ((mRead r2.2.1).1), .string ((mRead r2.2.1).2.1), .int .i64 ((mRead r2.2.1).2.2)]) Try.call116 rfl rfl rfl rfl (fun bs w hS => ref_NumberOf _ w (by first | assumption | omega | (simp only [emp_size]; omega))) ?_
            have hzr3 := mRead_bd r2.2.1
            generalize hr3 : mRead r2.2.1 = r3 at hzr3 ⊢
            refine JL_run 7 [] [10, 9, 8, 7, 6, 4, 2] 3 ⟨[(10, vI r3.2.2), (9, vS r3.2.1), (8, vI r3.1), (7, vI 2), (6, .p 2 0), (4, .p 1 0), (2, .p 0 0)], [⟨100, [vI 0, vI 0, vI 0, vI 0, vI 0, vI 0, vS emp, vS emp, vI 0]⟩, ⟨100, [vI ((s.data.getD 0 0).toNat : Int), vI ((s.data.getD 1 0).toNat : Int), vI 0, vI 0, vI 0, vI 0, vS emp, vS emp, vI 0]⟩, ⟨155, [vI r1.1, vI r2.1, vI 0, vI 0, vI 0]⟩]⟩ [] [] (by kernel_rfl) on wn ?_
            refine l_nil (q_then_normal ?_)
            refine c_seq ?_
            refine c_seq ?_
            refine c_region ?_
            refine JL_run 2 [] [49, 10, 9, 8, 7, 6, 4, 2] 3 ⟨[(49, vB (!(decide (r3.2.2 = 0)))), (10, vI r3.2.2), (9, vS r3.2.1), (8, vI r3.1), (7, vI 2), (6, .p 2 0), (4, .p 1 0), (2, .p 0 0)], [⟨100, [vI 0, vI 0, vI 0, vI 0, vI 0, vI 0, vS emp, vS emp, vI 0]⟩, ⟨100, [vI ((s.data.getD 0 0).toNat : Int), vI ((s.data.getD 1 0).toNat : Int), vI 0, vI 0, vI 0, vI 0, vS emp, vS emp, vI 0]⟩, ⟨155, [vI r1.1, vI r2.1, vI 0, vI 0, vI 0]⟩]⟩ [] [] (by kernel_rfl) on wn ?_
            refine l_nil (q_then_normal ?_)
            cases h6 : decide (r3.2.2 = 0) with
            | true =>
              have h6 := of_decide_eq_true h6
              refine c_if false rfl ?_
              refine c_skip ?_
              refine q_then_normal ?_
              refine c_seq ?_
              refine c_region ?_
              refine JL_run 4 [(2, .idx default 2)] [9, 7, 6, 4, 2] 3 ⟨[(9, vS r3.2.1), (7, vI 2), (6, .p 2 0), (4, .p 1 0), (2, .p 0 0)], [⟨100, [vI 0, vI 0, vI 0, vI 0, vI 0, vI 0, vS emp, vS emp, vI 0]⟩, ⟨100, [vI ((s.data.getD 0 0).toNat : Int), vI ((s.data.getD 1 0).toNat : Int), vI 0, vI 0, vI 0, vI 0, vS emp, vS emp, vI 0]⟩, ⟨155, [vI r1.1, vI r2.1, vI r3.1, vI 0, vI 0]⟩]⟩ [(2 : Int) = ((2 : Nat) : Int), 2 < 5] [] (by kernel_rfl) (oc rfl (oc (by omega) on)) wn ?_
              refine l_nil (q_then_normal ?_)
              refine c_region ?_
              refine JL_run 2 [] [5, 7, 6, 4, 2] 3 ⟨[(5, vS r3.2.1), (7, vI 2), (6, .p 2 0), (4, .p 1 0), (2, .p 0 0)], [⟨100, [vI 0, vI 0, vI 0, vI 0, vI 0, vI 0, vS emp, vS emp, vI 0]⟩, ⟨100, [vI ((s.data.getD 0 0).toNat : Int), vI ((s.data.getD 1 0).toNat : Int), vI 0, vI 0, vI 0, vI 0, vS emp, vS emp, vI 0]⟩, ⟨155, [vI r1.1, vI r2.1, vI r3.1, vI 0, vI 0]⟩]⟩ [] [] (by kernel_rfl) on wn ?_
              refine l_nil (q_block_normal (q_then_normal ?_))
              refine c_region ?_
              refine JL_run 3 [] [7, 5, 6, 4, 2] 3 ⟨[(7, vI 3), (5, vS r3.2.1), (6, .p 2 0), (4, .p 1 0), (2, .p 0 0)], [⟨100, [vI 0, vI 0, vI 0, vI 0, vI 0, vI 0, vS emp, vS emp, vI 0]⟩, ⟨100, [vI ((s.data.getD 0 0).toNat : Int), vI ((s.data.getD 1 0).toNat : Int), vI 0, vI 0, vI 0, vI 0, vS emp, vS emp, vI 0]⟩, ⟨155, [vI r1.1, vI r2.1, vI r3.1, vI 0, vI 0]⟩]⟩ [inR (3)] [] (by kernel_rfl) (oc (by unfold inR; omega) on) wn ?_
              refine l_nil (q_round ?_)
              refine c_seq ?_
              refine c_seq ?_
              refine c_region ?_
              refine JL_run 2 [] [39, 7, 5, 6, 4, 2] 3 ⟨[(39, vB true), (7, vI 3), (5, vS r3.2.1), (6, .p 2 0), (4, .p 1 0), (2, .p 0 0)], [⟨100, [vI 0, vI 0, vI 0, vI 0, vI 0, vI 0, vS emp, vS emp, vI 0]⟩, ⟨100, [vI ((s.data.getD 0 0).toNat : Int), vI ((s.data.getD 1 0).toNat : Int), vI 0, vI 0, vI 0, vI 0, vS emp, vS emp, vI 0]⟩, ⟨155, [vI r1.1, vI r2.1, vI r3.1, vI 0, vI 0]⟩]⟩ [] [] (by kernel_rfl) on wn ?_
              refine l_nil (q_then_normal ?_)
              refine c_if true rfl ?_
              refine c_skip ?_
              refine q_then_normal ?_
              refine c_seq ?_
              refine c_block ?_
              refine c_seq ?_
              refine c_region ?_
              refine JL_run 1 [] [43, 7, 6, 4, 2] 3 ⟨[(43, vS r3.2.1), (7, vI 3), (6, .p 2 0), (4, .p 1 0), (2, .p 0 0)], [⟨100, [vI 0, vI 0, vI 0, vI 0, vI 0, vI 0, vS emp, vS emp, vI 0]⟩, ⟨100, [vI ((s.data.getD 0 0).toNat : Int), vI ((s.data.getD 1 0).toNat : Int), vI 0, vI 0, vI 0, vI 0, vS emp, vS emp, vI 0]⟩, ⟨155, [vI r1.1, vI r2.1, vI r3.1, vI 0, vI 0]⟩]⟩ [] [] (by kernel_rfl) on wn ?_
              refine l_pure 116 [] [vS r3.2.1] (.tuple #[.int .i64 ((mRead r3.2.1).1), .string ((mRead r3.2.1).2.1), .int .i64 ((mRead r3.2.1).2.2)]) Try.call116 rfl rfl rfl rfl (fun bs w hS => ref_NumberOf _ w (by first | assumption | omega | (simp only [emp_size]; omega))) ?_
              have hzr4 := mRead_bd r3.2.1
              generalize hr4 : mRead r3.2.1 = r4 at hzr4 ⊢
              refine JL_run 7 [] [10, 9, 8, 7, 6, 4, 2] 3 ⟨[(10, vI r4.2.2), (9, vS r4.2.1), (8, vI r4.1), (7, vI 3), (6, .p 2 0), (4, .p 1 0), (2, .p 0 0)], [⟨100, [vI 0, vI 0, vI 0, vI 0, vI 0, vI 0, vS emp, vS emp, vI 0]⟩, ⟨100, [vI ((s.data.getD 0 0).toNat : Int), vI ((s.data.getD 1 0).toNat : Int), vI 0, vI 0, vI 0, vI 0, vS emp, vS emp, vI 0]⟩, ⟨155, [vI r1.1, vI r2.1, vI r3.1, vI 0, vI 0]⟩]⟩ [] [] (by kernel_rfl) on wn ?_
              refine l_nil (q_then_normal ?_)
              refine c_seq ?_
              refine c_seq ?_
              refine c_region ?_
              refine JL_run 2 [] [49, 10, 9, 8, 7, 6, 4, 2] 3 ⟨[(49, vB (!(decide (r4.2.2 = 0)))), (10, vI r4.2.2), (9, vS r4.2.1), (8, vI r4.1), (7, vI 3), (6, .p 2 0), (4, .p 1 0), (2, .p 0 0)], [⟨100, [vI 0, vI 0, vI 0, vI 0, vI 0, vI 0, vS emp, vS emp, vI 0]⟩, ⟨100, [vI ((s.data.getD 0 0).toNat : Int), vI ((s.data.getD 1 0).toNat : Int), vI 0, vI 0, vI 0, vI 0, vS emp, vS emp, vI 0]⟩, ⟨155, [vI r1.1, vI r2.1, vI r3.1, vI 0, vI 0]⟩]⟩ [] [] (by kernel_rfl) on wn ?_
              refine l_nil (q_then_normal ?_)
              cases h7 : decide (r4.2.2 = 0) with
              | true =>
                have h7 := of_decide_eq_true h7
                refine c_if false rfl ?_
                refine c_skip ?_
                refine q_then_normal ?_
                refine c_seq ?_
                refine c_region ?_
                refine JL_run 4 [(2, .idx default 3)] [9, 7, 6, 4, 2] 3 ⟨[(9, vS r4.2.1), (7, vI 3), (6, .p 2 0), (4, .p 1 0), (2, .p 0 0)], [⟨100, [vI 0, vI 0, vI 0, vI 0, vI 0, vI 0, vS emp, vS emp, vI 0]⟩, ⟨100, [vI ((s.data.getD 0 0).toNat : Int), vI ((s.data.getD 1 0).toNat : Int), vI 0, vI 0, vI 0, vI 0, vS emp, vS emp, vI 0]⟩, ⟨155, [vI r1.1, vI r2.1, vI r3.1, vI r4.1, vI 0]⟩]⟩ [(3 : Int) = ((3 : Nat) : Int), 3 < 5] [] (by kernel_rfl) (oc rfl (oc (by omega) on)) wn ?_
                refine l_nil (q_then_normal ?_)
                refine c_region ?_
                refine JL_run 2 [] [5, 7, 6, 4, 2] 3 ⟨[(5, vS r4.2.1), (7, vI 3), (6, .p 2 0), (4, .p 1 0), (2, .p 0 0)], [⟨100, [vI 0, vI 0, vI 0, vI 0, vI 0, vI 0, vS emp, vS emp, vI 0]⟩, ⟨100, [vI ((s.data.getD 0 0).toNat : Int), vI ((s.data.getD 1 0).toNat : Int), vI 0, vI 0, vI 0, vI 0, vS emp, vS emp, vI 0]⟩, ⟨155, [vI r1.1, vI r2.1, vI r3.1, vI r4.1, vI 0]⟩]⟩ [] [] (by kernel_rfl) on wn ?_
                refine l_nil (q_block_normal (q_then_normal ?_))
                refine c_region ?_
                refine JL_run 3 [] [7, 5, 6, 4, 2] 3 ⟨[(7, vI 4), (5, vS r4.2.1), (6, .p 2 0), (4, .p 1 0), (2, .p 0 0)], [⟨100, [vI 0, vI 0, vI 0, vI 0, vI 0, vI 0, vS emp, vS emp, vI 0]⟩, ⟨100, [vI ((s.data.getD 0 0).toNat : Int), vI ((s.data.getD 1 0).toNat : Int), vI 0, vI 0, vI 0, vI 0, vS emp, vS emp, vI 0]⟩, ⟨155, [vI r1.1, vI r2.1, vI r3.1, vI r4.1, vI 0]⟩]⟩ [inR (4)] [] (by kernel_rfl) (oc (by unfold inR; omega) on) wn ?_
                refine l_nil (q_round ?_)
                refine c_seq ?_
                refine c_seq ?_
                refine c_region ?_
                refine JL_run 2 [] [39, 7, 5, 6, 4, 2] 3 ⟨[(39, vB true), (7, vI 4), (5, vS r4.2.1), (6, .p 2 0), (4, .p 1 0), (2, .p 0 0)], [⟨100, [vI 0, vI 0, vI 0, vI 0, vI 0, vI 0, vS emp, vS emp, vI 0]⟩, ⟨100, [vI ((s.data.getD 0 0).toNat : Int), vI ((s.data.getD 1 0).toNat : Int), vI 0, vI 0, vI 0, vI 0, vS emp, vS emp, vI 0]⟩, ⟨155, [vI r1.1, vI r2.1, vI r3.1, vI r4.1, vI 0]⟩]⟩ [] [] (by kernel_rfl) on wn ?_
                refine l_nil (q_then_normal ?_)
                refine c_if true rfl ?_
                refine c_skip ?_
                refine q_then_normal ?_
                refine c_seq ?_
                refine c_block ?_
                refine c_seq ?_
                refine c_region ?_
                refine JL_run 1 [] [43, 7, 6, 4, 2] 3 ⟨[(43, vS r4.2.1), (7, vI 4), (6, .p 2 0), (4, .p 1 0), (2, .p 0 0)], [⟨100, [vI 0, vI 0, vI 0, vI 0, vI 0, vI 0, vS emp, vS emp, vI 0]⟩, ⟨100, [vI ((s.data.getD 0 0).toNat : Int), vI ((s.data.getD 1 0).toNat : Int), vI 0, vI 0, vI 0, vI 0, vS emp, vS emp, vI 0]⟩, ⟨155, [vI r1.1, vI r2.1, vI r3.1, vI r4.1, vI 0]⟩]⟩ [] [] (by kernel_rfl) on wn ?_
                refine l_pure 116 [] [vS r4.2.1] (.tuple #[.int .i64 ((mRead r4.2.1).1), .string ((mRead r4.2.1).2.1), .int .i64 ((mRead r4.2.1).2.2)]) Try.call116 rfl rfl rfl rfl (fun bs w hS => ref_NumberOf _ w (by first | assumption | omega | (simp only [emp_size]; omega))) ?_
                have hzr5 := mRead_bd r4.2.1
                generalize hr5 : mRead r4.2.1 = r5 at hzr5 ⊢
                refine JL_run 7 [] [10, 9, 8, 7, 6, 4, 2] 3 ⟨[(10, vI r5.2.2), (9, vS r5.2.1), (8, vI r5.1), (7, vI 4), (6, .p 2 0), (4, .p 1 0), (2, .p 0 0)], [⟨100, [vI 0, vI 0, vI 0, vI 0, vI 0, vI 0, vS emp, vS emp, vI 0]⟩, ⟨100, [vI ((s.data.getD 0 0).toNat : Int), vI ((s.data.getD 1 0).toNat : Int), vI 0, vI 0, vI 0, vI 0, vS emp, vS emp, vI 0]⟩, ⟨155, [vI r1.1, vI r2.1, vI r3.1, vI r4.1, vI 0]⟩]⟩ [] [] (by kernel_rfl) on wn ?_
                refine l_nil (q_then_normal ?_)
                refine c_seq ?_
                refine c_seq ?_
                refine c_region ?_
                refine JL_run 2 [] [49, 10, 9, 8, 7, 6, 4, 2] 3 ⟨[(49, vB (!(decide (r5.2.2 = 0)))), (10, vI r5.2.2), (9, vS r5.2.1), (8, vI r5.1), (7, vI 4), (6, .p 2 0), (4, .p 1 0), (2, .p 0 0)], [⟨100, [vI 0, vI 0, vI 0, vI 0, vI 0, vI 0, vS emp, vS emp, vI 0]⟩, ⟨100, [vI ((s.data.getD 0 0).toNat : Int), vI ((s.data.getD 1 0).toNat : Int), vI 0, vI 0, vI 0, vI 0, vS emp, vS emp, vI 0]⟩, ⟨155, [vI r1.1, vI r2.1, vI r3.1, vI r4.1, vI 0]⟩]⟩ [] [] (by kernel_rfl) on wn ?_
                refine l_nil (q_then_normal ?_)
                cases h8 : decide (r5.2.2 = 0) with
                | true =>
                  have h8 := of_decide_eq_true h8
                  refine c_if false rfl ?_
                  refine c_skip ?_
                  refine q_then_normal ?_
                  refine c_seq ?_
                  refine c_region ?_
                  refine JL_run 4 [(2, .idx default 4)] [9, 7, 6, 4, 2] 3 ⟨[(9, vS r5.2.1), (7, vI 4), (6, .p 2 0), (4, .p 1 0), (2, .p 0 0)], [⟨100, [vI 0, vI 0, vI 0, vI 0, vI 0, vI 0, vS emp, vS emp, vI 0]⟩, ⟨100, [vI ((s.data.getD 0 0).toNat : Int), vI ((s.data.getD 1 0).toNat : Int), vI 0, vI 0, vI 0, vI 0, vS emp, vS emp, vI 0]⟩, ⟨155, [vI r1.1, vI r2.1, vI r3.1, vI r4.1, vI r5.1]⟩]⟩ [(4 : Int) = ((4 : Nat) : Int), 4 < 5] [] (by kernel_rfl) (oc rfl (oc (by omega) on)) wn ?_
                  refine l_nil (q_then_normal ?_)
                  refine c_region ?_
                  refine JL_run 2 [] [5, 7, 6, 4, 2] 3 ⟨[(5, vS r5.2.1), (7, vI 4), (6, .p 2 0), (4, .p 1 0), (2, .p 0 0)], [⟨100, [vI 0, vI 0, vI 0, vI 0, vI 0, vI 0, vS emp, vS emp, vI 0]⟩, ⟨100, [vI ((s.data.getD 0 0).toNat : Int), vI ((s.data.getD 1 0).toNat : Int), vI 0, vI 0, vI 0, vI 0, vS emp, vS emp, vI 0]⟩, ⟨155, [vI r1.1, vI r2.1, vI r3.1, vI r4.1, vI r5.1]⟩]⟩ [] [] (by kernel_rfl) on wn ?_
                  refine l_nil (q_block_normal (q_then_normal ?_))
                  refine c_region ?_
                  refine JL_run 3 [] [7, 5, 6, 4, 2] 3 ⟨[(7, vI 5), (5, vS r5.2.1), (6, .p 2 0), (4, .p 1 0), (2, .p 0 0)], [⟨100, [vI 0, vI 0, vI 0, vI 0, vI 0, vI 0, vS emp, vS emp, vI 0]⟩, ⟨100, [vI ((s.data.getD 0 0).toNat : Int), vI ((s.data.getD 1 0).toNat : Int), vI 0, vI 0, vI 0, vI 0, vS emp, vS emp, vI 0]⟩, ⟨155, [vI r1.1, vI r2.1, vI r3.1, vI r4.1, vI r5.1]⟩]⟩ [inR (5)] [] (by kernel_rfl) (oc (by unfold inR; omega) on) wn ?_
                  refine l_nil (q_round ?_)
                  refine c_seq ?_
                  refine c_seq ?_
                  refine c_region ?_
                  refine JL_run 2 [] [39, 7, 5, 6, 4, 2] 3 ⟨[(39, vB false), (7, vI 5), (5, vS r5.2.1), (6, .p 2 0), (4, .p 1 0), (2, .p 0 0)], [⟨100, [vI 0, vI 0, vI 0, vI 0, vI 0, vI 0, vS emp, vS emp, vI 0]⟩, ⟨100, [vI ((s.data.getD 0 0).toNat : Int), vI ((s.data.getD 1 0).toNat : Int), vI 0, vI 0, vI 0, vI 0, vS emp, vS emp, vI 0]⟩, ⟨155, [vI r1.1, vI r2.1, vI r3.1, vI r4.1, vI r5.1]⟩]⟩ [] [] (by kernel_rfl) on wn ?_
                  refine l_nil (q_then_normal ?_)
                  refine c_if false rfl ?_
                  refine c_exit ?_
                  refine q_then_exit (q_then_exit (q_block_hit (q_then_normal ?_)))
                  refine c_seq ?_
                  refine c_region ?_
                  refine JL_run 4 [(0, .idx default 0)] [5, 6, 4, 2] 3 ⟨[(5, vS r5.2.1), (6, .p 2 0), (4, .p 1 0), (2, .p 0 0)], [⟨100, [vI 0, vI 0, vI 0, vI 0, vI 0, vI 0, vS emp, vS emp, vI 0]⟩, ⟨100, [vI ((s.data.getD 0 0).toNat : Int), vI ((s.data.getD 1 0).toNat : Int), vI r1.1, vI 0, vI 0, vI 0, vS emp, vS emp, vI 0]⟩, ⟨155, [vI r1.1, vI r2.1, vI r3.1, vI r4.1, vI r5.1]⟩]⟩ [(0 : Int) = ((0 : Nat) : Int), 0 < 5] [] (by kernel_rfl) (oc rfl (oc (by omega) on)) wn ?_
                  refine l_nil (q_then_normal ?_)
                  refine c_seq ?_
                  refine c_region ?_
                  refine JL_run 4 [(0, .idx default 1)] [5, 6, 4, 2] 3 ⟨[(5, vS r5.2.1), (6, .p 2 0), (4, .p 1 0), (2, .p 0 0)], [⟨100, [vI 0, vI 0, vI 0, vI 0, vI 0, vI 0, vS emp, vS emp, vI 0]⟩, ⟨100, [vI ((s.data.getD 0 0).toNat : Int), vI ((s.data.getD 1 0).toNat : Int), vI r1.1, vI r2.1, vI 0, vI 0, vS emp, vS emp, vI 0]⟩, ⟨155, [vI r1.1, vI r2.1, vI r3.1, vI r4.1, vI r5.1]⟩]⟩ [(1 : Int) = ((1 : Nat) : Int), 1 < 5] [] (by kernel_rfl) (oc rfl (oc (by omega) on)) wn ?_
                  refine l_nil (q_then_normal ?_)
                  refine c_seq ?_
                  refine c_region ?_
                  refine JL_run 4 [(0, .idx default 2)] [5, 6, 4, 2] 3 ⟨[(5, vS r5.2.1), (6, .p 2 0), (4, .p 1 0), (2, .p 0 0)], [⟨100, [vI 0, vI 0, vI 0, vI 0, vI 0, vI 0, vS emp, vS emp, vI 0]⟩, ⟨100, [vI ((s.data.getD 0 0).toNat : Int), vI ((s.data.getD 1 0).toNat : Int), vI r1.1, vI r2.1, vI r3.1, vI 0, vS emp, vS emp, vI 0]⟩, ⟨155, [vI r1.1, vI r2.1, vI r3.1, vI r4.1, vI r5.1]⟩]⟩ [(2 : Int) = ((2 : Nat) : Int), 2 < 5] [] (by kernel_rfl) (oc rfl (oc (by omega) on)) wn ?_
                  refine l_nil (q_then_normal ?_)
                  refine c_seq ?_
                  refine c_region ?_
                  refine JL_run 5 [(0, .idx default 3)] [5, 6, 4, 2] 3 ⟨[(5, vS r5.2.1), (6, .p 2 0), (4, .p 1 0), (2, .p 0 0)], [⟨100, [vI 0, vI 0, vI 0, vI 0, vI 0, vI 0, vS emp, vS emp, vI 0]⟩, ⟨100, [vI ((s.data.getD 0 0).toNat : Int), vI ((s.data.getD 1 0).toNat : Int), vI r1.1, vI r2.1, vI r3.1, vI r4.1, vS emp, vS emp, vI 0]⟩, ⟨155, [vI r1.1, vI r2.1, vI r3.1, vI r4.1, vI r5.1]⟩]⟩ [(3 : Int) = ((3 : Nat) : Int), 3 < 5] [] (by kernel_rfl) (oc rfl (oc (by omega) on)) wn ?_
                  refine l_nil (q_then_normal ?_)
                  refine c_seq ?_
                  refine c_region ?_
                  refine JL_run 5 [(0, .idx default 4)] [5, 4, 2] 2 ⟨[(5, vS r5.2.1), (4, .p 1 0), (2, .p 0 0)], [⟨100, [vI 0, vI 0, vI 0, vI 0, vI 0, vI 0, vS emp, vS emp, vI 0]⟩, ⟨100, [vI ((s.data.getD 0 0).toNat : Int), vI ((s.data.getD 1 0).toNat : Int), vI r1.1, vI r2.1, vI r3.1, vI r4.1, vS emp, vS emp, vI r5.1]⟩]⟩ [(4 : Int) = ((4 : Nat) : Int), 4 < 5] [] (by kernel_rfl) (oc rfl (oc (by omega) on)) wn ?_
                  refine l_nil (q_then_normal ?_)
                  refine c_seq ?_
                  refine c_region ?_
                  refine JL_run 1 [] [74, 4, 2] 2 ⟨[(74, vS r5.2.1), (4, .p 1 0), (2, .p 0 0)], [⟨100, [vI 0, vI 0, vI 0, vI 0, vI 0, vI 0, vS emp, vS emp, vI 0]⟩, ⟨100, [vI ((s.data.getD 0 0).toNat : Int), vI ((s.data.getD 1 0).toNat : Int), vI r1.1, vI r2.1, vI r3.1, vI r4.1, vS emp, vS emp, vI r5.1]⟩]⟩ [] [] (by kernel_rfl) on wn ?_
                  refine l_pure 117 [] [vS r5.2.1] (.tuple #[.string ((mTell r5.2.1).1), .string ((mTell r5.2.1).2.1), .int .i64 ((mTell r5.2.1).2.2)]) Try.call117 rfl rfl rfl rfl (fun bs w hS => ref_TextOf _ w (by first | assumption | omega | (simp only [emp_size]; omega))) ?_
                  have hzr6 := mTell_bd r5.2.1
                  generalize hr6 : mTell r5.2.1 = r6 at hzr6 ⊢
                  refine JL_run 7 [] [13, 12, 11, 4, 2] 2 ⟨[(13, vI r6.2.2), (12, vS r6.2.1), (11, vS r6.1), (4, .p 1 0), (2, .p 0 0)], [⟨100, [vI 0, vI 0, vI 0, vI 0, vI 0, vI 0, vS emp, vS emp, vI 0]⟩, ⟨100, [vI ((s.data.getD 0 0).toNat : Int), vI ((s.data.getD 1 0).toNat : Int), vI r1.1, vI r2.1, vI r3.1, vI r4.1, vS emp, vS emp, vI r5.1]⟩]⟩ [] [] (by kernel_rfl) on wn ?_
                  refine l_nil (q_then_normal ?_)
                  refine c_seq ?_
                  refine c_seq ?_
                  refine c_region ?_
                  refine JL_run 2 [] [80, 13, 12, 11, 4, 2] 2 ⟨[(80, vB (!(decide (r6.2.2 = 0)))), (13, vI r6.2.2), (12, vS r6.2.1), (11, vS r6.1), (4, .p 1 0), (2, .p 0 0)], [⟨100, [vI 0, vI 0, vI 0, vI 0, vI 0, vI 0, vS emp, vS emp, vI 0]⟩, ⟨100, [vI ((s.data.getD 0 0).toNat : Int), vI ((s.data.getD 1 0).toNat : Int), vI r1.1, vI r2.1, vI r3.1, vI r4.1, vS emp, vS emp, vI r5.1]⟩]⟩ [] [] (by kernel_rfl) on wn ?_
                  refine l_nil (q_then_normal ?_)
                  cases h9 : decide (r6.2.2 = 0) with
                  | true =>
                    have h9 := of_decide_eq_true h9
                    refine c_if false rfl ?_
                    refine c_skip ?_
                    refine q_then_normal ?_
                    refine c_seq ?_
                    refine c_region ?_
                    refine JL_run 1 [] [84, 11, 4, 2] 2 ⟨[(84, vS r6.2.1), (11, vS r6.1), (4, .p 1 0), (2, .p 0 0)], [⟨100, [vI 0, vI 0, vI 0, vI 0, vI 0, vI 0, vS emp, vS emp, vI 0]⟩, ⟨100, [vI ((s.data.getD 0 0).toNat : Int), vI ((s.data.getD 1 0).toNat : Int), vI r1.1, vI r2.1, vI r3.1, vI r4.1, vS emp, vS emp, vI r5.1]⟩]⟩ [] [] (by kernel_rfl) on wn ?_
                    refine l_pure 117 [] [vS r6.2.1] (.tuple #[.string ((mTell r6.2.1).1), .string ((mTell r6.2.1).2.1), .int .i64 ((mTell r6.2.1).2.2)]) Try.call117 rfl rfl rfl rfl (fun bs w hS => ref_TextOf _ w (by first | assumption | omega | (simp only [emp_size]; omega))) ?_
                    have hzr7 := mTell_bd r6.2.1
                    generalize hr7 : mTell r6.2.1 = r7 at hzr7 ⊢
                    refine JL_run 7 [] [16, 15, 14, 11, 4, 2] 2 ⟨[(16, vI r7.2.2), (15, vS r7.2.1), (14, vS r7.1), (11, vS r6.1), (4, .p 1 0), (2, .p 0 0)], [⟨100, [vI 0, vI 0, vI 0, vI 0, vI 0, vI 0, vS emp, vS emp, vI 0]⟩, ⟨100, [vI ((s.data.getD 0 0).toNat : Int), vI ((s.data.getD 1 0).toNat : Int), vI r1.1, vI r2.1, vI r3.1, vI r4.1, vS emp, vS emp, vI r5.1]⟩]⟩ [] [] (by kernel_rfl) on wn ?_
                    refine l_nil (q_then_normal ?_)
                    refine c_seq ?_
                    refine c_seq ?_
                    refine c_region ?_
                    refine JL_run 2 [] [90, 16, 15, 14, 11, 4, 2] 2 ⟨[(90, vB (!(decide (r7.2.2 = 0)))), (16, vI r7.2.2), (15, vS r7.2.1), (14, vS r7.1), (11, vS r6.1), (4, .p 1 0), (2, .p 0 0)], [⟨100, [vI 0, vI 0, vI 0, vI 0, vI 0, vI 0, vS emp, vS emp, vI 0]⟩, ⟨100, [vI ((s.data.getD 0 0).toNat : Int), vI ((s.data.getD 1 0).toNat : Int), vI r1.1, vI r2.1, vI r3.1, vI r4.1, vS emp, vS emp, vI r5.1]⟩]⟩ [] [] (by kernel_rfl) on wn ?_
                    refine l_nil (q_then_normal ?_)
                    cases h10 : decide (r7.2.2 = 0) with
                    | true =>
                      have h10 := of_decide_eq_true h10
                      refine c_if false rfl ?_
                      refine c_skip ?_
                      refine q_then_normal ?_
                      refine c_seq ?_
                      refine c_region ?_
                      refine JL_run 4 [] [15, 14, 4, 2] 2 ⟨[(15, vS r7.2.1), (14, vS r7.1), (4, .p 1 0), (2, .p 0 0)], [⟨100, [vI 0, vI 0, vI 0, vI 0, vI 0, vI 0, vS emp, vS emp, vI 0]⟩, ⟨100, [vI ((s.data.getD 0 0).toNat : Int), vI ((s.data.getD 1 0).toNat : Int), vI r1.1, vI r2.1, vI r3.1, vI r4.1, vS r6.1, vS emp, vI r5.1]⟩]⟩ [] [] (by kernel_rfl) on wn ?_
                      refine l_nil (q_then_normal ?_)
                      refine c_seq ?_
                      refine c_region ?_
                      refine JL_run 4 [] [15, 4, 2] 2 ⟨[(15, vS r7.2.1), (4, .p 1 0), (2, .p 0 0)], [⟨100, [vI 0, vI 0, vI 0, vI 0, vI 0, vI 0, vS emp, vS emp, vI 0]⟩, ⟨100, [vI ((s.data.getD 0 0).toNat : Int), vI ((s.data.getD 1 0).toNat : Int), vI r1.1, vI r2.1, vI r3.1, vI r4.1, vS r6.1, vS r7.1, vI r5.1]⟩]⟩ [] [] (by kernel_rfl) on wn ?_
                      refine l_nil (q_then_normal ?_)
                      refine c_region ?_
                      refine JL_run 2 [] [5, 4, 2] 2 ⟨[(5, vS r7.2.1), (4, .p 1 0), (2, .p 0 0)], [⟨100, [vI 0, vI 0, vI 0, vI 0, vI 0, vI 0, vS emp, vS emp, vI 0]⟩, ⟨100, [vI ((s.data.getD 0 0).toNat : Int), vI ((s.data.getD 1 0).toNat : Int), vI r1.1, vI r2.1, vI r3.1, vI r4.1, vS r6.1, vS r7.1, vI r5.1]⟩]⟩ [] [] (by kernel_rfl) on wn ?_
                      refine l_nil (q_then_normal ?_)
                      refine c_seq ?_
                      refine c_seq ?_
                      refine c_region ?_
                      refine JL_run 2 [] [101, 4, 2] 2 ⟨[(101, vB (!(decide (r7.2.1 = emp)))), (4, .p 1 0), (2, .p 0 0)], [⟨100, [vI 0, vI 0, vI 0, vI 0, vI 0, vI 0, vS emp, vS emp, vI 0]⟩, ⟨100, [vI ((s.data.getD 0 0).toNat : Int), vI ((s.data.getD 1 0).toNat : Int), vI r1.1, vI r2.1, vI r3.1, vI r4.1, vS r6.1, vS r7.1, vI r5.1]⟩]⟩ [] [] (by kernel_rfl) on wn ?_
                      refine l_nil (q_then_normal ?_)
                      cases h11 : decide (r7.2.1 = emp) with
                      | true =>
                        have h11 := of_decide_eq_true h11
                        have hzh11 : r7.2.1.size = 0 := by rw [h11]; rfl
                        refine c_if false rfl ?_
                        refine c_skip ?_
                        refine q_then_normal ?_
                        refine c_seq ?_
                        refine c_region ?_
                        refine JL_run 1 [] [103, 4, 2] 2 ⟨[(103, .v (.agg #[.int .i64 ((s.data.getD 0 0).toNat : Int), .int .i64 ((s.data.getD 1 0).toNat : Int), .int .i64 r1.1, .int .i64 r2.1, .int .i64 r3.1, .int .i64 r4.1, .string r6.1, .string r7.1, .int .i64 r5.1])), (4, .p 1 0), (2, .p 0 0)], [⟨100, [vI 0, vI 0, vI 0, vI 0, vI 0, vI 0, vS emp, vS emp, vI 0]⟩, ⟨100, [vI ((s.data.getD 0 0).toNat : Int), vI ((s.data.getD 1 0).toNat : Int), vI r1.1, vI r2.1, vI r3.1, vI r4.1, vS r6.1, vS r7.1, vI r5.1]⟩]⟩ [] [] (by kernel_rfl) on wn ?_
                        refine l_pure 118 [] [.v (.agg #[.int .i64 ((s.data.getD 0 0).toNat : Int), .int .i64 ((s.data.getD 1 0).toNat : Int), .int .i64 r1.1, .int .i64 r2.1, .int .i64 r3.1, .int .i64 r4.1, .string r6.1, .string r7.1, .int .i64 r5.1])] (.int .i64 (mCmd (⟨((s.data.getD 0 0).toNat : Int), ((s.data.getD 1 0).toNat : Int), r1.1, r2.1, r3.1, ⟨r4.1, r6.1, r7.1, r5.1⟩⟩ : DCommand))) Try.call118 rfl rfl rfl rfl (fun bs w hS => ref_CommandFault (B := anyB) (⟨((s.data.getD 0 0).toNat : Int), ((s.data.getD 1 0).toNat : Int), r1.1, r2.1, r3.1, ⟨r4.1, r6.1, r7.1, r5.1⟩⟩ : DCommand) w ⟨(show r6.1.size ≤ 9223372036854775807 from (by first | assumption | omega | (simp only [emp_size]; omega))), (show r7.1.size ≤ 9223372036854775807 from (by first | assumption | omega | (simp only [emp_size]; omega)))⟩) ?_
                        refine JL_run 1 [] [17, 4, 2] 2 ⟨[(17, vI (mCmd (⟨((s.data.getD 0 0).toNat : Int), ((s.data.getD 1 0).toNat : Int), r1.1, r2.1, r3.1, ⟨r4.1, r6.1, r7.1, r5.1⟩⟩ : DCommand))), (4, .p 1 0), (2, .p 0 0)], [⟨100, [vI 0, vI 0, vI 0, vI 0, vI 0, vI 0, vS emp, vS emp, vI 0]⟩, ⟨100, [vI ((s.data.getD 0 0).toNat : Int), vI ((s.data.getD 1 0).toNat : Int), vI r1.1, vI r2.1, vI r3.1, vI r4.1, vS r6.1, vS r7.1, vI r5.1]⟩]⟩ [] [] (by kernel_rfl) on wn ?_
                        refine l_nil (q_then_normal ?_)
                        refine c_seq ?_
                        refine c_seq ?_
                        refine c_region ?_
                        refine JL_run 2 [] [106, 17, 4, 2] 2 ⟨[(106, vB (!(decide (mCmd (⟨((s.data.getD 0 0).toNat : Int), ((s.data.getD 1 0).toNat : Int), r1.1, r2.1, r3.1, ⟨r4.1, r6.1, r7.1, r5.1⟩⟩ : DCommand) = 0)))), (17, vI (mCmd (⟨((s.data.getD 0 0).toNat : Int), ((s.data.getD 1 0).toNat : Int), r1.1, r2.1, r3.1, ⟨r4.1, r6.1, r7.1, r5.1⟩⟩ : DCommand))), (4, .p 1 0), (2, .p 0 0)], [⟨100, [vI 0, vI 0, vI 0, vI 0, vI 0, vI 0, vS emp, vS emp, vI 0]⟩, ⟨100, [vI ((s.data.getD 0 0).toNat : Int), vI ((s.data.getD 1 0).toNat : Int), vI r1.1, vI r2.1, vI r3.1, vI r4.1, vS r6.1, vS r7.1, vI r5.1]⟩]⟩ [] [] (by kernel_rfl) on wn ?_
                        refine l_nil (q_then_normal ?_)
                        cases h12 : decide (mCmd (⟨((s.data.getD 0 0).toNat : Int), ((s.data.getD 1 0).toNat : Int), r1.1, r2.1, r3.1, ⟨r4.1, r6.1, r7.1, r5.1⟩⟩ : DCommand) = 0) with
                        | true =>
                          have h12 := of_decide_eq_true h12
                          refine c_if false rfl ?_
                          refine c_skip ?_
                          refine q_then_normal ?_
                          refine c_seq ?_
                          refine c_region ?_
                          refine JL_run 3 [] [3, 2] 1 ⟨[(3, vI 0), (2, .p 0 0)], [⟨100, [vI ((s.data.getD 0 0).toNat : Int), vI ((s.data.getD 1 0).toNat : Int), vI r1.1, vI r2.1, vI r3.1, vI r4.1, vS r6.1, vS r7.1, vI r5.1]⟩]⟩ [] [] (by kernel_rfl) on wn ?_
                          refine l_nil (q_then_normal ?_)
                          refine c_ret ?_
                          refine q_ret (.inl rfl) [.v (.agg #[.int .i64 ((s.data.getD 0 0).toNat : Int), .int .i64 ((s.data.getD 1 0).toNat : Int), .int .i64 r1.1, .int .i64 r2.1, .int .i64 r3.1, .int .i64 r4.1, .string r6.1, .string r7.1, .int .i64 r5.1]), vI 0] rfl (fun bs w hS => ?_)
                          refine ⟨?_, hS.kp⟩
                          have hm : mDecode s = ((⟨((s.data.getD 0 0).toNat : Int), ((s.data.getD 1 0).toNat : Int), r1.1, r2.1, r3.1, ⟨r4.1, r6.1, r7.1, r5.1⟩⟩ : DCommand), 0) := by
                            have hk : (cmd0 s).kind = ((s.data.getD 0 0).toNat : Int) := rfl
                            unfold mDecode
                            repeat (first | rw [if_pos (by omega)] | rw [if_neg (by omega)])
                            all_goals (simp only [mFin, mBody, cmd0, zOp, hr1, hr2, hr3, hr4, hr5, hr6, hr7, h4, h5, h6, h7, h8, h9, h10, h11, h12, ne_eq, not_true_eq_false, not_false_eq_true, if_true, if_false, reduceIte]; try rfl)
                          rw [hm]
                          rfl
                        | false =>
                          have h12 := of_decide_eq_false h12
                          refine c_if true rfl ?_
                          refine c_seq ?_
                          refine c_region ?_
                          refine JL_run 4 [] [3, 2] 1 ⟨[(3, vI (mCmd (⟨((s.data.getD 0 0).toNat : Int), ((s.data.getD 1 0).toNat : Int), r1.1, r2.1, r3.1, ⟨r4.1, r6.1, r7.1, r5.1⟩⟩ : DCommand))), (2, .p 0 0)], [⟨100, [vI 0, vI 0, vI 0, vI 0, vI 0, vI 0, vS emp, vS emp, vI 0]⟩]⟩ [] [] (by kernel_rfl) on wn ?_
                          refine l_nil (q_then_normal ?_)
                          refine c_ret ?_
                          refine q_then_ret (q_ret (.inl rfl) [.v (.agg #[.int .i64 0, .int .i64 0, .int .i64 0, .int .i64 0, .int .i64 0, .int .i64 0, .string emp, .string emp, .int .i64 0]), vI (mCmd (⟨((s.data.getD 0 0).toNat : Int), ((s.data.getD 1 0).toNat : Int), r1.1, r2.1, r3.1, ⟨r4.1, r6.1, r7.1, r5.1⟩⟩ : DCommand))] rfl (fun bs w hS => ?_))
                          refine ⟨?_, hS.kp⟩
                          have hm : mDecode s = ((⟨0, 0, 0, 0, 0, ⟨0, emp, emp, 0⟩⟩ : DCommand), mCmd (⟨((s.data.getD 0 0).toNat : Int), ((s.data.getD 1 0).toNat : Int), r1.1, r2.1, r3.1, ⟨r4.1, r6.1, r7.1, r5.1⟩⟩ : DCommand)) := by
                            have hk : (cmd0 s).kind = ((s.data.getD 0 0).toNat : Int) := rfl
                            unfold mDecode
                            repeat (first | rw [if_pos (by omega)] | rw [if_neg (by omega)])
                            all_goals (simp only [mFin, mBody, cmd0, zOp, hr1, hr2, hr3, hr4, hr5, hr6, hr7, h4, h5, h6, h7, h8, h9, h10, h11, h12, ne_eq, not_true_eq_false, not_false_eq_true, if_true, if_false, reduceIte]; try rfl)
                          rw [hm]
                          rfl
                      | false =>
                        have h11 := of_decide_eq_false h11
                        refine c_if true rfl ?_
                        refine c_seq ?_
                        refine c_region ?_
                        refine JL_run 3 [] [3, 2] 1 ⟨[(3, vI 4), (2, .p 0 0)], [⟨100, [vI 0, vI 0, vI 0, vI 0, vI 0, vI 0, vS emp, vS emp, vI 0]⟩]⟩ [] [] (by kernel_rfl) on wn ?_
                        refine l_nil (q_then_normal ?_)
                        refine c_ret ?_
                        refine q_then_ret (q_ret (.inl rfl) [.v (.agg #[.int .i64 0, .int .i64 0, .int .i64 0, .int .i64 0, .int .i64 0, .int .i64 0, .string emp, .string emp, .int .i64 0]), vI 4] rfl (fun bs w hS => ?_))
                        refine ⟨?_, hS.kp⟩
                        have hm : mDecode s = ((⟨0, 0, 0, 0, 0, ⟨0, emp, emp, 0⟩⟩ : DCommand), 4) := by
                          have hk : (cmd0 s).kind = ((s.data.getD 0 0).toNat : Int) := rfl
                          unfold mDecode
                          repeat (first | rw [if_pos (by omega)] | rw [if_neg (by omega)])
                          all_goals (simp only [mFin, mBody, cmd0, zOp, hr1, hr2, hr3, hr4, hr5, hr6, hr7, h4, h5, h6, h7, h8, h9, h10, h11, ne_eq, not_true_eq_false, not_false_eq_true, if_true, if_false, reduceIte]; try rfl)
                        rw [hm]
                        rfl
                    | false =>
                      have h10 := of_decide_eq_false h10
                      refine c_if true rfl ?_
                      refine c_seq ?_
                      refine c_region ?_
                      refine JL_run 4 [] [3, 2] 1 ⟨[(3, vI r7.2.2), (2, .p 0 0)], [⟨100, [vI 0, vI 0, vI 0, vI 0, vI 0, vI 0, vS emp, vS emp, vI 0]⟩]⟩ [] [] (by kernel_rfl) on wn ?_
                      refine l_nil (q_then_normal ?_)
                      refine c_ret ?_
                      refine q_then_ret (q_then_ret (q_ret (.inl rfl) [.v (.agg #[.int .i64 0, .int .i64 0, .int .i64 0, .int .i64 0, .int .i64 0, .int .i64 0, .string emp, .string emp, .int .i64 0]), vI r7.2.2] rfl (fun bs w hS => ?_)))
                      refine ⟨?_, hS.kp⟩
                      have hm : mDecode s = ((⟨0, 0, 0, 0, 0, ⟨0, emp, emp, 0⟩⟩ : DCommand), r7.2.2) := by
                        have hk : (cmd0 s).kind = ((s.data.getD 0 0).toNat : Int) := rfl
                        unfold mDecode
                        repeat (first | rw [if_pos (by omega)] | rw [if_neg (by omega)])
                        all_goals (simp only [mFin, mBody, cmd0, zOp, hr1, hr2, hr3, hr4, hr5, hr6, hr7, h4, h5, h6, h7, h8, h9, h10, ne_eq, not_true_eq_false, not_false_eq_true, if_true, if_false, reduceIte]; try rfl)
                      rw [hm]
                      rfl
                  | false =>
                    have h9 := of_decide_eq_false h9
                    refine c_if true rfl ?_
                    refine c_seq ?_
                    refine c_region ?_
                    refine JL_run 4 [] [3, 2] 1 ⟨[(3, vI r6.2.2), (2, .p 0 0)], [⟨100, [vI 0, vI 0, vI 0, vI 0, vI 0, vI 0, vS emp, vS emp, vI 0]⟩]⟩ [] [] (by kernel_rfl) on wn ?_
                    refine l_nil (q_then_normal ?_)
                    refine c_ret ?_
                    refine q_then_ret (q_then_ret (q_ret (.inl rfl) [.v (.agg #[.int .i64 0, .int .i64 0, .int .i64 0, .int .i64 0, .int .i64 0, .int .i64 0, .string emp, .string emp, .int .i64 0]), vI r6.2.2] rfl (fun bs w hS => ?_)))
                    refine ⟨?_, hS.kp⟩
                    have hm : mDecode s = ((⟨0, 0, 0, 0, 0, ⟨0, emp, emp, 0⟩⟩ : DCommand), r6.2.2) := by
                      have hk : (cmd0 s).kind = ((s.data.getD 0 0).toNat : Int) := rfl
                      unfold mDecode
                      repeat (first | rw [if_pos (by omega)] | rw [if_neg (by omega)])
                      all_goals (simp only [mFin, mBody, cmd0, zOp, hr1, hr2, hr3, hr4, hr5, hr6, h4, h5, h6, h7, h8, h9, ne_eq, not_true_eq_false, not_false_eq_true, if_true, if_false, reduceIte]; try rfl)
                    rw [hm]
                    rfl
                | false =>
                  have h8 := of_decide_eq_false h8
                  refine c_if true rfl ?_
                  refine c_seq ?_
                  refine c_region ?_
                  refine JL_run 4 [] [3, 2] 1 ⟨[(3, vI r5.2.2), (2, .p 0 0)], [⟨100, [vI 0, vI 0, vI 0, vI 0, vI 0, vI 0, vS emp, vS emp, vI 0]⟩]⟩ [] [] (by kernel_rfl) on wn ?_
                  refine l_nil (q_then_normal ?_)
                  refine c_ret ?_
                  refine q_then_ret (q_block_ret (q_then_ret (q_then_ret (q_block_ret (q_then_ret (q_then_ret (q_ret (.inl rfl) [.v (.agg #[.int .i64 0, .int .i64 0, .int .i64 0, .int .i64 0, .int .i64 0, .int .i64 0, .string emp, .string emp, .int .i64 0]), vI r5.2.2] rfl (fun bs w hS => ?_))))))))
                  refine ⟨?_, hS.kp⟩
                  have hm : mDecode s = ((⟨0, 0, 0, 0, 0, ⟨0, emp, emp, 0⟩⟩ : DCommand), r5.2.2) := by
                    have hk : (cmd0 s).kind = ((s.data.getD 0 0).toNat : Int) := rfl
                    unfold mDecode
                    repeat (first | rw [if_pos (by omega)] | rw [if_neg (by omega)])
                    all_goals (simp only [mFin, mBody, cmd0, zOp, hr1, hr2, hr3, hr4, hr5, h4, h5, h6, h7, h8, ne_eq, not_true_eq_false, not_false_eq_true, if_true, if_false, reduceIte]; try rfl)
                  rw [hm]
                  rfl
              | false =>
                have h7 := of_decide_eq_false h7
                refine c_if true rfl ?_
                refine c_seq ?_
                refine c_region ?_
                refine JL_run 4 [] [3, 2] 1 ⟨[(3, vI r4.2.2), (2, .p 0 0)], [⟨100, [vI 0, vI 0, vI 0, vI 0, vI 0, vI 0, vS emp, vS emp, vI 0]⟩]⟩ [] [] (by kernel_rfl) on wn ?_
                refine l_nil (q_then_normal ?_)
                refine c_ret ?_
                refine q_then_ret (q_block_ret (q_then_ret (q_then_ret (q_block_ret (q_then_ret (q_then_ret (q_ret (.inl rfl) [.v (.agg #[.int .i64 0, .int .i64 0, .int .i64 0, .int .i64 0, .int .i64 0, .int .i64 0, .string emp, .string emp, .int .i64 0]), vI r4.2.2] rfl (fun bs w hS => ?_))))))))
                refine ⟨?_, hS.kp⟩
                have hm : mDecode s = ((⟨0, 0, 0, 0, 0, ⟨0, emp, emp, 0⟩⟩ : DCommand), r4.2.2) := by
                  have hk : (cmd0 s).kind = ((s.data.getD 0 0).toNat : Int) := rfl
                  unfold mDecode
                  repeat (first | rw [if_pos (by omega)] | rw [if_neg (by omega)])
                  all_goals (simp only [mFin, mBody, cmd0, zOp, hr1, hr2, hr3, hr4, h4, h5, h6, h7, ne_eq, not_true_eq_false, not_false_eq_true, if_true, if_false, reduceIte]; try rfl)
                rw [hm]
                rfl
            | false =>
              have h6 := of_decide_eq_false h6
              refine c_if true rfl ?_
              refine c_seq ?_
              refine c_region ?_
              refine JL_run 4 [] [3, 2] 1 ⟨[(3, vI r3.2.2), (2, .p 0 0)], [⟨100, [vI 0, vI 0, vI 0, vI 0, vI 0, vI 0, vS emp, vS emp, vI 0]⟩]⟩ [] [] (by kernel_rfl) on wn ?_
              refine l_nil (q_then_normal ?_)
              refine c_ret ?_
              refine q_then_ret (q_block_ret (q_then_ret (q_then_ret (q_block_ret (q_then_ret (q_then_ret (q_ret (.inl rfl) [.v (.agg #[.int .i64 0, .int .i64 0, .int .i64 0, .int .i64 0, .int .i64 0, .int .i64 0, .string emp, .string emp, .int .i64 0]), vI r3.2.2] rfl (fun bs w hS => ?_))))))))
              refine ⟨?_, hS.kp⟩
              have hm : mDecode s = ((⟨0, 0, 0, 0, 0, ⟨0, emp, emp, 0⟩⟩ : DCommand), r3.2.2) := by
                have hk : (cmd0 s).kind = ((s.data.getD 0 0).toNat : Int) := rfl
                unfold mDecode
                repeat (first | rw [if_pos (by omega)] | rw [if_neg (by omega)])
                all_goals (simp only [mFin, mBody, cmd0, zOp, hr1, hr2, hr3, h4, h5, h6, ne_eq, not_true_eq_false, not_false_eq_true, if_true, if_false, reduceIte]; try rfl)
              rw [hm]
              rfl
          | false =>
            have h5 := of_decide_eq_false h5
            refine c_if true rfl ?_
            refine c_seq ?_
            refine c_region ?_
            refine JL_run 4 [] [3, 2] 1 ⟨[(3, vI r2.2.2), (2, .p 0 0)], [⟨100, [vI 0, vI 0, vI 0, vI 0, vI 0, vI 0, vS emp, vS emp, vI 0]⟩]⟩ [] [] (by kernel_rfl) on wn ?_
            refine l_nil (q_then_normal ?_)
            refine c_ret ?_
            refine q_then_ret (q_block_ret (q_then_ret (q_then_ret (q_block_ret (q_then_ret (q_then_ret (q_ret (.inl rfl) [.v (.agg #[.int .i64 0, .int .i64 0, .int .i64 0, .int .i64 0, .int .i64 0, .int .i64 0, .string emp, .string emp, .int .i64 0]), vI r2.2.2] rfl (fun bs w hS => ?_))))))))
            refine ⟨?_, hS.kp⟩
            have hm : mDecode s = ((⟨0, 0, 0, 0, 0, ⟨0, emp, emp, 0⟩⟩ : DCommand), r2.2.2) := by
              have hk : (cmd0 s).kind = ((s.data.getD 0 0).toNat : Int) := rfl
              unfold mDecode
              repeat (first | rw [if_pos (by omega)] | rw [if_neg (by omega)])
              all_goals (simp only [mFin, mBody, cmd0, zOp, hr1, hr2, h4, h5, ne_eq, not_true_eq_false, not_false_eq_true, if_true, if_false, reduceIte]; try rfl)
            rw [hm]
            rfl
        | false =>
          have h4 := of_decide_eq_false h4
          refine c_if true rfl ?_
          refine c_seq ?_
          refine c_region ?_
          refine JL_run 4 [] [3, 2] 1 ⟨[(3, vI r1.2.2), (2, .p 0 0)], [⟨100, [vI 0, vI 0, vI 0, vI 0, vI 0, vI 0, vS emp, vS emp, vI 0]⟩]⟩ [] [] (by kernel_rfl) on wn ?_
          refine l_nil (q_then_normal ?_)
          refine c_ret ?_
          refine q_then_ret (q_block_ret (q_then_ret (q_then_ret (q_block_ret (q_then_ret (q_then_ret (q_ret (.inl rfl) [.v (.agg #[.int .i64 0, .int .i64 0, .int .i64 0, .int .i64 0, .int .i64 0, .int .i64 0, .string emp, .string emp, .int .i64 0]), vI r1.2.2] rfl (fun bs w hS => ?_))))))))
          refine ⟨?_, hS.kp⟩
          have hm : mDecode s = ((⟨0, 0, 0, 0, 0, ⟨0, emp, emp, 0⟩⟩ : DCommand), r1.2.2) := by
            have hk : (cmd0 s).kind = ((s.data.getD 0 0).toNat : Int) := rfl
            unfold mDecode
            repeat (first | rw [if_pos (by omega)] | rw [if_neg (by omega)])
            all_goals (simp only [mFin, mBody, cmd0, zOp, hr1, h4, ne_eq, not_true_eq_false, not_false_eq_true, if_true, if_false, reduceIte]; try rfl)
          rw [hm]
          rfl
      | false =>
        have h3 := of_decide_eq_false h3
        refine c_if false rfl ?_
        refine c_skip ?_
        refine q_then_normal ?_
        refine c_seq ?_
        refine c_seq ?_
        refine c_region ?_
        refine JL_run 2 [] [101, 4, 2] 2 ⟨[(101, vB (!(decide ((s.extract 2 s.size) = emp)))), (4, .p 1 0), (2, .p 0 0)], [⟨100, [vI 0, vI 0, vI 0, vI 0, vI 0, vI 0, vS emp, vS emp, vI 0]⟩, ⟨100, [vI ((s.data.getD 0 0).toNat : Int), vI ((s.data.getD 1 0).toNat : Int), vI 0, vI 0, vI 0, vI 0, vS emp, vS emp, vI 0]⟩]⟩ [] [] (by kernel_rfl) on wn ?_
        refine l_nil (q_then_normal ?_)
        cases h13 : decide ((s.extract 2 s.size) = emp) with
        | true =>
          have h13 := of_decide_eq_true h13
          have hzh13 : (s.extract 2 s.size).size = 0 := by rw [h13]; rfl
          refine c_if false rfl ?_
          refine c_skip ?_
          refine q_then_normal ?_
          refine c_seq ?_
          refine c_region ?_
          refine JL_run 1 [] [103, 4, 2] 2 ⟨[(103, .v (.agg #[.int .i64 ((s.data.getD 0 0).toNat : Int), .int .i64 ((s.data.getD 1 0).toNat : Int), .int .i64 0, .int .i64 0, .int .i64 0, .int .i64 0, .string emp, .string emp, .int .i64 0])), (4, .p 1 0), (2, .p 0 0)], [⟨100, [vI 0, vI 0, vI 0, vI 0, vI 0, vI 0, vS emp, vS emp, vI 0]⟩, ⟨100, [vI ((s.data.getD 0 0).toNat : Int), vI ((s.data.getD 1 0).toNat : Int), vI 0, vI 0, vI 0, vI 0, vS emp, vS emp, vI 0]⟩]⟩ [] [] (by kernel_rfl) on wn ?_
          refine l_pure 118 [] [.v (.agg #[.int .i64 ((s.data.getD 0 0).toNat : Int), .int .i64 ((s.data.getD 1 0).toNat : Int), .int .i64 0, .int .i64 0, .int .i64 0, .int .i64 0, .string emp, .string emp, .int .i64 0])] (.int .i64 (mCmd (⟨((s.data.getD 0 0).toNat : Int), ((s.data.getD 1 0).toNat : Int), 0, 0, 0, ⟨0, emp, emp, 0⟩⟩ : DCommand))) Try.call118 rfl rfl rfl rfl (fun bs w hS => ref_CommandFault (B := anyB) (⟨((s.data.getD 0 0).toNat : Int), ((s.data.getD 1 0).toNat : Int), 0, 0, 0, ⟨0, emp, emp, 0⟩⟩ : DCommand) w ⟨(show emp.size ≤ 9223372036854775807 from (by first | assumption | omega | (simp only [emp_size]; omega))), (show emp.size ≤ 9223372036854775807 from (by first | assumption | omega | (simp only [emp_size]; omega)))⟩) ?_
          refine JL_run 1 [] [17, 4, 2] 2 ⟨[(17, vI (mCmd (⟨((s.data.getD 0 0).toNat : Int), ((s.data.getD 1 0).toNat : Int), 0, 0, 0, ⟨0, emp, emp, 0⟩⟩ : DCommand))), (4, .p 1 0), (2, .p 0 0)], [⟨100, [vI 0, vI 0, vI 0, vI 0, vI 0, vI 0, vS emp, vS emp, vI 0]⟩, ⟨100, [vI ((s.data.getD 0 0).toNat : Int), vI ((s.data.getD 1 0).toNat : Int), vI 0, vI 0, vI 0, vI 0, vS emp, vS emp, vI 0]⟩]⟩ [] [] (by kernel_rfl) on wn ?_
          refine l_nil (q_then_normal ?_)
          refine c_seq ?_
          refine c_seq ?_
          refine c_region ?_
          refine JL_run 2 [] [106, 17, 4, 2] 2 ⟨[(106, vB (!(decide (mCmd (⟨((s.data.getD 0 0).toNat : Int), ((s.data.getD 1 0).toNat : Int), 0, 0, 0, ⟨0, emp, emp, 0⟩⟩ : DCommand) = 0)))), (17, vI (mCmd (⟨((s.data.getD 0 0).toNat : Int), ((s.data.getD 1 0).toNat : Int), 0, 0, 0, ⟨0, emp, emp, 0⟩⟩ : DCommand))), (4, .p 1 0), (2, .p 0 0)], [⟨100, [vI 0, vI 0, vI 0, vI 0, vI 0, vI 0, vS emp, vS emp, vI 0]⟩, ⟨100, [vI ((s.data.getD 0 0).toNat : Int), vI ((s.data.getD 1 0).toNat : Int), vI 0, vI 0, vI 0, vI 0, vS emp, vS emp, vI 0]⟩]⟩ [] [] (by kernel_rfl) on wn ?_
          refine l_nil (q_then_normal ?_)
          cases h14 : decide (mCmd (⟨((s.data.getD 0 0).toNat : Int), ((s.data.getD 1 0).toNat : Int), 0, 0, 0, ⟨0, emp, emp, 0⟩⟩ : DCommand) = 0) with
          | true =>
            have h14 := of_decide_eq_true h14
            refine c_if false rfl ?_
            refine c_skip ?_
            refine q_then_normal ?_
            refine c_seq ?_
            refine c_region ?_
            refine JL_run 3 [] [3, 2] 1 ⟨[(3, vI 0), (2, .p 0 0)], [⟨100, [vI ((s.data.getD 0 0).toNat : Int), vI ((s.data.getD 1 0).toNat : Int), vI 0, vI 0, vI 0, vI 0, vS emp, vS emp, vI 0]⟩]⟩ [] [] (by kernel_rfl) on wn ?_
            refine l_nil (q_then_normal ?_)
            refine c_ret ?_
            refine q_ret (.inl rfl) [.v (.agg #[.int .i64 ((s.data.getD 0 0).toNat : Int), .int .i64 ((s.data.getD 1 0).toNat : Int), .int .i64 0, .int .i64 0, .int .i64 0, .int .i64 0, .string emp, .string emp, .int .i64 0]), vI 0] rfl (fun bs w hS => ?_)
            refine ⟨?_, hS.kp⟩
            have hm : mDecode s = ((⟨((s.data.getD 0 0).toNat : Int), ((s.data.getD 1 0).toNat : Int), 0, 0, 0, ⟨0, emp, emp, 0⟩⟩ : DCommand), 0) := by
              have hk : (cmd0 s).kind = ((s.data.getD 0 0).toNat : Int) := rfl
              unfold mDecode
              repeat (first | rw [if_pos (by omega)] | rw [if_neg (by omega)])
              all_goals (simp only [mFin, mBody, cmd0, zOp, h13, h14, ne_eq, not_true_eq_false, not_false_eq_true, if_true, if_false, reduceIte]; try rfl)
            rw [hm]
            rfl
          | false =>
            have h14 := of_decide_eq_false h14
            refine c_if true rfl ?_
            refine c_seq ?_
            refine c_region ?_
            refine JL_run 4 [] [3, 2] 1 ⟨[(3, vI (mCmd (⟨((s.data.getD 0 0).toNat : Int), ((s.data.getD 1 0).toNat : Int), 0, 0, 0, ⟨0, emp, emp, 0⟩⟩ : DCommand))), (2, .p 0 0)], [⟨100, [vI 0, vI 0, vI 0, vI 0, vI 0, vI 0, vS emp, vS emp, vI 0]⟩]⟩ [] [] (by kernel_rfl) on wn ?_
            refine l_nil (q_then_normal ?_)
            refine c_ret ?_
            refine q_then_ret (q_ret (.inl rfl) [.v (.agg #[.int .i64 0, .int .i64 0, .int .i64 0, .int .i64 0, .int .i64 0, .int .i64 0, .string emp, .string emp, .int .i64 0]), vI (mCmd (⟨((s.data.getD 0 0).toNat : Int), ((s.data.getD 1 0).toNat : Int), 0, 0, 0, ⟨0, emp, emp, 0⟩⟩ : DCommand))] rfl (fun bs w hS => ?_))
            refine ⟨?_, hS.kp⟩
            have hm : mDecode s = ((⟨0, 0, 0, 0, 0, ⟨0, emp, emp, 0⟩⟩ : DCommand), mCmd (⟨((s.data.getD 0 0).toNat : Int), ((s.data.getD 1 0).toNat : Int), 0, 0, 0, ⟨0, emp, emp, 0⟩⟩ : DCommand)) := by
              have hk : (cmd0 s).kind = ((s.data.getD 0 0).toNat : Int) := rfl
              unfold mDecode
              repeat (first | rw [if_pos (by omega)] | rw [if_neg (by omega)])
              all_goals (simp only [mFin, mBody, cmd0, zOp, h13, h14, ne_eq, not_true_eq_false, not_false_eq_true, if_true, if_false, reduceIte]; try rfl)
            rw [hm]
            rfl
        | false =>
          have h13 := of_decide_eq_false h13
          refine c_if true rfl ?_
          refine c_seq ?_
          refine c_region ?_
          refine JL_run 3 [] [3, 2] 1 ⟨[(3, vI 4), (2, .p 0 0)], [⟨100, [vI 0, vI 0, vI 0, vI 0, vI 0, vI 0, vS emp, vS emp, vI 0]⟩]⟩ [] [] (by kernel_rfl) on wn ?_
          refine l_nil (q_then_normal ?_)
          refine c_ret ?_
          refine q_then_ret (q_ret (.inl rfl) [.v (.agg #[.int .i64 0, .int .i64 0, .int .i64 0, .int .i64 0, .int .i64 0, .int .i64 0, .string emp, .string emp, .int .i64 0]), vI 4] rfl (fun bs w hS => ?_))
          refine ⟨?_, hS.kp⟩
          have hm : mDecode s = ((⟨0, 0, 0, 0, 0, ⟨0, emp, emp, 0⟩⟩ : DCommand), 4) := by
            have hk : (cmd0 s).kind = ((s.data.getD 0 0).toNat : Int) := rfl
            unfold mDecode
            repeat (first | rw [if_pos (by omega)] | rw [if_neg (by omega)])
            all_goals (simp only [mFin, mBody, cmd0, zOp, h13, ne_eq, not_true_eq_false, not_false_eq_true, if_true, if_false, reduceIte]; try rfl)
          rw [hm]
          rfl

theorem log_Check {B : Nat → Prop} (x : CLog) (w : World) (hx : Rds.sub B w x) : Calls Try.prog 60 #[.agg #[.int .i64 x.base, .slice x.entries.A x.entries.n x.entries.c]] w fun e w' => e = .returned (.int .i64 (mLog x.abs)) ∧ Kp [] w w' := by
  have okx := Rds.okof hx
  have ncx := Sl.ok.nc okx
  have hnx : x.entries.n = x.entries.xs.length := rfl
  have q1 : x.abs.base = x.base := rfl
  have q2 : x.abs.entries = x.entries.xs := rfl
  have hat : ∀ q, x.entries.xs.getD q default = x.entries.at q := fun _ => rfl
  refine calls_J0 35 Try.func60 rfl rfl [.agg #[.int .i64 x.base, .slice x.entries.A x.entries.n x.entries.c]] rfl ?_
  refine c_seq ?_
  refine c_region ?_
  refine JL_run 2 [] [1] 1 ⟨[(1, .p 0 0)], [⟨33, [vI x.base, .v (.slice x.entries.A x.entries.n x.entries.c)]⟩]⟩ [] [] (by kernel_rfl) on wn ?_
  refine l_nil (q_then_normal ?_)
  refine c_seq ?_
  refine c_seq ?_
  refine c_region ?_
  refine JL_run 4 [] [10, 1] 1 ⟨[(10, vB (decide (x.base < 0))), (1, .p 0 0)], [⟨33, [vI x.base, .v (.slice x.entries.A x.entries.n x.entries.c)]⟩]⟩ [] [] (by kernel_rfl) on wn ?_
  cases h1 : decide (x.base < 0) with
  | true =>
    have h1 := of_decide_eq_true h1
    refine JL_run 4 [] [14, 1] 1 ⟨[(14, vB true), (1, .p 0 0)], [⟨33, [vI x.base, .v (.slice x.entries.A x.entries.n x.entries.c)]⟩]⟩ [] [] (by kernel_rfl) on wn ?_
    refine l_nil (q_then_normal ?_)
    refine c_if true rfl ?_
    refine c_seq ?_
    refine c_region ?_
    refine JL_run 1 [] [2] 0 ⟨[(2, vI 2)], []⟩ [] [] (by kernel_rfl) on wn ?_
    refine l_nil (q_then_normal ?_)
    refine c_ret ?_
    refine q_then_ret (q_ret (.inl rfl) [vI 2] rfl (fun bs w hS => ?_))
    refine ⟨?_, hS.kp⟩
    simp only [retOf, den, List.map_cons, List.map_nil]
    have hm : mLog x.abs = 2 := by
      unfold mLog; rw [q1, q2]
      first | rw [if_pos (by omega)] | rw [if_neg (by omega), if_pos (by omega)]
    rw [hm]
  | false =>
    have h1 := of_decide_eq_false h1
    refine JL_run 4 [] [14, 1] 1 ⟨[(14, vB (decide ((1073741424 : Int) < x.base))), (1, .p 0 0)], [⟨33, [vI x.base, .v (.slice x.entries.A x.entries.n x.entries.c)]⟩]⟩ [] [] (by kernel_rfl) on wn ?_
    refine l_nil (q_then_normal ?_)
    cases h2 : decide ((1073741424 : Int) < x.base) with
    | true =>
      have h2 := of_decide_eq_true h2
      refine c_if true rfl ?_
      refine c_seq ?_
      refine c_region ?_
      refine JL_run 1 [] [2] 0 ⟨[(2, vI 2)], []⟩ [] [] (by kernel_rfl) on wn ?_
      refine l_nil (q_then_normal ?_)
      refine c_ret ?_
      refine q_then_ret (q_ret (.inl rfl) [vI 2] rfl (fun bs w hS => ?_))
      refine ⟨?_, hS.kp⟩
      simp only [retOf, den, List.map_cons, List.map_nil]
      have hm : mLog x.abs = 2 := by
        unfold mLog; rw [q1, q2]
        first | rw [if_pos (by omega)] | rw [if_neg (by omega), if_pos (by omega)]
      rw [hm]
    | false =>
      have h2 := of_decide_eq_false h2
      refine c_if false rfl ?_
      refine c_skip ?_
      refine q_then_normal ?_
      refine c_seq ?_
      refine c_seq ?_
      refine c_region ?_
      refine JL_run 4 [] [18, 1] 1 ⟨[(18, vB (decide ((400 : Int) < ((x.entries.n : Nat) : Int)))), (1, .p 0 0)], [⟨33, [vI x.base, .v (.slice x.entries.A x.entries.n x.entries.c)]⟩]⟩ [] [] (by kernel_rfl) on wn ?_
      refine l_nil (q_then_normal ?_)
      cases h3 : decide ((400 : Int) < ((x.entries.n : Nat) : Int)) with
      | true =>
        have h3 := of_decide_eq_true h3
        refine c_if true rfl ?_
        refine c_seq ?_
        refine c_region ?_
        refine JL_run 1 [] [2] 0 ⟨[(2, vI 1)], []⟩ [] [] (by kernel_rfl) on wn ?_
        refine l_nil (q_then_normal ?_)
        refine c_ret ?_
        refine q_then_ret (q_ret (.inl rfl) [vI 1] rfl (fun bs w hS => ?_))
        refine ⟨?_, hS.kp⟩
        simp only [retOf, den, List.map_cons, List.map_nil]
        have hm : mLog x.abs = 1 := by
          unfold mLog; rw [q1, q2]
          first | rw [if_pos (by omega)] | rw [if_neg (by omega), if_pos (by omega)]
        rw [hm]
      | false =>
        have h3 := of_decide_eq_false h3
        refine c_if false rfl ?_
        refine c_skip ?_
        refine q_then_normal ?_
        refine c_seq ?_
        refine c_seq ?_
        refine c_region ?_
        refine JL_run 4 [] [22, 21, 20] 0 ⟨[(22, vI 0), (21, vI ((x.entries.n : Nat) : Int)), (20, .v (.slice x.entries.A x.entries.n x.entries.c))], []⟩ [] [] (by kernel_rfl) on wn ?_
        refine l_nil (q_then_normal ?_)
        refine c_block ?_
        refine c_loop (σ := Nat) (fun i => i ≤ x.entries.n ∧ mLog x.abs = firstF (logF x.entries.xs) (x.entries.n - i) i) (fun i => x.entries.n - i) (fun i => []) (fun i => ⟨[(22, vI ((i : Nat) : Int)), (21, vI ((x.entries.n : Nat) : Int)), (20, .v (.slice x.entries.A x.entries.n x.entries.c))], []⟩) 0 ⟨Nat.zero_le _, by unfold mLog; rw [q1, q2, if_neg (by omega), if_neg (by omega)]⟩ (s_start [22, 21, 20] 0 (by kernel_rfl) rfl) ?_
        rintro i ⟨hi, hI⟩
        refine c_seq ?_
        refine c_region ?_
        refine JL_run 1 [] [23, 22, 21, 20] 0 ⟨[(23, vB (decide (((i : Nat) : Int) < ((x.entries.n : Nat) : Int)))), (22, vI ((i : Nat) : Int)), (21, vI ((x.entries.n : Nat) : Int)), (20, .v (.slice x.entries.A x.entries.n x.entries.c))], []⟩ [] [] (by kernel_rfl) on wn ?_
        refine l_nil (q_then_normal ?_)
        refine c_seq ?_
        cases h4 : decide (((i : Nat) : Int) < ((x.entries.n : Nat) : Int)) with
        | true =>
          have h4 := of_decide_eq_true h4
          refine c_if true rfl ?_
          refine c_skip ?_
          refine q_then_normal ?_
          refine c_seq ?_
          refine c_block ?_
          refine c_seq ?_
          refine c_region ?_
          refine JL_run 3 [(0, .idx x.entries.ad i), (1, .ext [.string (x.entries.at i)])] [4, 22, 21, 20] 0 ⟨[(4, vS (x.entries.at i)), (22, vI ((i : Nat) : Int)), (21, vI ((x.entries.n : Nat) : Int)), (20, .v (.slice x.entries.A x.entries.n x.entries.c))], []⟩ [x.entries.A = some x.entries.ad, ((i : Nat) : Int) = ((i : Nat) : Int), i < x.entries.n] [(x.entries.ad.add (i * 1), [.string (x.entries.at i)])] (by kernel_rfl) (oc (Sl.ok.own (s := x.entries) (i := i) okx (by omega)) (oc rfl (oc (by omega) on))) (fun w hk hr => ⟨(Sl.rd.all (s := x.entries) (i := i) (Rds.kp hx hk) (by omega) rfl), trivial⟩) ?_
          refine l_nil (q_then_normal ?_)
          refine c_seq ?_
          refine c_region ?_
          refine JL_run 1 [] [27, 22, 21, 20] 0 ⟨[(27, vS (x.entries.at i)), (22, vI ((i : Nat) : Int)), (21, vI ((x.entries.n : Nat) : Int)), (20, .v (.slice x.entries.A x.entries.n x.entries.c))], []⟩ [] [] (by kernel_rfl) on wn ?_
          refine l_pure 67 [] [vS (x.entries.at i)] (.tuple #[.agg #[.int .i64 ((mDecode (x.entries.at i)).1.kind), .int .i64 ((mDecode (x.entries.at i)).1.client), .int .i64 ((mDecode (x.entries.at i)).1.session), .int .i64 ((mDecode (x.entries.at i)).1.seq), .int .i64 ((mDecode (x.entries.at i)).1.acked), .int .i64 ((mDecode (x.entries.at i)).1.op.kind), .string ((mDecode (x.entries.at i)).1.op.a), .string ((mDecode (x.entries.at i)).1.op.b), .int .i64 ((mDecode (x.entries.at i)).1.op.n)], .int .i64 ((mDecode (x.entries.at i)).2)]) Try.call67 rfl rfl rfl rfl (fun bs w hS => command_Decode (x.entries.at i) w (Sl.ok.at (s := x.entries) (i := i) okx (by omega))) ?_
          refine JL_run 6 [] [6, 22, 21, 20] 0 ⟨[(6, vI ((mDecode (x.entries.at i)).2)), (22, vI ((i : Nat) : Int)), (21, vI ((x.entries.n : Nat) : Int)), (20, .v (.slice x.entries.A x.entries.n x.entries.c))], []⟩ [] [] (by kernel_rfl) on wn ?_
          refine l_nil (q_then_normal ?_)
          refine c_seq ?_
          refine c_region ?_
          refine JL_run 2 [] [32, 6, 22, 21, 20] 0 ⟨[(32, vB (!(decide ((mDecode (x.entries.at i)).2 = 0)))), (6, vI ((mDecode (x.entries.at i)).2)), (22, vI ((i : Nat) : Int)), (21, vI ((x.entries.n : Nat) : Int)), (20, .v (.slice x.entries.A x.entries.n x.entries.c))], []⟩ [] [] (by kernel_rfl) on wn ?_
          refine l_nil (q_then_normal ?_)
          cases h5 : decide ((mDecode (x.entries.at i)).2 = 0) with
          | true =>
            have h5 := of_decide_eq_true h5
            refine c_if false rfl ?_
            refine c_skip ?_
            refine q_block_normal (q_then_normal ?_)
            refine c_region ?_
            refine JL_run 2 [] [22, 21, 20] 0 ⟨[(22, vI (((i : Nat) : Int) + 1)), (21, vI ((x.entries.n : Nat) : Int)), (20, .v (.slice x.entries.A x.entries.n x.entries.c))], []⟩ [inR (((i : Nat) : Int) + 1)] [] (by kernel_rfl) (oc (by unfold inR; omega) on) wn ?_
            have hf0 : logF x.entries.xs i = 0 := by unfold logF; rw [hat]; assumption
            refine l_nil (q_loop (x := (i : Nat)) ((i + 1) : Nat) ⟨by omega, by rw [hI]; exact firstF_step (by omega) hf0⟩ (by omega) (s_start [22, 21, 20] 0 (by kernel_rfl) rfl))
          | false =>
            have h5 := of_decide_eq_false h5
            refine c_if true rfl ?_
            refine c_seq ?_
            refine c_region ?_
            refine JL_run 2 [] [2] 0 ⟨[(2, vI ((mDecode (x.entries.at i)).2))], []⟩ [] [] (by kernel_rfl) on wn ?_
            refine l_nil (q_then_normal ?_)
            refine c_ret ?_
            refine q_block_ret (q_then_ret (q_then_ret (q_block_ret (q_then_ret (q_ret (.inl rfl) [vI ((mDecode (x.entries.at i)).2)] rfl (fun bs w hS => ?_))))))
            refine ⟨?_, hS.kp⟩
            simp only [retOf, den, List.map_cons, List.map_nil]
            have hf : logF x.entries.xs i = (mDecode (x.entries.at i)).2 := by unfold logF; rw [hat]
            rw [hI, firstF_here (by omega) hf (by assumption)]
        | false =>
          have h4 := of_decide_eq_false h4
          refine c_if false rfl ?_
          refine c_exit ?_
          refine q_then_exit (q_then_exit (q_block_hit (q_then_normal ?_)))
          refine c_seq ?_
          refine c_region ?_
          refine JL_run 1 [] [2] 0 ⟨[(2, vI 0)], []⟩ [] [] (by kernel_rfl) on wn ?_
          refine l_nil (q_then_normal ?_)
          refine c_ret ?_
          refine q_ret (.inl rfl) [vI 0] rfl (fun bs w hS => ?_)
          refine ⟨?_, hS.kp⟩
          simp only [retOf, den, List.map_cons, List.map_nil]
          rw [hI, firstF_end (by omega)]

theorem ref_LogFault {B : Nat → Prop} (x : CLog) (w : World) (hx : Rds.sub B w x) : Calls Try.prog 63 #[.agg #[.int .i64 x.base, .slice x.entries.A x.entries.n x.entries.c]] w fun e w' => e = .returned (.int .i64 (mLog x.abs)) ∧ Kp [] w w' := by
  have okx := Rds.okof hx
  have ncx := Sl.ok.nc okx
  have hnx : x.entries.n = x.entries.xs.length := rfl
  have q1 : x.abs.base = x.base := rfl
  have q2 : x.abs.entries = x.entries.xs := rfl
  have hat : ∀ q, x.entries.xs.getD q default = x.entries.at q := fun _ => rfl
  refine calls_J0 33 Try.func63 rfl rfl [.agg #[.int .i64 x.base, .slice x.entries.A x.entries.n x.entries.c]] rfl ?_
  refine c_seq ?_
  refine c_region ?_
  refine JL_run 2 [] [1] 1 ⟨[(1, .p 0 0)], [⟨33, [vI x.base, .v (.slice x.entries.A x.entries.n x.entries.c)]⟩]⟩ [] [] (by kernel_rfl) on wn ?_
  refine l_nil (q_then_normal ?_)
  refine c_seq ?_
  refine c_seq ?_
  refine c_region ?_
  refine JL_run 2 [] [7, 1] 1 ⟨[(7, vI x.base), (1, .p 0 0)], [⟨33, [vI x.base, .v (.slice x.entries.A x.entries.n x.entries.c)]⟩]⟩ [] [] (by kernel_rfl) on wn ?_
  refine l_pure 64 [] [vI x.base, vI 0, vI 1073741424] (.bool (inB x.base 0 1073741424)) Try.call64 rfl rfl rfl rfl (fun bs w hS => ref_In _ _ _ w) ?_
  refine JL_run 1 [] [9, 1] 1 ⟨[(9, vB (!(inB x.base 0 1073741424))), (1, .p 0 0)], [⟨33, [vI x.base, .v (.slice x.entries.A x.entries.n x.entries.c)]⟩]⟩ [] [] (by kernel_rfl) on wn ?_
  refine l_nil (q_then_normal ?_)
  cases h1 : inB x.base 0 1073741424 with
  | true =>
    simp only [inB, Bool.and_eq_true, Bool.and_eq_false_iff, decide_eq_true_eq, decide_eq_false_iff_not] at h1
    refine c_if false rfl ?_
    refine c_skip ?_
    refine q_then_normal ?_
    refine c_seq ?_
    refine c_seq ?_
    refine c_region ?_
    refine JL_run 4 [] [13, 1] 1 ⟨[(13, vB (decide ((400 : Int) < ((x.entries.n : Nat) : Int)))), (1, .p 0 0)], [⟨33, [vI x.base, .v (.slice x.entries.A x.entries.n x.entries.c)]⟩]⟩ [] [] (by kernel_rfl) on wn ?_
    refine l_nil (q_then_normal ?_)
    cases h2 : decide ((400 : Int) < ((x.entries.n : Nat) : Int)) with
    | true =>
      have h2 := of_decide_eq_true h2
      refine c_if true rfl ?_
      refine c_seq ?_
      refine c_region ?_
      refine JL_run 1 [] [2] 0 ⟨[(2, vI 1)], []⟩ [] [] (by kernel_rfl) on wn ?_
      refine l_nil (q_then_normal ?_)
      refine c_ret ?_
      refine q_then_ret (q_ret (.inl rfl) [vI 1] rfl (fun bs w hS => ?_))
      refine ⟨?_, hS.kp⟩
      simp only [retOf, den, List.map_cons, List.map_nil]
      have hm : mLog x.abs = 1 := by
        unfold mLog; rw [q1, q2]
        first | rw [if_pos (by omega)] | rw [if_neg (by omega), if_pos (by omega)]
      rw [hm]
    | false =>
      have h2 := of_decide_eq_false h2
      refine c_if false rfl ?_
      refine c_skip ?_
      refine q_then_normal ?_
      refine c_seq ?_
      refine c_seq ?_
      refine c_region ?_
      refine JL_run 1 [] [3, 1] 1 ⟨[(3, vI 0), (1, .p 0 0)], [⟨33, [vI x.base, .v (.slice x.entries.A x.entries.n x.entries.c)]⟩]⟩ [] [] (by kernel_rfl) on wn ?_
      refine l_nil (q_then_normal ?_)
      refine c_block ?_
      refine c_loop (σ := Nat) (fun i => i ≤ x.entries.n ∧ mLog x.abs = firstF (logF x.entries.xs) (x.entries.n - i) i) (fun i => x.entries.n - i) (fun i => []) (fun i => ⟨[(3, vI ((i : Nat) : Int)), (1, .p 0 0)], [⟨33, [vI x.base, .v (.slice x.entries.A x.entries.n x.entries.c)]⟩]⟩) 0 ⟨Nat.zero_le _, by unfold mLog; rw [q1, q2, if_neg (by omega), if_neg (by omega)]⟩ (s_start [3, 1] 1 (by kernel_rfl) rfl) ?_
      rintro i ⟨hi, hI⟩
      refine c_seq ?_
      refine c_seq ?_
      refine c_region ?_
      refine JL_run 5 [] [18, 3, 1] 1 ⟨[(18, vB (decide (((i : Nat) : Int) < ((x.entries.n : Nat) : Int)))), (3, vI ((i : Nat) : Int)), (1, .p 0 0)], [⟨33, [vI x.base, .v (.slice x.entries.A x.entries.n x.entries.c)]⟩]⟩ [] [] (by kernel_rfl) on wn ?_
      refine l_nil (q_then_normal ?_)
      cases h3 : decide (((i : Nat) : Int) < ((x.entries.n : Nat) : Int)) with
      | true =>
        have h3 := of_decide_eq_true h3
        refine c_if true rfl ?_
        refine c_skip ?_
        refine q_then_normal ?_
        refine c_seq ?_
        refine c_block ?_
        refine c_seq ?_
        refine c_region ?_
        refine JL_run 5 [(3, .idx x.entries.ad i), (4, .ext [.string (x.entries.at i)])] [26, 3, 1] 1 ⟨[(26, vS (x.entries.at i)), (3, vI ((i : Nat) : Int)), (1, .p 0 0)], [⟨33, [vI x.base, .v (.slice x.entries.A x.entries.n x.entries.c)]⟩]⟩ [x.entries.A = some x.entries.ad, ((i : Nat) : Int) = ((i : Nat) : Int), i < x.entries.n] [(x.entries.ad.add (i * 1), [.string (x.entries.at i)])] (by kernel_rfl) (oc (Sl.ok.own (s := x.entries) (i := i) okx (by omega)) (oc rfl (oc (by omega) on))) (fun w hk hr => ⟨(Sl.rd.all (s := x.entries) (i := i) (Rds.kp hx hk) (by omega) rfl), trivial⟩) ?_
        refine l_pure 68 [] [vS (x.entries.at i)] (.tuple #[.agg #[.int .i64 ((mDecode (x.entries.at i)).1.kind), .int .i64 ((mDecode (x.entries.at i)).1.client), .int .i64 ((mDecode (x.entries.at i)).1.session), .int .i64 ((mDecode (x.entries.at i)).1.seq), .int .i64 ((mDecode (x.entries.at i)).1.acked), .int .i64 ((mDecode (x.entries.at i)).1.op.kind), .string ((mDecode (x.entries.at i)).1.op.a), .string ((mDecode (x.entries.at i)).1.op.b), .int .i64 ((mDecode (x.entries.at i)).1.op.n)], .int .i64 ((mDecode (x.entries.at i)).2)]) Try.call68 rfl rfl rfl rfl (fun bs w hS => ref_CommandOf (x.entries.at i) w (Sl.ok.at (s := x.entries) (i := i) okx (by omega))) ?_
        refine JL_run 6 [] [5, 3, 1] 1 ⟨[(5, vI ((mDecode (x.entries.at i)).2)), (3, vI ((i : Nat) : Int)), (1, .p 0 0)], [⟨33, [vI x.base, .v (.slice x.entries.A x.entries.n x.entries.c)]⟩]⟩ [] [] (by kernel_rfl) on wn ?_
        refine l_nil (q_then_normal ?_)
        refine c_seq ?_
        refine c_region ?_
        refine JL_run 2 [] [31, 5, 3, 1] 1 ⟨[(31, vB (!(decide ((mDecode (x.entries.at i)).2 = 0)))), (5, vI ((mDecode (x.entries.at i)).2)), (3, vI ((i : Nat) : Int)), (1, .p 0 0)], [⟨33, [vI x.base, .v (.slice x.entries.A x.entries.n x.entries.c)]⟩]⟩ [] [] (by kernel_rfl) on wn ?_
        refine l_nil (q_then_normal ?_)
        cases h4 : decide ((mDecode (x.entries.at i)).2 = 0) with
        | true =>
          have h4 := of_decide_eq_true h4
          refine c_if false rfl ?_
          refine c_skip ?_
          refine q_block_normal (q_then_normal ?_)
          refine c_region ?_
          refine JL_run 3 [] [3, 1] 1 ⟨[(3, vI (((i : Nat) : Int) + 1)), (1, .p 0 0)], [⟨33, [vI x.base, .v (.slice x.entries.A x.entries.n x.entries.c)]⟩]⟩ [inR (((i : Nat) : Int) + 1)] [] (by kernel_rfl) (oc (by unfold inR; omega) on) wn ?_
          have hf0 : logF x.entries.xs i = 0 := by unfold logF; rw [hat]; assumption
          refine l_nil (q_loop (x := (i : Nat)) ((i + 1) : Nat) ⟨by omega, by rw [hI]; exact firstF_step (by omega) hf0⟩ (by omega) (s_start [3, 1] 1 (by kernel_rfl) rfl))
        | false =>
          have h4 := of_decide_eq_false h4
          refine c_if true rfl ?_
          refine c_seq ?_
          refine c_region ?_
          refine JL_run 2 [] [2] 0 ⟨[(2, vI ((mDecode (x.entries.at i)).2))], []⟩ [] [] (by kernel_rfl) on wn ?_
          refine l_nil (q_then_normal ?_)
          refine c_ret ?_
          refine q_block_ret (q_then_ret (q_then_ret (q_block_ret (q_then_ret (q_ret (.inl rfl) [vI ((mDecode (x.entries.at i)).2)] rfl (fun bs w hS => ?_))))))
          refine ⟨?_, hS.kp⟩
          simp only [retOf, den, List.map_cons, List.map_nil]
          have hf : logF x.entries.xs i = (mDecode (x.entries.at i)).2 := by unfold logF; rw [hat]
          rw [hI, firstF_here (by omega) hf (by assumption)]
      | false =>
        have h3 := of_decide_eq_false h3
        refine c_if false rfl ?_
        refine c_exit ?_
        refine q_then_exit (q_then_exit (q_block_hit (q_then_normal ?_)))
        refine c_seq ?_
        refine c_region ?_
        refine JL_run 1 [] [2] 0 ⟨[(2, vI 0)], []⟩ [] [] (by kernel_rfl) on wn ?_
        refine l_nil (q_then_normal ?_)
        refine c_ret ?_
        refine q_ret (.inl rfl) [vI 0] rfl (fun bs w hS => ?_)
        refine ⟨?_, hS.kp⟩
        simp only [retOf, den, List.map_cons, List.map_nil]
        rw [hI, firstF_end (by omega)]
  | false =>
    simp only [inB, Bool.and_eq_true, Bool.and_eq_false_iff, decide_eq_true_eq, decide_eq_false_iff_not] at h1
    refine c_if true rfl ?_
    refine c_seq ?_
    refine c_region ?_
    refine JL_run 1 [] [2] 0 ⟨[(2, vI 2)], []⟩ [] [] (by kernel_rfl) on wn ?_
    refine l_nil (q_then_normal ?_)
    refine c_ret ?_
    refine q_then_ret (q_ret (.inl rfl) [vI 2] rfl (fun bs w hS => ?_))
    refine ⟨?_, hS.kp⟩
    simp only [retOf, den, List.map_cons, List.map_nil]
    have hm : mLog x.abs = 2 := by
      unfold mLog; rw [q1, q2]
      first | rw [if_pos (by omega)] | rw [if_neg (by omega), if_pos (by omega)]
    rw [hm]

theorem log_Last {B : Nat → Prop} (x : CLog) (w : World) (hx : Rds.sub B w x) (hb : 0 ≤ x.base ∧ x.base ≤ 1073741424 ∧ x.entries.n ≤ 1048576) : Calls Try.prog 61 #[.agg #[.int .i64 x.base, .slice x.entries.A x.entries.n x.entries.c]] w fun e w' => e = .returned (.int .i64 (x.base + (x.entries.n : Int))) ∧ Kp [] w w' := by
  have okx := Rds.okof hx
  have ncx := Sl.ok.nc okx
  have hnx : x.entries.n = x.entries.xs.length := rfl
  have q1 : x.abs.base = x.base := rfl
  have q2 : x.abs.entries = x.entries.xs := rfl
  have hat : ∀ q, x.entries.xs.getD q default = x.entries.at q := fun _ => rfl
  refine calls_J0 9 Try.func61 rfl rfl [.agg #[.int .i64 x.base, .slice x.entries.A x.entries.n x.entries.c]] rfl ?_
  refine c_seq ?_
  refine c_region ?_
  refine JL_run 2 [] [1] 1 ⟨[(1, .p 0 0)], [⟨33, [vI x.base, .v (.slice x.entries.A x.entries.n x.entries.c)]⟩]⟩ [] [] (by kernel_rfl) on wn ?_
  refine l_nil (q_then_normal ?_)
  refine c_seq ?_
  refine c_region ?_
  refine JL_run 7 [] [2] 0 ⟨[(2, vI (x.base + ((x.entries.n : Nat) : Int)))], []⟩ [inR (x.base + ((x.entries.n : Nat) : Int))] [] (by kernel_rfl) (oc (by unfold inR; omega) on) wn ?_
  refine l_nil (q_then_normal ?_)
  refine c_ret ?_
  refine q_ret (.inl rfl) [vI (x.base + ((x.entries.n : Nat) : Int))] rfl (fun bs w hS => ?_)
  exact ⟨rfl, hS.kp⟩

theorem ref_LastOf {B : Nat → Prop} (x : CLog) (w : World) (hx : Rds.sub B w x) (hb : 0 ≤ x.base ∧ x.base ≤ 1073741424 ∧ x.entries.n ≤ 1048576) : Calls Try.prog 65 #[.agg #[.int .i64 x.base, .slice x.entries.A x.entries.n x.entries.c]] w fun e w' => e = .returned (.int .i64 (x.base + (x.entries.n : Int))) ∧ Kp [] w w' := by
  have okx := Rds.okof hx
  have ncx := Sl.ok.nc okx
  have hnx : x.entries.n = x.entries.xs.length := rfl
  have q1 : x.abs.base = x.base := rfl
  have q2 : x.abs.entries = x.entries.xs := rfl
  have hat : ∀ q, x.entries.xs.getD q default = x.entries.at q := fun _ => rfl
  refine calls_J0 9 Try.func65 rfl rfl [.agg #[.int .i64 x.base, .slice x.entries.A x.entries.n x.entries.c]] rfl ?_
  refine c_seq ?_
  refine c_region ?_
  refine JL_run 2 [] [1] 1 ⟨[(1, .p 0 0)], [⟨33, [vI x.base, .v (.slice x.entries.A x.entries.n x.entries.c)]⟩]⟩ [] [] (by kernel_rfl) on wn ?_
  refine l_nil (q_then_normal ?_)
  refine c_seq ?_
  refine c_region ?_
  refine JL_run 7 [] [2] 0 ⟨[(2, vI (x.base + ((x.entries.n : Nat) : Int)))], []⟩ [inR (x.base + ((x.entries.n : Nat) : Int))] [] (by kernel_rfl) (oc (by unfold inR; omega) on) wn ?_
  refine l_nil (q_then_normal ?_)
  refine c_ret ?_
  refine q_ret (.inl rfl) [vI (x.base + ((x.entries.n : Nat) : Int))] rfl (fun bs w hS => ?_)
  exact ⟨rfl, hS.kp⟩

theorem same_texts {B B' : Nat → Prop} (a b : Sl ByteArray) (w : World) (ha : a.rd B w) (hb : b.rd B' w) (he : a.xs = b.xs) : Calls Try.prog 24 #[.slice a.A a.n a.c, .slice b.A b.n b.c] w fun e w' => e = .returned (.bool true) ∧ Kp [] w w' := by
  have oka := Sl.rd.ok ha
  have okb := Sl.rd.ok hb
  have hn := xs_n he
  have nca := Sl.ok.nc oka
  refine calls_J0 26 Try.func24 rfl rfl [.slice a.A a.n a.c, .slice b.A b.n b.c] rfl ?_
  refine c_seq ?_
  refine c_region ?_
  refine JL_run 1 [] [0, 1] 0 ⟨[(0, .v (.slice a.A a.n a.c)), (1, .v (.slice b.A b.n b.c))], []⟩ [] [] (by kernel_rfl) on wn ?_
  refine l_nil (q_then_normal ?_)
  refine c_seq ?_
  refine c_seq ?_
  refine c_region ?_
  refine JL_run 5 [] [10, 0, 1] 0 ⟨[(10, vB (!(decide (((a.n : Nat) : Int) = ((b.n : Nat) : Int))))), (0, .v (.slice a.A a.n a.c)), (1, .v (.slice b.A b.n b.c))], []⟩ [] [] (by kernel_rfl) on wn ?_
  refine l_nil (q_then_normal ?_)
  cases h1 : decide (((a.n : Nat) : Int) = ((b.n : Nat) : Int)) with
  | true =>
    have h1 := of_decide_eq_true h1
    refine c_if false rfl ?_
    refine c_skip ?_
    refine q_then_normal ?_
    refine c_seq ?_
    refine c_seq ?_
    refine c_region ?_
    refine JL_run 1 [] [5, 0, 1] 0 ⟨[(5, vI 0), (0, .v (.slice a.A a.n a.c)), (1, .v (.slice b.A b.n b.c))], []⟩ [] [] (by kernel_rfl) on wn ?_
    refine l_nil (q_then_normal ?_)
    refine c_block ?_
    refine c_loop (σ := Nat) (fun i => True) (fun i => a.n - i) (fun i => []) (fun i => ⟨[(5, vI ((i : Nat) : Int)), (0, .v (.slice a.A a.n a.c)), (1, .v (.slice b.A b.n b.c))], []⟩) 0 trivial (s_start [5, 0, 1] 0 (by kernel_rfl) rfl) ?_
    rintro i _
    have hat := xs_at he i
    refine c_seq ?_
    refine c_seq ?_
    refine c_region ?_
    refine JL_run 4 [] [14, 5, 0, 1] 0 ⟨[(14, vB (decide (((i : Nat) : Int) < ((a.n : Nat) : Int)))), (5, vI ((i : Nat) : Int)), (0, .v (.slice a.A a.n a.c)), (1, .v (.slice b.A b.n b.c))], []⟩ [] [] (by kernel_rfl) on wn ?_
    refine l_nil (q_then_normal ?_)
    cases h2 : decide (((i : Nat) : Int) < ((a.n : Nat) : Int)) with
    | true =>
      have h2 := of_decide_eq_true h2
      refine c_if true rfl ?_
      refine c_skip ?_
      refine q_then_normal ?_
      refine c_seq ?_
      refine c_block ?_
      refine c_seq ?_
      refine c_draw 9 [(0, false), (1, false), (2, false), (3, false), (4, false), (5, false), (6, false), (7, false), (8, false)] [] [] Try_mixed (by kernel_rfl) (pq_then (pq_block (pq_then (pq_then (pq_block (pq_then pq_body)))))) (List.Sublist.refl _) ?_
      refine h_quiet [(2, .idx a.ad i), (3, .ext [.string (a.at i)]), (6, .idx b.ad i), (7, .ext [.string (b.at i)])] 9 [(25, vB (!(decide ((a.at i) = (b.at i))))), (24, vS (b.at i)), (23, .v (.pointer (some (b.ad.add (i * 1))))), (22, vI ((i : Nat) : Int)), (21, .v (.slice b.A b.n b.c)), (20, vS (a.at i)), (19, .v (.pointer (some (a.ad.add (i * 1))))), (18, vI ((i : Nat) : Int)), (17, .v (.slice a.A a.n a.c)), (14, vB true), (5, vI ((i : Nat) : Int)), (0, .v (.slice a.A a.n a.c)), (1, .v (.slice b.A b.n b.c))] [a.A = some a.ad, ((i : Nat) : Int) = ((i : Nat) : Int), i < a.n, b.A = some b.ad, ((i : Nat) : Int) = ((i : Nat) : Int), i < b.n] [(a.ad.add (i * 1), [.string (a.at i)]), (b.ad.add (i * 1), [.string (b.at i)])] rfl rfl (by kernel_rfl) (oc (Sl.ok.own (s := a) (i := i) oka (by omega)) (oc rfl (oc (by omega) (oc (Sl.ok.own (s := b) (i := i) okb (by omega)) (oc rfl (oc (by omega) on)))))) (fun w hk hr => ⟨(Sl.rd.all (s := a) (i := i) (Sl.rd.kp ha hk) (by omega) rfl), ⟨(Sl.rd.all (s := b) (i := i) (Sl.rd.kp hb hk) (by omega) rfl), trivial⟩⟩) ?_
      refine h_nil ?_
      refine l_nil (q_then_normal ?_)
      cases h3 : decide ((a.at i) = (b.at i)) with
      | true =>
        have h3 := of_decide_eq_true h3
        refine c_if false rfl ?_
        refine c_skip ?_
        refine q_block_normal (q_then_normal ?_)
        refine c_region ?_
        refine JL_run 3 [] [5, 0, 1] 0 ⟨[(5, vI (((i : Nat) : Int) + 1)), (0, .v (.slice a.A a.n a.c)), (1, .v (.slice b.A b.n b.c))], []⟩ [inR (((i : Nat) : Int) + 1)] [] (by kernel_rfl) (oc (by unfold inR; omega) on) wn ?_
        refine l_nil (q_loop (x := (i : Nat)) ((i + 1) : Nat) trivial (by omega) (s_start [5, 0, 1] 0 (by kernel_rfl) rfl))
      | false =>
        have h3 := of_decide_eq_false h3
        exfalso; first | omega | exact h3 (xs_at he i)
    | false =>
      have h2 := of_decide_eq_false h2
      refine c_if false rfl ?_
      refine c_exit ?_
      refine q_then_exit (q_then_exit (q_block_hit (q_then_normal ?_)))
      refine c_seq ?_
      refine c_region ?_
      refine JL_run 1 [] [4] 0 ⟨[(4, vB true)], []⟩ [] [] (by kernel_rfl) on wn ?_
      refine l_nil (q_then_normal ?_)
      refine c_ret ?_
      refine q_ret (.inl rfl) [vB true] rfl (fun bs w hS => ?_)
      exact ⟨rfl, hS.kp⟩
  | false =>
    have h1 := of_decide_eq_false h1
    exfalso; first | omega | exact h1 (xs_at he i)

theorem cloneS_ByteArray (A : Option Addr) (n c : Nat) (L : List ByteArray) (w : World) (hl : L.length = n) (hsrc : SrcAt w A n (L.flatMap Lay.cells)) (hb : n ≤ 1048576) : Calls Try.prog 62 #[.slice A n c] w fun e w' => ∃ y : Sl ByteArray, e = .returned y.val ∧ y.xs = L ∧ Kp [] w w' ∧ Fresh w w' (rowA 9 y.A y.c y.xs) := by
  refine calls_J0 8 Try.func62 rfl rfl [.slice A n c] rfl ?_
  refine c_seq ?_
  refine c_region ?_
  refine JL_run 1 [] [0] 0 ⟨[(0, .v (.slice A n c))], []⟩ [] [] (by kernel_rfl) on wn ?_
  refine l_nil (q_then_normal ?_)
  refine c_seq ?_
  refine c_seq ?_
  refine c_region ?_
  refine JL_run 2 [(1, .val (.bool A.isNone))] [4, 0] 0 ⟨[(4, vB A.isNone), (0, .v (.slice A n c))], []⟩ [∀ w, (do eqGuard .eql 31 (.tmp 3) (.const (.slice none 0 0)) (.slice A n c) (.slice none 0 0); binOp .eql 31 (.slice A n c) (.slice none 0 0) : Sem Value).run Try.prog w = .ok (.bool A.isNone) w] [] (by kernel_rfl) (oc (eq_nil Try.underlying31) on) wn ?_
  refine l_nil (q_then_normal ?_)
  cases h1 : A.isNone with
  | true =>
    refine c_if true rfl ?_
    refine c_seq ?_
    refine c_region ?_
    refine JL_run 1 [] [2] 0 ⟨[(2, .v (.slice none 0 0))], []⟩ [] [] (by kernel_rfl) on wn ?_
    refine l_nil (q_then_normal ?_)
    refine c_ret ?_
    refine q_then_ret (q_ret (.inl rfl) [.v (.slice none 0 0)] rfl (fun bs w hS => ?_))
    have hnil : L = [] := by cases hA : A with | none => rw [hA] at hsrc; have h0 : n = 0 := hsrc; exact List.eq_nil_of_length_eq_zero (by omega) | some a => rw [hA] at h1; cases h1
    exact ⟨Sl.nil, rfl, hnil.symm, hS.kp, rowA_nil 9 w⟩
  | false =>
    refine c_if false rfl ?_
    refine c_skip ?_
    refine q_then_normal ?_
    refine c_seq ?_
    refine c_region ?_
    refine l_row0A (α := ByteArray) 9 Try.underlying31 (by kernel_rfl) (by kernel_rfl) (by kernel_rfl) rfl ?_
    intro A1
    refine JL_run 1 [] [6, 5] 0 ⟨[(6, .v (.slice A n c)), (5, .v (.slice A1 ([] : List ByteArray).length 0))], []⟩ [] [] (by kernel_rfl) on wn ?_
    refine l_appendA (α := ByteArray) 9 16 A1 0 ([]) (.v (.slice A n c)) (L) Try.underlying31 (by kernel_rfl) rfl rfl rfl (fun bs w hS => ⟨_, _, by rw [hl]; rfl, by rw [hl]; exact (SrcAt.kp hsrc hS.kp)⟩) (by simp only [List.length_nil]; omega) (by simp only [List.length_nil]; omega) ?_
    intro A2 c2
    refine JL_run 1 [] [2] 0 ⟨[(2, .v (.slice A2 ([] ++ L).length c2))], []⟩ [] [] (by kernel_rfl) on wn ?_
    refine l_nil (q_then_normal ?_)
    refine c_ret ?_
    refine q_ret (.inl rfl) [.v (.slice A2 ([] ++ L).length c2)] rfl (fun bs w hS => ?_)
    exact ⟨⟨A2, c2, [] ++ L⟩, rfl, by simp, hS.kp, hS.out1⟩
theorem clone_ByteArray {B : Nat → Prop} (s : Sl ByteArray) (w : World) (hs : s.rd B w) (hb : s.n ≤ 1048576) : Calls Try.prog 62 #[.slice s.A s.n s.c] w fun e w' => ∃ y : Sl ByteArray, e = .returned y.val ∧ y.xs = s.xs ∧ Kp [] w w' ∧ Fresh w w' (rowA 9 y.A y.c y.xs) := cloneS_ByteArray s.A s.n s.c s.xs w rfl hs.src hb

theorem same_log {B B' : Nat → Prop} (a b : CLog) (w : World) (ha : Rds.sub B w a) (hb : Rds.sub B' w b) (he : a.abs = b.abs) : Calls Try.prog 21 #[.agg #[.int .i64 a.base, .slice a.entries.A a.entries.n a.entries.c], .agg #[.int .i64 b.base, .slice b.entries.A b.entries.n b.entries.c]] w fun e w' => e = .returned (.bool true) ∧ Kp [] w w' := by
  have oka := Rds.okof ha
  have okb := Rds.okof hb
  refine calls_J0 17 Try.func21 rfl rfl [.agg #[.int .i64 a.base, .slice a.entries.A a.entries.n a.entries.c], .agg #[.int .i64 b.base, .slice b.entries.A b.entries.n b.entries.c]] rfl ?_
  refine c_seq ?_
  refine c_region ?_
  refine JL_run 3 [] [3, 2] 2 ⟨[(3, .p 1 0), (2, .p 0 0)], [⟨33, [vI a.base, .v (.slice a.entries.A a.entries.n a.entries.c)]⟩, ⟨33, [vI b.base, .v (.slice b.entries.A b.entries.n b.entries.c)]⟩]⟩ [] [] (by kernel_rfl) on wn ?_
  refine l_nil (q_then_normal ?_)
  refine c_seq ?_
  refine c_region ?_
  refine JL_run 6 [] [10, 3, 2] 2 ⟨[(10, vB (decide (a.base = b.base))), (3, .p 1 0), (2, .p 0 0)], [⟨33, [vI a.base, .v (.slice a.entries.A a.entries.n a.entries.c)]⟩, ⟨33, [vI b.base, .v (.slice b.entries.A b.entries.n b.entries.c)]⟩]⟩ [] [] (by kernel_rfl) on wn ?_
  cases h1 : decide (a.base = b.base) with
  | true =>
    have h1 := of_decide_eq_true h1
    refine JL_run 4 [] [14, 12, 10] 0 ⟨[(14, .v (.slice b.entries.A b.entries.n b.entries.c)), (12, .v (.slice a.entries.A a.entries.n a.entries.c)), (10, vB true)], []⟩ [] [] (by kernel_rfl) on wn ?_
    refine l_pure 24 [] [.v (.slice a.entries.A a.entries.n a.entries.c), .v (.slice b.entries.A b.entries.n b.entries.c)] (.bool true) Try.call24 rfl rfl rfl rfl (fun bs w hS => same_texts _ _ w (Rds.kp ha hS.kp) (Rds.kp hb hS.kp) (congrArg DLog.entries he)) ?_
    refine JL_run 2 [] [4] 0 ⟨[(4, vB true)], []⟩ [] [] (by kernel_rfl) on wn ?_
    refine l_nil (q_then_normal ?_)
    refine c_ret ?_
    refine q_ret (.inl rfl) [vB true] rfl (fun bs w hS => ?_)
    exact ⟨rfl, hS.kp⟩
  | false =>
    have h1 := of_decide_eq_false h1
    exact absurd (congrArg (fun q => q.base) he) h1

theorem log_Cut {B : Nat → Prop} (x : CLog) (n : Int) (w : World) (hx : Rds.sub B w x) : Calls Try.prog 19 #[.agg #[.int .i64 x.base, .slice x.entries.A x.entries.n x.entries.c], .int .i64 n] w fun e w' => ∃ y : CLog, e = .returned (.tuple #[y.val, .int .i64 (mCut x.abs n).2]) ∧ y.abs = (mCut x.abs n).1 ∧ FreshS w w' y := by
  have okx := Rds.okof hx
  have ncx := Sl.ok.nc okx
  have hnx : x.entries.n = x.entries.xs.length := rfl
  have hla : mLast x.abs = x.base + (x.entries.n : Int) := rfl
  have q1 : x.abs.base = x.base := rfl
  have q2 : x.abs.entries = x.entries.xs := rfl
  have hat : ∀ q, x.entries.xs.getD q default = x.entries.at q := fun _ => rfl
  refine calls_J0 37 Try.func19 rfl rfl [.agg #[.int .i64 x.base, .slice x.entries.A x.entries.n x.entries.c], .int .i64 n] rfl ?_
  refine c_seq ?_
  refine c_region ?_
  refine JL_run 3 [] [4, 2, 1] 2 ⟨[(4, .p 1 0), (2, .p 0 0), (1, vI n)], [⟨33, [vI x.base, .v (.slice x.entries.A x.entries.n x.entries.c)]⟩, ⟨33, [vI 0, .v (.slice none 0 0)]⟩]⟩ [] [] (by kernel_rfl) on wn ?_
  refine l_nil (q_then_normal ?_)
  refine c_seq ?_
  refine c_seq ?_
  refine c_region ?_
  refine JL_run 1 [] [7, 4, 2, 1] 2 ⟨[(7, .v (.agg #[.int .i64 x.base, .slice x.entries.A x.entries.n x.entries.c])), (4, .p 1 0), (2, .p 0 0), (1, vI n)], [⟨33, [vI x.base, .v (.slice x.entries.A x.entries.n x.entries.c)]⟩, ⟨33, [vI 0, .v (.slice none 0 0)]⟩]⟩ [] [] (by kernel_rfl) on wn ?_
  refine l_pure 60 [] [.v (.agg #[.int .i64 x.base, .slice x.entries.A x.entries.n x.entries.c])] (.int .i64 (mLog x.abs)) Try.call60 rfl rfl rfl rfl (fun bs w hS => log_Check x w (Rds.kp hx hS.kp)) ?_
  refine JL_run 1 [] [6, 4, 2, 1] 2 ⟨[(6, vI (mLog x.abs)), (4, .p 1 0), (2, .p 0 0), (1, vI n)], [⟨33, [vI x.base, .v (.slice x.entries.A x.entries.n x.entries.c)]⟩, ⟨33, [vI 0, .v (.slice none 0 0)]⟩]⟩ [] [] (by kernel_rfl) on wn ?_
  refine l_nil (q_then_normal ?_)
  refine c_seq ?_
  refine c_region ?_
  refine JL_run 2 [] [10, 6, 4, 2, 1] 2 ⟨[(10, vB (!(decide (mLog x.abs = 0)))), (6, vI (mLog x.abs)), (4, .p 1 0), (2, .p 0 0), (1, vI n)], [⟨33, [vI x.base, .v (.slice x.entries.A x.entries.n x.entries.c)]⟩, ⟨33, [vI 0, .v (.slice none 0 0)]⟩]⟩ [] [] (by kernel_rfl) on wn ?_
  refine l_nil (q_then_normal ?_)
  cases h1 : decide (mLog x.abs = 0) with
  | true =>
    have h1 := of_decide_eq_true h1
    obtain ⟨hb1, hb2, hb3, hb4⟩ := mLog_bd h1
    rw [q1] at hb1 hb2
    rw [q2] at hb3
    refine c_if false rfl ?_
    refine c_skip ?_
    refine q_then_normal ?_
    refine c_seq ?_
    refine c_seq ?_
    refine c_region ?_
    refine JL_run 5 [] [17, 4, 2, 1] 2 ⟨[(17, vB (decide (n < x.base))), (4, .p 1 0), (2, .p 0 0), (1, vI n)], [⟨33, [vI x.base, .v (.slice x.entries.A x.entries.n x.entries.c)]⟩, ⟨33, [vI 0, .v (.slice none 0 0)]⟩]⟩ [] [] (by kernel_rfl) on wn ?_
    cases h2 : decide (n < x.base) with
    | true =>
      have h2 := of_decide_eq_true h2
      refine JL_run 5 [] [22, 4, 2, 1] 2 ⟨[(22, vB true), (4, .p 1 0), (2, .p 0 0), (1, vI n)], [⟨33, [vI x.base, .v (.slice x.entries.A x.entries.n x.entries.c)]⟩, ⟨33, [vI 0, .v (.slice none 0 0)]⟩]⟩ [] [] (by kernel_rfl) on wn ?_
      refine l_nil (q_then_normal ?_)
      refine c_if true rfl ?_
      refine c_seq ?_
      refine c_region ?_
      refine JL_run 3 [] [5, 4] 2 ⟨[(5, vI 2), (4, .p 1 0)], [⟨33, [vI x.base, .v (.slice x.entries.A x.entries.n x.entries.c)]⟩, ⟨33, [vI 0, .v (.slice none 0 0)]⟩]⟩ [] [] (by kernel_rfl) on wn ?_
      refine l_nil (q_then_normal ?_)
      refine c_ret ?_
      refine q_then_ret (q_ret (.inl rfl) [.v (.agg #[.int .i64 0, .slice none 0 0]), vI 2] rfl (fun bs w hS => ?_))
      have hm : mCut x.abs n = (zLog, 2) := by unfold mCut; rw [if_neg (by simpa using (by assumption : mLog _ = 0)), hla, q1]; first | rw [if_pos (by omega)] | rw [if_neg (by omega), if_pos (by omega)]
      refine ⟨⟨0, Sl.nil⟩, ?_, ?_, hS.outS (y := (⟨0, Sl.nil⟩ : CLog)) (Sl.rd_nil _ _)⟩
      · simp only [retOf, den, List.map_cons, List.map_nil]; rw [hm]; rfl
      · rw [hm]; rfl
    | false =>
      have h2 := of_decide_eq_false h2
      refine JL_run 2 [] [19, 18, 17, 4, 2, 1] 2 ⟨[(19, .v (.agg #[.int .i64 x.base, .slice x.entries.A x.entries.n x.entries.c])), (18, vI n), (17, vB false), (4, .p 1 0), (2, .p 0 0), (1, vI n)], [⟨33, [vI x.base, .v (.slice x.entries.A x.entries.n x.entries.c)]⟩, ⟨33, [vI 0, .v (.slice none 0 0)]⟩]⟩ [] [] (by kernel_rfl) on wn ?_
      refine l_pure 61 [] [.v (.agg #[.int .i64 x.base, .slice x.entries.A x.entries.n x.entries.c])] (.int .i64 (x.base + (x.entries.n : Int))) Try.call61 rfl rfl rfl rfl (fun bs w hS => log_Last x w (Rds.kp hx hS.kp) (by first | exact ⟨by omega, by omega, by omega⟩ | omega)) ?_
      refine JL_run 2 [] [22, 4, 2, 1] 2 ⟨[(22, vB (decide (x.base + (x.entries.n : Int) < n))), (4, .p 1 0), (2, .p 0 0), (1, vI n)], [⟨33, [vI x.base, .v (.slice x.entries.A x.entries.n x.entries.c)]⟩, ⟨33, [vI 0, .v (.slice none 0 0)]⟩]⟩ [] [] (by kernel_rfl) on wn ?_
      refine l_nil (q_then_normal ?_)
      cases h3 : decide (x.base + (x.entries.n : Int) < n) with
      | true =>
        have h3 := of_decide_eq_true h3
        refine c_if true rfl ?_
        refine c_seq ?_
        refine c_region ?_
        refine JL_run 3 [] [5, 4] 2 ⟨[(5, vI 2), (4, .p 1 0)], [⟨33, [vI x.base, .v (.slice x.entries.A x.entries.n x.entries.c)]⟩, ⟨33, [vI 0, .v (.slice none 0 0)]⟩]⟩ [] [] (by kernel_rfl) on wn ?_
        refine l_nil (q_then_normal ?_)
        refine c_ret ?_
        refine q_then_ret (q_ret (.inl rfl) [.v (.agg #[.int .i64 0, .slice none 0 0]), vI 2] rfl (fun bs w hS => ?_))
        have hm : mCut x.abs n = (zLog, 2) := by unfold mCut; rw [if_neg (by simpa using (by assumption : mLog _ = 0)), hla, q1]; first | rw [if_pos (by omega)] | rw [if_neg (by omega), if_pos (by omega)]
        refine ⟨⟨0, Sl.nil⟩, ?_, ?_, hS.outS (y := (⟨0, Sl.nil⟩ : CLog)) (Sl.rd_nil _ _)⟩
        · simp only [retOf, den, List.map_cons, List.map_nil]; rw [hm]; rfl
        · rw [hm]; rfl
      | false =>
        have h3 := of_decide_eq_false h3
        refine c_if false rfl ?_
        refine c_skip ?_
        refine q_then_normal ?_
        refine c_seq ?_
        refine c_seq ?_
        refine c_region ?_
        refine JL_run 2 [] [25, 4, 2, 1] 2 ⟨[(25, vB (decide ((1073741424 : Int) < n))), (4, .p 1 0), (2, .p 0 0), (1, vI n)], [⟨33, [vI x.base, .v (.slice x.entries.A x.entries.n x.entries.c)]⟩, ⟨33, [vI 0, .v (.slice none 0 0)]⟩]⟩ [] [] (by kernel_rfl) on wn ?_
        refine l_nil (q_then_normal ?_)
        cases h4 : decide ((1073741424 : Int) < n) with
        | true =>
          have h4 := of_decide_eq_true h4
          refine c_if true rfl ?_
          refine c_seq ?_
          refine c_region ?_
          refine JL_run 3 [] [5, 4] 2 ⟨[(5, vI 8), (4, .p 1 0)], [⟨33, [vI x.base, .v (.slice x.entries.A x.entries.n x.entries.c)]⟩, ⟨33, [vI 0, .v (.slice none 0 0)]⟩]⟩ [] [] (by kernel_rfl) on wn ?_
          refine l_nil (q_then_normal ?_)
          refine c_ret ?_
          refine q_then_ret (q_ret (.inl rfl) [.v (.agg #[.int .i64 0, .slice none 0 0]), vI 8] rfl (fun bs w hS => ?_))
          have hm : mCut x.abs n = (zLog, 8) := by unfold mCut; rw [if_neg (by simpa using (by assumption : mLog _ = 0)), hla, q1]; first | rw [if_pos (by omega)] | rw [if_neg (by omega), if_pos (by omega)]
          refine ⟨⟨0, Sl.nil⟩, ?_, ?_, hS.outS (y := (⟨0, Sl.nil⟩ : CLog)) (Sl.rd_nil _ _)⟩
          · simp only [retOf, den, List.map_cons, List.map_nil]; rw [hm]; rfl
          · rw [hm]; rfl
        | false =>
          have h4 := of_decide_eq_false h4
          refine c_if false rfl ?_
          refine c_skip ?_
          refine q_then_normal ?_
          refine c_seq ?_
          refine c_region ?_
          refine JL_run 8 [(7, .sl (n - x.base).toNat x.entries.n)] [34, 27, 4] 2 ⟨[(34, .v (.slice (if x.entries.c = (n - x.base).toNat then x.entries.A else x.entries.A.map (·.add ((n - x.base).toNat * 1))) (x.entries.n - (n - x.base).toNat) (x.entries.c - (n - x.base).toNat))), (27, vI n), (4, .p 1 0)], [⟨33, [vI x.base, .v (.slice x.entries.A x.entries.n x.entries.c)]⟩, ⟨33, [vI 0, .v (.slice none 0 0)]⟩]⟩ [inR (n - x.base), n - x.base = (((n - x.base).toNat : Nat) : Int), x.entries.n = x.entries.n, (n - x.base).toNat ≤ x.entries.n] [] (by kernel_rfl) (oc (by unfold inR; omega) (oc (by omega) (oc rfl (oc (by omega) on)))) wn ?_
          refine l_freshF (σ := Sl ByteArray) 62 [] [.v (.slice (if x.entries.c = (n - x.base).toNat then x.entries.A else x.entries.A.map (·.add ((n - x.base).toNat * 1))) (x.entries.n - (n - x.base).toNat) (x.entries.c - (n - x.base).toNat))] (fun y1 => .slice y1.A y1.n y1.c) (fun y1 => y1.xs = x.entries.xs.drop (n - x.base).toNat) (fun y1 => rowA 9 y1.A y1.c (y1.xs : List ByteArray)) Try.call62 rfl rfl rfl rfl (fun bs w hS => cloneS_ByteArray _ _ _ (x.entries.xs.drop (n - x.base).toNat) w (show (x.entries.xs.drop (n - x.base).toNat).length = x.entries.n - (n - x.base).toNat from List.length_drop ..) (Sl.rd.srcDrop (s := x.entries) (Rds.kp hx hS.kp) (by omega)) (by omega)) ?_
          rintro y1 hF1
          refine JL_run 3 [] [5, 4] 2 ⟨[(5, vI 0), (4, .p 1 0)], [⟨33, [vI x.base, .v (.slice x.entries.A x.entries.n x.entries.c)]⟩, ⟨33, [vI n, .v (.slice y1.A y1.n y1.c)]⟩]⟩ [] [] (by kernel_rfl) on wn ?_
          refine l_nil (q_then_normal ?_)
          refine c_ret ?_
          refine q_ret (.inl rfl) [.v (.agg #[.int .i64 n, .slice y1.A y1.n y1.c]), vI 0] rfl (fun bs w hS => ?_)
          have hm : mCut x.abs n = (⟨n, x.entries.xs.drop (n - x.base).toNat⟩, 0) := by unfold mCut; rw [if_neg (by simpa using (by assumption : mLog _ = 0)), hla, q1]; rw [if_neg (by omega), if_neg (by omega)]; rfl
          have hsz : ∀ z, z ∈ y1.xs → z.size ≤ 9223372036854775807 := fun z hz => Sl.rd.mem (s := x.entries) hx z (List.mem_of_mem_drop (hF1 ▸ hz))
          refine ⟨⟨n, ⟨y1.A, y1.c, y1.xs⟩⟩, ?_, ?_, hS.outS (y := (⟨n, ⟨y1.A, y1.c, y1.xs⟩⟩ : CLog)) (allR_row (.head _) (hS.res _ (.head _)) hsz)⟩
          · rw [hm]; rfl
          · rw [hm]; simp [CLog.abs, hF1]
  | false =>
    have h1 := of_decide_eq_false h1
    refine c_if true rfl ?_
    refine c_seq ?_
    refine c_region ?_
    refine JL_run 4 [] [5, 4] 2 ⟨[(5, vI (mLog x.abs)), (4, .p 1 0)], [⟨33, [vI x.base, .v (.slice x.entries.A x.entries.n x.entries.c)]⟩, ⟨33, [vI 0, .v (.slice none 0 0)]⟩]⟩ [] [] (by kernel_rfl) on wn ?_
    refine l_nil (q_then_normal ?_)
    refine c_ret ?_
    refine q_then_ret (q_ret (.inl rfl) [.v (.agg #[.int .i64 0, .slice none 0 0]), vI (mLog x.abs)] rfl (fun bs w hS => ?_))
    have hm : mCut x.abs n = (zLog, mLog x.abs) := by unfold mCut; rw [if_pos h1]
    refine ⟨⟨0, Sl.nil⟩, ?_, ?_, hS.outS (y := (⟨0, Sl.nil⟩ : CLog)) (Sl.rd_nil _ _)⟩
    · simp only [retOf, den, List.map_cons, List.map_nil]; rw [hm]; rfl
    · rw [hm]; rfl

theorem ref_CutOf {B : Nat → Prop} (x : CLog) (n : Int) (w : World) (hx : Rds.sub B w x) : Calls Try.prog 20 #[.agg #[.int .i64 x.base, .slice x.entries.A x.entries.n x.entries.c], .int .i64 n] w fun e w' => ∃ y : CLog, e = .returned (.tuple #[y.val, .int .i64 (mCut x.abs n).2]) ∧ y.abs = (mCut x.abs n).1 ∧ FreshS w w' y := by
  have okx := Rds.okof hx
  have ncx := Sl.ok.nc okx
  have hnx : x.entries.n = x.entries.xs.length := rfl
  have hla : mLast x.abs = x.base + (x.entries.n : Int) := rfl
  have q1 : x.abs.base = x.base := rfl
  have q2 : x.abs.entries = x.entries.xs := rfl
  have hat : ∀ q, x.entries.xs.getD q default = x.entries.at q := fun _ => rfl
  refine calls_J0 40 Try.func20 rfl rfl [.agg #[.int .i64 x.base, .slice x.entries.A x.entries.n x.entries.c], .int .i64 n] rfl ?_
  refine c_seq ?_
  refine c_region ?_
  refine JL_run 3 [] [4, 2, 1] 2 ⟨[(4, .p 1 0), (2, .p 0 0), (1, vI n)], [⟨33, [vI x.base, .v (.slice x.entries.A x.entries.n x.entries.c)]⟩, ⟨33, [vI 0, .v (.slice none 0 0)]⟩]⟩ [] [] (by kernel_rfl) on wn ?_
  refine l_nil (q_then_normal ?_)
  refine c_seq ?_
  refine c_region ?_
  refine JL_run 1 [] [7, 4, 2, 1] 2 ⟨[(7, .v (.agg #[.int .i64 x.base, .slice x.entries.A x.entries.n x.entries.c])), (4, .p 1 0), (2, .p 0 0), (1, vI n)], [⟨33, [vI x.base, .v (.slice x.entries.A x.entries.n x.entries.c)]⟩, ⟨33, [vI 0, .v (.slice none 0 0)]⟩]⟩ [] [] (by kernel_rfl) on wn ?_
  refine l_pure 63 [] [.v (.agg #[.int .i64 x.base, .slice x.entries.A x.entries.n x.entries.c])] (.int .i64 (mLog x.abs)) Try.call63 rfl rfl rfl rfl (fun bs w hS => ref_LogFault x w (Rds.kp hx hS.kp)) ?_
  refine JL_run 1 [] [6, 4, 2, 1] 2 ⟨[(6, vI (mLog x.abs)), (4, .p 1 0), (2, .p 0 0), (1, vI n)], [⟨33, [vI x.base, .v (.slice x.entries.A x.entries.n x.entries.c)]⟩, ⟨33, [vI 0, .v (.slice none 0 0)]⟩]⟩ [] [] (by kernel_rfl) on wn ?_
  refine l_nil (q_then_normal ?_)
  refine c_seq ?_
  refine c_seq ?_
  refine c_draw 11 [(0, false), (1, false), (2, false), (3, false), (4, false), (5, false), (6, false), (7, true), (8, true), (9, false), (10, false)] [] [] Try_mixed (by kernel_rfl) (pq_then (pq_then pq_body)) (List.Sublist.refl _) ?_
  refine h_quiet [] 3 [(11, vB (decide (mLog x.abs = 0))), (10, vB (decide (mLog x.abs = 0))), (9, vI (mLog x.abs)), (6, vI (mLog x.abs)), (4, .p 1 0), (2, .p 0 0), (1, vI n)] [] [] rfl rfl (by kernel_rfl) on wn ?_
  cases h1 : decide (mLog x.abs = 0) with
  | true =>
    have h1 := of_decide_eq_true h1
    obtain ⟨hb1, hb2, hb3, hb4⟩ := mLog_bd h1
    rw [q1] at hb1 hb2
    rw [q2] at hb3
    refine h_quiet [] 4 [(15, .v (.agg #[.int .i64 x.base, .slice x.entries.A x.entries.n x.entries.c])), (14, vI x.base), (13, .p 0 0), (12, vI n), (11, vB true), (10, vB true), (9, vI (mLog x.abs)), (6, vI (mLog x.abs)), (4, .p 1 0), (2, .p 0 0), (1, vI n)] [] [] rfl rfl (by kernel_rfl) on wn ?_
    refine h_pure 65 [] [.v (.agg #[.int .i64 x.base, .slice x.entries.A x.entries.n x.entries.c])] (.int .i64 (x.base + (x.entries.n : Int))) rfl Try.call65 rfl rfl rfl rfl (fun bs w hS => ref_LastOf x w (Rds.kp hx hS.kp) (by first | exact ⟨by omega, by omega, by omega⟩ | omega)) (fun bs0 bs w hp hl hS => hS.down hp hl rfl (le_same (le_same le_nil)) (List.Sublist.refl _)) ?_
    refine h_pure 64 [] [vI n, vI x.base, vI (x.base + (x.entries.n : Int))] (.bool (inB n x.base (x.base + (x.entries.n : Int)))) rfl Try.call64 rfl rfl rfl rfl (fun bs w hS => ref_In _ _ _ w) (fun bs0 bs w hp hl hS => hS.down hp hl rfl (le_same (le_same le_nil)) (List.Sublist.refl _)) ?_
    refine h_quiet [] 2 [(19, vB (!(inB n x.base (x.base + (x.entries.n : Int))))), (18, vB (!(inB n x.base (x.base + (x.entries.n : Int))))), (17, vB (inB n x.base (x.base + (x.entries.n : Int)))), (16, vI (x.base + (x.entries.n : Int))), (15, .v (.agg #[.int .i64 x.base, .slice x.entries.A x.entries.n x.entries.c])), (14, vI x.base), (13, .p 0 0), (12, vI n), (11, vB true), (10, vB true), (9, vI (mLog x.abs)), (6, vI (mLog x.abs)), (4, .p 1 0), (2, .p 0 0), (1, vI n)] [] [] rfl rfl (by kernel_rfl) on wn ?_
    refine h_nil ?_
    refine l_nil (q_then_normal ?_)
    cases h2 : inB n x.base (x.base + (x.entries.n : Int)) with
    | true =>
      simp only [inB, Bool.and_eq_true, Bool.and_eq_false_iff, decide_eq_true_eq, decide_eq_false_iff_not] at h2
      refine c_if false rfl ?_
      refine c_skip ?_
      refine q_then_normal ?_
      refine c_seq ?_
      refine c_seq ?_
      refine c_region ?_
      refine JL_run 3 [] [22, 6, 4, 2, 1] 2 ⟨[(22, vB (decide (mLog x.abs = 0))), (6, vI (mLog x.abs)), (4, .p 1 0), (2, .p 0 0), (1, vI n)], [⟨33, [vI x.base, .v (.slice x.entries.A x.entries.n x.entries.c)]⟩, ⟨33, [vI 0, .v (.slice none 0 0)]⟩]⟩ [] [] (by kernel_rfl) on wn ?_
      cases h3 : decide (mLog x.abs = 0) with
      | true =>
        have h3 := of_decide_eq_true h3
        obtain ⟨hb1, hb2, hb3, hb4⟩ := mLog_bd h3
        rw [q1] at hb1 hb2
        rw [q2] at hb3
        refine JL_run 3 [] [25, 6, 4, 2, 1] 2 ⟨[(25, vB (decide ((1073741424 : Int) < n))), (6, vI (mLog x.abs)), (4, .p 1 0), (2, .p 0 0), (1, vI n)], [⟨33, [vI x.base, .v (.slice x.entries.A x.entries.n x.entries.c)]⟩, ⟨33, [vI 0, .v (.slice none 0 0)]⟩]⟩ [] [] (by kernel_rfl) on wn ?_
        refine l_nil (q_then_normal ?_)
        cases h4 : decide ((1073741424 : Int) < n) with
        | true =>
          have h4 := of_decide_eq_true h4
          refine c_if true rfl ?_
          refine c_region ?_
          refine JL_run 1 [] [6, 4, 2, 1] 2 ⟨[(6, vI 8), (4, .p 1 0), (2, .p 0 0), (1, vI n)], [⟨33, [vI x.base, .v (.slice x.entries.A x.entries.n x.entries.c)]⟩, ⟨33, [vI 0, .v (.slice none 0 0)]⟩]⟩ [] [] (by kernel_rfl) on wn ?_
          refine l_nil (q_then_normal ?_)
          refine c_seq ?_
          refine c_seq ?_
          refine c_region ?_
          refine JL_run 2 [] [27, 6, 4, 2, 1] 2 ⟨[(27, vB true), (6, vI 8), (4, .p 1 0), (2, .p 0 0), (1, vI n)], [⟨33, [vI x.base, .v (.slice x.entries.A x.entries.n x.entries.c)]⟩, ⟨33, [vI 0, .v (.slice none 0 0)]⟩]⟩ [] [] (by kernel_rfl) on wn ?_
          refine l_nil (q_then_normal ?_)
          refine c_if true rfl ?_
          refine c_seq ?_
          refine c_region ?_
          refine JL_run 4 [] [5, 4] 2 ⟨[(5, vI 8), (4, .p 1 0)], [⟨33, [vI x.base, .v (.slice x.entries.A x.entries.n x.entries.c)]⟩, ⟨33, [vI 0, .v (.slice none 0 0)]⟩]⟩ [] [] (by kernel_rfl) on wn ?_
          refine l_nil (q_then_normal ?_)
          refine c_ret ?_
          refine q_then_ret (q_ret (.inl rfl) [.v (.agg #[.int .i64 0, .slice none 0 0]), vI 8] rfl (fun bs w hS => ?_))
          have hm : mCut x.abs n = (zLog, 8) := by unfold mCut; rw [if_neg (by simpa using (by assumption : mLog _ = 0)), hla, q1]; first | rw [if_pos (by omega)] | rw [if_neg (by omega), if_pos (by omega)]
          refine ⟨⟨0, Sl.nil⟩, ?_, ?_, hS.outS (y := (⟨0, Sl.nil⟩ : CLog)) (Sl.rd_nil _ _)⟩
          · simp only [retOf, den, List.map_cons, List.map_nil]; rw [hm]; rfl
          · rw [hm]; rfl
        | false =>
          have h4 := of_decide_eq_false h4
          refine c_if false rfl ?_
          refine c_skip ?_
          refine q_then_normal ?_
          refine c_seq ?_
          refine c_seq ?_
          refine c_region ?_
          refine JL_run 2 [] [27, 6, 4, 2, 1] 2 ⟨[(27, vB (!(decide (mLog x.abs = 0)))), (6, vI (mLog x.abs)), (4, .p 1 0), (2, .p 0 0), (1, vI n)], [⟨33, [vI x.base, .v (.slice x.entries.A x.entries.n x.entries.c)]⟩, ⟨33, [vI 0, .v (.slice none 0 0)]⟩]⟩ [] [] (by kernel_rfl) on wn ?_
          refine l_nil (q_then_normal ?_)
          cases h5 : decide (mLog x.abs = 0) with
          | true =>
            have h5 := of_decide_eq_true h5
            obtain ⟨hb1, hb2, hb3, hb4⟩ := mLog_bd h5
            rw [q1] at hb1 hb2
            rw [q2] at hb3
            refine c_if false rfl ?_
            refine c_skip ?_
            refine q_then_normal ?_
            refine c_seq ?_
            refine c_region ?_
            refine JL_run 8 [(7, .sl (n - x.base).toNat x.entries.n)] [37, 30, 4] 2 ⟨[(37, .v (.slice (if x.entries.c = (n - x.base).toNat then x.entries.A else x.entries.A.map (·.add ((n - x.base).toNat * 1))) (x.entries.n - (n - x.base).toNat) (x.entries.c - (n - x.base).toNat))), (30, vI n), (4, .p 1 0)], [⟨33, [vI x.base, .v (.slice x.entries.A x.entries.n x.entries.c)]⟩, ⟨33, [vI 0, .v (.slice none 0 0)]⟩]⟩ [inR (n - x.base), n - x.base = (((n - x.base).toNat : Nat) : Int), x.entries.n = x.entries.n, (n - x.base).toNat ≤ x.entries.n] [] (by kernel_rfl) (oc (by unfold inR; omega) (oc (by omega) (oc rfl (oc (by omega) on)))) wn ?_
            refine l_rowA (α := ByteArray) 9 ?_
            refine l_appendA (α := ByteArray) 9 16 none 0 ([]) (.v (.slice (if x.entries.c = (n - x.base).toNat then x.entries.A else x.entries.A.map (·.add ((n - x.base).toNat * 1))) (x.entries.n - (n - x.base).toNat) (x.entries.c - (n - x.base).toNat))) (x.entries.xs.drop (n - x.base).toNat) Try.underlying31 (by kernel_rfl) rfl rfl rfl (fun bs w hS => ⟨_, _, by rw [(show (x.entries.xs.drop (n - x.base).toNat).length = x.entries.n - (n - x.base).toNat from List.length_drop ..)]; rfl, by rw [(show (x.entries.xs.drop (n - x.base).toNat).length = x.entries.n - (n - x.base).toNat from List.length_drop ..)]; exact Sl.rd.srcDrop (s := x.entries) (Rds.kp hx hS.kp) (by omega)⟩) (by simp only [List.length_nil, List.length_drop]; omega) (by simp only [List.length_nil, List.length_drop]; omega) ?_
            intro A1 c1
            refine JL_run 3 [] [5, 4] 2 ⟨[(5, vI 0), (4, .p 1 0)], [⟨33, [vI x.base, .v (.slice x.entries.A x.entries.n x.entries.c)]⟩, ⟨33, [vI n, .v (.slice A1 ([] ++ x.entries.xs.drop (n - x.base).toNat).length c1)]⟩]⟩ [] [] (by kernel_rfl) on wn ?_
            refine l_nil (q_then_normal ?_)
            refine c_ret ?_
            refine q_ret (.inl rfl) [.v (.agg #[.int .i64 n, .slice A1 ([] ++ x.entries.xs.drop (n - x.base).toNat).length c1]), vI 0] rfl (fun bs w hS => ?_)
            have hm : mCut x.abs n = (⟨n, x.entries.xs.drop (n - x.base).toNat⟩, 0) := by unfold mCut; rw [if_neg (by simpa using (by assumption : mLog _ = 0)), hla, q1]; rw [if_neg (by omega), if_neg (by omega)]; rfl
            have hsz : ∀ z, z ∈ [] ++ x.entries.xs.drop (n - x.base).toNat → z.size ≤ 9223372036854775807 := fun z hz => Sl.rd.mem (s := x.entries) hx z (List.mem_of_mem_drop (by simpa using hz))
            refine ⟨⟨n, ⟨A1, c1, [] ++ x.entries.xs.drop (n - x.base).toNat⟩⟩, ?_, ?_, hS.outS (y := (⟨n, ⟨A1, c1, [] ++ x.entries.xs.drop (n - x.base).toNat⟩⟩ : CLog)) (allR_row (.head _) (hS.res _ (.head _)) hsz)⟩
            · rw [hm]; rfl
            · rw [hm]; simp [CLog.abs]
          | false =>
            have h5 := of_decide_eq_false h5
            exact absurd h1 h5
      | false =>
        have h3 := of_decide_eq_false h3
        exact absurd h1 h3
    | false =>
      simp only [inB, Bool.and_eq_true, Bool.and_eq_false_iff, decide_eq_true_eq, decide_eq_false_iff_not] at h2
      refine c_if true rfl ?_
      refine c_region ?_
      refine JL_run 1 [] [6, 4, 2, 1] 2 ⟨[(6, vI 2), (4, .p 1 0), (2, .p 0 0), (1, vI n)], [⟨33, [vI x.base, .v (.slice x.entries.A x.entries.n x.entries.c)]⟩, ⟨33, [vI 0, .v (.slice none 0 0)]⟩]⟩ [] [] (by kernel_rfl) on wn ?_
      refine l_nil (q_then_normal ?_)
      refine c_seq ?_
      refine c_seq ?_
      refine c_region ?_
      refine JL_run 6 [] [25, 6, 4, 2, 1] 2 ⟨[(25, vB false), (6, vI 2), (4, .p 1 0), (2, .p 0 0), (1, vI n)], [⟨33, [vI x.base, .v (.slice x.entries.A x.entries.n x.entries.c)]⟩, ⟨33, [vI 0, .v (.slice none 0 0)]⟩]⟩ [] [] (by kernel_rfl) on wn ?_
      refine l_nil (q_then_normal ?_)
      refine c_if false rfl ?_
      refine c_skip ?_
      refine q_then_normal ?_
      refine c_seq ?_
      refine c_seq ?_
      refine c_region ?_
      refine JL_run 2 [] [27, 6, 4, 2, 1] 2 ⟨[(27, vB true), (6, vI 2), (4, .p 1 0), (2, .p 0 0), (1, vI n)], [⟨33, [vI x.base, .v (.slice x.entries.A x.entries.n x.entries.c)]⟩, ⟨33, [vI 0, .v (.slice none 0 0)]⟩]⟩ [] [] (by kernel_rfl) on wn ?_
      refine l_nil (q_then_normal ?_)
      refine c_if true rfl ?_
      refine c_seq ?_
      refine c_region ?_
      refine JL_run 4 [] [5, 4] 2 ⟨[(5, vI 2), (4, .p 1 0)], [⟨33, [vI x.base, .v (.slice x.entries.A x.entries.n x.entries.c)]⟩, ⟨33, [vI 0, .v (.slice none 0 0)]⟩]⟩ [] [] (by kernel_rfl) on wn ?_
      refine l_nil (q_then_normal ?_)
      refine c_ret ?_
      refine q_then_ret (q_ret (.inl rfl) [.v (.agg #[.int .i64 0, .slice none 0 0]), vI 2] rfl (fun bs w hS => ?_))
      have hm : mCut x.abs n = (zLog, 2) := by unfold mCut; rw [if_neg (by simpa using (by assumption : mLog _ = 0)), hla, q1]; first | rw [if_pos (by omega)] | rw [if_neg (by omega), if_pos (by omega)]
      refine ⟨⟨0, Sl.nil⟩, ?_, ?_, hS.outS (y := (⟨0, Sl.nil⟩ : CLog)) (Sl.rd_nil _ _)⟩
      · simp only [retOf, den, List.map_cons, List.map_nil]; rw [hm]; rfl
      · rw [hm]; rfl
  | false =>
    have h1 := of_decide_eq_false h1
    refine h_quiet [] 4 [(15, .v (undef)), (14, .v (undef)), (13, .v (undef)), (12, .v (undef)), (11, vB false), (10, vB false), (9, vI (mLog x.abs)), (6, vI (mLog x.abs)), (4, .p 1 0), (2, .p 0 0), (1, vI n)] [] [] rfl rfl (by kernel_rfl) on wn ?_
    refine h_pass rfl rfl rfl ?_
    refine h_pass rfl rfl rfl ?_
    refine h_quiet [] 2 [(19, vB false), (18, .v (undef)), (17, .v (undef)), (16, .v (undef)), (15, .v (undef)), (14, .v (undef)), (13, .v (undef)), (12, .v (undef)), (11, vB false), (10, vB false), (9, vI (mLog x.abs)), (6, vI (mLog x.abs)), (4, .p 1 0), (2, .p 0 0), (1, vI n)] [] [] rfl rfl (by kernel_rfl) on wn ?_
    refine h_nil ?_
    refine l_nil (q_then_normal ?_)
    refine c_if false rfl ?_
    refine c_skip ?_
    refine q_then_normal ?_
    refine c_seq ?_
    refine c_seq ?_
    refine c_region ?_
    refine JL_run 3 [] [22, 6, 4, 2, 1] 2 ⟨[(22, vB (decide (mLog x.abs = 0))), (6, vI (mLog x.abs)), (4, .p 1 0), (2, .p 0 0), (1, vI n)], [⟨33, [vI x.base, .v (.slice x.entries.A x.entries.n x.entries.c)]⟩, ⟨33, [vI 0, .v (.slice none 0 0)]⟩]⟩ [] [] (by kernel_rfl) on wn ?_
    cases h6 : decide (mLog x.abs = 0) with
    | true =>
      have h6 := of_decide_eq_true h6
      exact absurd h6 h1
    | false =>
      have h6 := of_decide_eq_false h6
      refine JL_run 3 [] [25, 6, 4, 2, 1] 2 ⟨[(25, vB false), (6, vI (mLog x.abs)), (4, .p 1 0), (2, .p 0 0), (1, vI n)], [⟨33, [vI x.base, .v (.slice x.entries.A x.entries.n x.entries.c)]⟩, ⟨33, [vI 0, .v (.slice none 0 0)]⟩]⟩ [] [] (by kernel_rfl) on wn ?_
      refine l_nil (q_then_normal ?_)
      refine c_if false rfl ?_
      refine c_skip ?_
      refine q_then_normal ?_
      refine c_seq ?_
      refine c_seq ?_
      refine c_region ?_
      refine JL_run 2 [] [27, 6, 4, 2, 1] 2 ⟨[(27, vB (!(decide (mLog x.abs = 0)))), (6, vI (mLog x.abs)), (4, .p 1 0), (2, .p 0 0), (1, vI n)], [⟨33, [vI x.base, .v (.slice x.entries.A x.entries.n x.entries.c)]⟩, ⟨33, [vI 0, .v (.slice none 0 0)]⟩]⟩ [] [] (by kernel_rfl) on wn ?_
      refine l_nil (q_then_normal ?_)
      cases h7 : decide (mLog x.abs = 0) with
      | true =>
        have h7 := of_decide_eq_true h7
        exact absurd h7 h1
      | false =>
        have h7 := of_decide_eq_false h7
        refine c_if true rfl ?_
        refine c_seq ?_
        refine c_region ?_
        refine JL_run 4 [] [5, 4] 2 ⟨[(5, vI (mLog x.abs)), (4, .p 1 0)], [⟨33, [vI x.base, .v (.slice x.entries.A x.entries.n x.entries.c)]⟩, ⟨33, [vI 0, .v (.slice none 0 0)]⟩]⟩ [] [] (by kernel_rfl) on wn ?_
        refine l_nil (q_then_normal ?_)
        refine c_ret ?_
        refine q_then_ret (q_ret (.inl rfl) [.v (.agg #[.int .i64 0, .slice none 0 0]), vI (mLog x.abs)] rfl (fun bs w hS => ?_))
        have hm : mCut x.abs n = (zLog, mLog x.abs) := by unfold mCut; rw [if_pos h1]
        refine ⟨⟨0, Sl.nil⟩, ?_, ?_, hS.outS (y := (⟨0, Sl.nil⟩ : CLog)) (Sl.rd_nil _ _)⟩
        · simp only [retOf, den, List.map_cons, List.map_nil]; rw [hm]; rfl
        · rw [hm]; rfl

theorem law_LogCuts {B : Nat → Prop} (x : CLog) (n : Int) (w : World) (hx : Rds.sub B w x) : Calls Try.prog 4 #[.agg #[.int .i64 x.base, .slice x.entries.A x.entries.n x.entries.c], .int .i64 n] w fun e w' => e = .returned (.bool true) ∧ Kp [] w w' := by
  have okx := Rds.okof hx
  refine calls_J0 29 Try.func4 rfl rfl [.agg #[.int .i64 x.base, .slice x.entries.A x.entries.n x.entries.c], .int .i64 n] rfl ?_
  refine c_seq ?_
  refine c_region ?_
  refine JL_run 2 [] [2, 1] 1 ⟨[(2, .p 0 0), (1, vI n)], [⟨33, [vI x.base, .v (.slice x.entries.A x.entries.n x.entries.c)]⟩]⟩ [] [] (by kernel_rfl) on wn ?_
  refine l_nil (q_then_normal ?_)
  refine c_seq ?_
  refine c_region ?_
  refine JL_run 2 [] [11, 10, 2, 1] 1 ⟨[(11, vI n), (10, .v (.agg #[.int .i64 x.base, .slice x.entries.A x.entries.n x.entries.c])), (2, .p 0 0), (1, vI n)], [⟨33, [vI x.base, .v (.slice x.entries.A x.entries.n x.entries.c)]⟩]⟩ [] [] (by kernel_rfl) on wn ?_
  refine l_sub_call (σ := CLog) 19 [] [.v (.agg #[.int .i64 x.base, .slice x.entries.A x.entries.n x.entries.c]), vI n] (fun y1 => .tuple #[.agg #[.int .i64 y1.base, .slice y1.entries.A y1.entries.n y1.entries.c], .int .i64 ((mCut x.abs n).2)]) (fun y1 => y1.abs = (mCut x.abs n).1) Try.call19 rfl rfl rfl rfl (fun bs w hS => log_Cut x n w (Rds.kp hx hS.kp)) ?_
  rintro fp1 y1 hF1 hok1
  refine JL_run 6 [] [6, 5, 2, 1] 2 ⟨[(6, vI ((mCut x.abs n).2)), (5, .p 1 0), (2, .p 0 0), (1, vI n)], [⟨33, [vI x.base, .v (.slice x.entries.A x.entries.n x.entries.c)]⟩, ⟨33, [vI y1.base, .v (.slice y1.entries.A y1.entries.n y1.entries.c)]⟩]⟩ [] [] (by kernel_rfl) on wn ?_
  refine l_nil (q_then_normal ?_)
  refine c_seq ?_
  refine c_region ?_
  refine JL_run 2 [] [17, 16, 6, 5] 2 ⟨[(17, vI n), (16, .v (.agg #[.int .i64 x.base, .slice x.entries.A x.entries.n x.entries.c])), (6, vI ((mCut x.abs n).2)), (5, .p 1 0)], [⟨33, [vI x.base, .v (.slice x.entries.A x.entries.n x.entries.c)]⟩, ⟨33, [vI y1.base, .v (.slice y1.entries.A y1.entries.n y1.entries.c)]⟩]⟩ [] [] (by kernel_rfl) on wn ?_
  refine l_sub_call (σ := CLog) 20 [] [.v (.agg #[.int .i64 x.base, .slice x.entries.A x.entries.n x.entries.c]), vI n] (fun y2 => .tuple #[.agg #[.int .i64 y2.base, .slice y2.entries.A y2.entries.n y2.entries.c], .int .i64 ((mCut x.abs n).2)]) (fun y2 => y2.abs = (mCut x.abs n).1) Try.call20 rfl rfl rfl rfl (fun bs w hS => ref_CutOf x n w (Rds.kp hx hS.kp)) ?_
  rintro fp2 y2 hF2 hok2
  refine JL_run 6 [] [8, 7, 6, 5] 3 ⟨[(8, vI ((mCut x.abs n).2)), (7, .p 2 0), (6, vI ((mCut x.abs n).2)), (5, .p 1 0)], [⟨33, [vI x.base, .v (.slice x.entries.A x.entries.n x.entries.c)]⟩, ⟨33, [vI y1.base, .v (.slice y1.entries.A y1.entries.n y1.entries.c)]⟩, ⟨33, [vI y2.base, .v (.slice y2.entries.A y2.entries.n y2.entries.c)]⟩]⟩ [] [] (by kernel_rfl) on wn ?_
  refine l_nil (q_then_normal ?_)
  refine c_seq ?_
  refine c_region ?_
  refine JL_run 4 [] [24, 7, 5] 3 ⟨[(24, vB (decide ((mCut x.abs n).2 = (mCut x.abs n).2))), (7, .p 2 0), (5, .p 1 0)], [⟨33, [vI x.base, .v (.slice x.entries.A x.entries.n x.entries.c)]⟩, ⟨33, [vI y1.base, .v (.slice y1.entries.A y1.entries.n y1.entries.c)]⟩, ⟨33, [vI y2.base, .v (.slice y2.entries.A y2.entries.n y2.entries.c)]⟩]⟩ [] [] (by kernel_rfl) on wn ?_
  cases h1 : decide ((mCut x.abs n).2 = (mCut x.abs n).2) with
  | true =>
    have h1 := of_decide_eq_true h1
    refine JL_run 2 [] [26, 25, 24] 0 ⟨[(26, .v (.agg #[.int .i64 y2.base, .slice y2.entries.A y2.entries.n y2.entries.c])), (25, .v (.agg #[.int .i64 y1.base, .slice y1.entries.A y1.entries.n y1.entries.c])), (24, vB true)], []⟩ [] [] (by kernel_rfl) on wn ?_
    refine l_pure 21 [] [.v (.agg #[.int .i64 y1.base, .slice y1.entries.A y1.entries.n y1.entries.c]), .v (.agg #[.int .i64 y2.base, .slice y2.entries.A y2.entries.n y2.entries.c])] (.bool true) Try.call21 rfl rfl rfl rfl (fun bs w hS => same_log y1 y2 w (hS.res _ (.tail _ (.head _))) (hS.res _ (.head _)) (by rw [hF1, hF2])) ?_
    refine JL_run 2 [] [4] 0 ⟨[(4, vB true)], []⟩ [] [] (by kernel_rfl) on wn ?_
    refine l_nil (q_then_normal ?_)
    refine c_ret ?_
    refine q_ret (.inl rfl) [vB true] rfl (fun bs w hS => ?_)
    refine ⟨?_, hS.kp⟩
    simp [retOf, den]
  | false =>
    have h1 := of_decide_eq_false h1
    exact absurd rfl h1

end Go.Proofs.Ytececkgjacccmad.W
