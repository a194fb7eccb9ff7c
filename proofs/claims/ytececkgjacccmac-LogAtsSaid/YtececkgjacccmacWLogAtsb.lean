/-
  The functions that the law LogAts reaches, walked: each returns what its model says.
  Conditions: those that each theorem states.
-/
import Derived.Test.YtececkgjacccmacWLogAtsa
set_option linter.unusedVariables false
set_option linter.unusedSimpArgs false
set_option maxRecDepth 100000
namespace Go.Proofs.Ytececkgjacccmac.W
open Go.Proofs.Ytececkgjacccmac.Fw Go.RowKit

theorem ref_CommandOf (s : ByteArray) (w : World) (hs : s.size ≤ 9223372036854775807) : Calls Try.prog 36 #[.string s] w fun e w' => e = .returned (.tuple #[.agg #[.int .i64 ((mDecode s).1.kind), .int .i64 ((mDecode s).1.client), .int .i64 ((mDecode s).1.session), .int .i64 ((mDecode s).1.seq), .int .i64 ((mDecode s).1.acked), .int .i64 ((mDecode s).1.op.kind), .string ((mDecode s).1.op.a), .string ((mDecode s).1.op.b), .int .i64 ((mDecode s).1.op.n)], .int .i64 ((mDecode s).2)]) ∧ Kp [] w w' := by
  have hu0 := (s.data.getD 0 0).toNat_lt
  have hu1 := (s.data.getD 1 0).toNat_lt
  have hex : (s.extract 2 s.size).size ≤ s.size := by simp
  refine calls_J0 110 Try.func36 rfl rfl [.string s] rfl ?_
  refine c_seq ?_
  refine c_region ?_
  refine JL_run 2 [] [2, 0] 1 ⟨[(2, .p 0 0), (0, vS s)], [⟨63, [vI 0, vI 0, vI 0, vI 0, vI 0, vI 0, vS emp, vS emp, vI 0]⟩]⟩ [] [] (by kernel_rfl) on wn ?_
  refine l_nil (q_then_normal ?_)
  refine c_seq ?_
  refine c_seq ?_
  refine c_region ?_
  refine JL_run 3 [] [20, 2, 0] 1 ⟨[(20, vB (decide ((5000 : Int) < (s.size : Int)))), (2, .p 0 0), (0, vS s)], [⟨63, [vI 0, vI 0, vI 0, vI 0, vI 0, vI 0, vS emp, vS emp, vI 0]⟩]⟩ [] [] (by kernel_rfl) on wn ?_
  refine l_nil (q_then_normal ?_)
  cases h1 : decide ((5000 : Int) < (s.size : Int)) with
  | true =>
    have h1 := of_decide_eq_true h1
    refine c_if true rfl ?_
    refine c_seq ?_
    refine c_region ?_
    refine JL_run 3 [] [3, 2] 1 ⟨[(3, vI 1), (2, .p 0 0)], [⟨63, [vI 0, vI 0, vI 0, vI 0, vI 0, vI 0, vS emp, vS emp, vI 0]⟩]⟩ [] [] (by kernel_rfl) on wn ?_
    refine l_nil (q_then_normal ?_)
    refine c_ret ?_
    refine q_then_ret (q_ret (.inl rfl) [.v (.agg #[.int .i64 0, .int .i64 0, .int .i64 0, .int .i64 0, .int .i64 0, .int .i64 0, .string emp, .string emp, .int .i64 0]), vI 1] rfl (fun bs w hS => ?_))
    refine ⟨?_, hS.kp⟩
    have hm : mDecode s = ((⟨0, 0, 0, 0, 0, ⟨0, emp, emp, 0⟩⟩ : DCommand), 1) := by
      have hk : (cmd0 s).kind = ((s.data.getD 0 0).toNat : Int) := rfl
      unfold mDecode
      repeat (first | rw [if_pos (by omega)] | rw [if_neg (by omega)])
      rfl
    rw [hm]
    rfl
  | false =>
    have h1 := of_decide_eq_false h1
    refine c_if false rfl ?_
    refine c_skip ?_
    refine q_then_normal ?_
    refine c_seq ?_
    refine c_seq ?_
    refine c_region ?_
    refine JL_run 3 [] [24, 2, 0] 1 ⟨[(24, vB (decide ((s.size : Int) < 2))), (2, .p 0 0), (0, vS s)], [⟨63, [vI 0, vI 0, vI 0, vI 0, vI 0, vI 0, vS emp, vS emp, vI 0]⟩]⟩ [] [] (by kernel_rfl) on wn ?_
    refine l_nil (q_then_normal ?_)
    cases h2 : decide ((s.size : Int) < 2) with
    | true =>
      have h2 := of_decide_eq_true h2
      refine c_if true rfl ?_
      refine c_seq ?_
      refine c_region ?_
      refine JL_run 3 [] [3, 2] 1 ⟨[(3, vI 5), (2, .p 0 0)], [⟨63, [vI 0, vI 0, vI 0, vI 0, vI 0, vI 0, vS emp, vS emp, vI 0]⟩]⟩ [] [] (by kernel_rfl) on wn ?_
      refine l_nil (q_then_normal ?_)
      refine c_ret ?_
      refine q_then_ret (q_ret (.inl rfl) [.v (.agg #[.int .i64 0, .int .i64 0, .int .i64 0, .int .i64 0, .int .i64 0, .int .i64 0, .string emp, .string emp, .int .i64 0]), vI 5] rfl (fun bs w hS => ?_))
      refine ⟨?_, hS.kp⟩
      have hm : mDecode s = ((⟨0, 0, 0, 0, 0, ⟨0, emp, emp, 0⟩⟩ : DCommand), 5) := by
        have hk : (cmd0 s).kind = ((s.data.getD 0 0).toNat : Int) := rfl
        unfold mDecode
        repeat (first | rw [if_pos (by omega)] | rw [if_neg (by omega)])
        rfl
      rw [hm]
      rfl
    | false =>
      have h2 := of_decide_eq_false h2
      refine c_if false rfl ?_
      refine c_skip ?_
      refine q_then_normal ?_
      refine c_seq ?_
      refine c_draw 8 [(0, false), (1, false), (2, false), (3, false), (4, false), (5, false), (6, false), (7, true)] [] [] Try_mixed (by kernel_rfl) (pq_then pq_body) (List.Sublist.refl _) ?_
      refine h_quiet [(1, .sidx 0), (4, .sidx 1)] 7 [(32, .v (.agg #[.int .i64 ((s.data.getD 0 0).toNat : Int), .int .i64 ((s.data.getD 1 0).toNat : Int), .int .i64 0, .int .i64 0, .int .i64 0, .int .i64 0, .string emp, .string emp, .int .i64 0])), (31, vI ((s.data.getD 1 0).toNat : Int)), (30, .v (.int .u8 ((s.data.getD 1 0).toNat : Int))), (29, vS s), (28, vI ((s.data.getD 0 0).toNat : Int)), (27, .v (.int .u8 ((s.data.getD 0 0).toNat : Int))), (26, vS s), (24, vB false), (2, .p 0 0), (0, vS s)] [(0 : Int) = ((0 : Nat) : Int), 0 < s.size, 0 ≤ ((s.data.getD 0 0).toNat : Int), ((s.data.getD 0 0).toNat : Int) ≤ 255, (1 : Int) = ((1 : Nat) : Int), 1 < s.size, 0 ≤ ((s.data.getD 1 0).toNat : Int), ((s.data.getD 1 0).toNat : Int) ≤ 255] [] rfl rfl (by kernel_rfl) (oc rfl (oc (by omega) (oc (by omega) (oc (by omega) (oc rfl (oc (by omega) (oc (by omega) (oc (by omega) on)))))))) wn ?_
      refine h_local ⟨[(4, .p 1 0), (32, .v (.agg #[.int .i64 ((s.data.getD 0 0).toNat : Int), .int .i64 ((s.data.getD 1 0).toNat : Int), .int .i64 0, .int .i64 0, .int .i64 0, .int .i64 0, .string emp, .string emp, .int .i64 0])), (31, vI ((s.data.getD 1 0).toNat : Int)), (30, .v (.int .u8 ((s.data.getD 1 0).toNat : Int))), (29, vS s), (28, vI ((s.data.getD 0 0).toNat : Int)), (27, .v (.int .u8 ((s.data.getD 0 0).toNat : Int))), (26, vS s), (24, vB false), (2, .p 0 0), (0, vS s)], [⟨63, [vI 0, vI 0, vI 0, vI 0, vI 0, vI 0, vS emp, vS emp, vI 0]⟩, ⟨63, [vI 0, vI 0, vI 0, vI 0, vI 0, vI 0, vS emp, vS emp, vI 0]⟩]⟩ (by kernel_rfl) (fun bs0 bs w hp hl hS => hS.down hp hl rfl (le_same le_nil) (List.Sublist.refl _)) ?_
      refine h_nil ?_
      refine JL_run 1 [] [4, 2, 0] 2 ⟨[(4, .p 1 0), (2, .p 0 0), (0, vS s)], [⟨63, [vI 0, vI 0, vI 0, vI 0, vI 0, vI 0, vS emp, vS emp, vI 0]⟩, ⟨63, [vI ((s.data.getD 0 0).toNat : Int), vI ((s.data.getD 1 0).toNat : Int), vI 0, vI 0, vI 0, vI 0, vS emp, vS emp, vI 0]⟩]⟩ [] [] (by kernel_rfl) on wn ?_
      refine l_nil (q_then_normal ?_)
      refine c_seq ?_
      refine c_region ?_
      refine JL_run 3 [(1, .sl 2 s.size)] [5, 4, 2] 2 ⟨[(5, vS (s.extract 2 s.size)), (4, .p 1 0), (2, .p 0 0)], [⟨63, [vI 0, vI 0, vI 0, vI 0, vI 0, vI 0, vS emp, vS emp, vI 0]⟩, ⟨63, [vI ((s.data.getD 0 0).toNat : Int), vI ((s.data.getD 1 0).toNat : Int), vI 0, vI 0, vI 0, vI 0, vS emp, vS emp, vI 0]⟩]⟩ [(2 : Int) = ((2 : Nat) : Int), s.size = s.size, 2 ≤ s.size] [] (by kernel_rfl) (oc rfl (oc rfl (oc (by omega) on))) wn ?_
      refine l_nil (q_then_normal ?_)
      refine c_seq ?_
      refine c_seq ?_
      refine c_region ?_
      refine JL_run 3 [] [37, 5, 4, 2] 2 ⟨[(37, vB (decide (((s.data.getD 0 0).toNat : Int) = 2))), (5, vS (s.extract 2 s.size)), (4, .p 1 0), (2, .p 0 0)], [⟨63, [vI 0, vI 0, vI 0, vI 0, vI 0, vI 0, vS emp, vS emp, vI 0]⟩, ⟨63, [vI ((s.data.getD 0 0).toNat : Int), vI ((s.data.getD 1 0).toNat : Int), vI 0, vI 0, vI 0, vI 0, vS emp, vS emp, vI 0]⟩]⟩ [] [] (by kernel_rfl) on wn ?_
      refine l_nil (q_then_normal ?_)
      cases h3 : decide (((s.data.getD 0 0).toNat : Int) = 2) with
      | true =>
        have h3 := of_decide_eq_true h3
        refine c_if true rfl ?_
        refine c_seq ?_
        refine c_region ?_
        refine JL_run 1 [] [6, 5, 4, 2] 3 ⟨[(6, .p 2 0), (5, vS (s.extract 2 s.size)), (4, .p 1 0), (2, .p 0 0)], [⟨63, [vI 0, vI 0, vI 0, vI 0, vI 0, vI 0, vS emp, vS emp, vI 0]⟩, ⟨63, [vI ((s.data.getD 0 0).toNat : Int), vI ((s.data.getD 1 0).toNat : Int), vI 0, vI 0, vI 0, vI 0, vS emp, vS emp, vI 0]⟩, ⟨119, [vI 0, vI 0, vI 0, vI 0, vI 0]⟩]⟩ [] [] (by kernel_rfl) on wn ?_
        refine l_nil (q_then_normal ?_)
        refine c_seq ?_
        refine c_seq ?_
        refine c_region ?_
        refine JL_run 1 [] [7, 6, 5, 4, 2] 3 ⟨[(7, vI 0), (6, .p 2 0), (5, vS (s.extract 2 s.size)), (4, .p 1 0), (2, .p 0 0)], [⟨63, [vI 0, vI 0, vI 0, vI 0, vI 0, vI 0, vS emp, vS emp, vI 0]⟩, ⟨63, [vI ((s.data.getD 0 0).toNat : Int), vI ((s.data.getD 1 0).toNat : Int), vI 0, vI 0, vI 0, vI 0, vS emp, vS emp, vI 0]⟩, ⟨119, [vI 0, vI 0, vI 0, vI 0, vI 0]⟩]⟩ [] [] (by kernel_rfl) on wn ?_
        refine l_nil (q_then_normal ?_)
        refine c_block ?_
        refine c_unroll (n := 6) ?_
        refine c_seq ?_
        refine c_seq ?_
        refine c_region ?_
        refine JL_run 2 [] [39, 7, 6, 5, 4, 2] 3 ⟨[(39, vB true), (7, vI 0), (6, .p 2 0), (5, vS (s.extract 2 s.size)), (4, .p 1 0), (2, .p 0 0)], [⟨63, [vI 0, vI 0, vI 0, vI 0, vI 0, vI 0, vS emp, vS emp, vI 0]⟩, ⟨63, [vI ((s.data.getD 0 0).toNat : Int), vI ((s.data.getD 1 0).toNat : Int), vI 0, vI 0, vI 0, vI 0, vS emp, vS emp, vI 0]⟩, ⟨119, [vI 0, vI 0, vI 0, vI 0, vI 0]⟩]⟩ [] [] (by kernel_rfl) on wn ?_
        refine l_nil (q_then_normal ?_)
        refine c_if true rfl ?_
        refine c_skip ?_
        refine q_then_normal ?_
        refine c_seq ?_
        refine c_block ?_
        refine c_seq ?_
        refine c_region ?_
        refine JL_run 1 [] [43, 7, 6, 4, 2] 3 ⟨[(43, vS (s.extract 2 s.size)), (7, vI 0), (6, .p 2 0), (4, .p 1 0), (2, .p 0 0)], [⟨63, [vI 0, vI 0, vI 0, vI 0, vI 0, vI 0, vS emp, vS emp, vI 0]⟩, ⟨63, [vI ((s.data.getD 0 0).toNat : Int), vI ((s.data.getD 1 0).toNat : Int), vI 0, vI 0, vI 0, vI 0, vS emp, vS emp, vI 0]⟩, ⟨119, [vI 0, vI 0, vI 0, vI 0, vI 0]⟩]⟩ [] [] (by kernel_rfl) on wn ?_
        refine l_pure 83 [] [vS (s.extract 2 s.size)] (.tuple #[.int .i64 ((mRead (s.extract 2 s.size)).1), .string ((mRead (s.extract 2 s.size)).2.1), .int .i64 ((mRead (s.extract 2 s.size)).2.2)]) Try.call83 rfl rfl rfl rfl (fun bs w hS => ref_NumberOf _ w (by first | assumption | omega | (simp only [emp_size]; omega))) ?_
        have hzr1 := mRead_bd (s.extract 2 s.size)
        generalize hr1 : mRead (s.extract 2 s.size) = r1 at hzr1 ⊢
        refine JL_run 7 [] [10, 9, 8, 7, 6, 4, 2] 3 ⟨[(10, vI r1.2.2), (9, vS r1.2.1), (8, vI r1.1), (7, vI 0), (6, .p 2 0), (4, .p 1 0), (2, .p 0 0)], [⟨63, [vI 0, vI 0, vI 0, vI 0, vI 0, vI 0, vS emp, vS emp, vI 0]⟩, ⟨63, [vI ((s.data.getD 0 0).toNat : Int), vI ((s.data.getD 1 0).toNat : Int), vI 0, vI 0, vI 0, vI 0, vS emp, vS emp, vI 0]⟩, ⟨119, [vI 0, vI 0, vI 0, vI 0, vI 0]⟩]⟩ [] [] (by kernel_rfl) on wn ?_
        refine l_nil (q_then_normal ?_)
        refine c_seq ?_
        refine c_seq ?_
        refine c_region ?_
        refine JL_run 2 [] [49, 10, 9, 8, 7, 6, 4, 2] 3 ⟨[(49, vB (!(decide (r1.2.2 = 0)))), (10, vI r1.2.2), (9, vS r1.2.1), (8, vI r1.1), (7, vI 0), (6, .p 2 0), (4, .p 1 0), (2, .p 0 0)], [⟨63, [vI 0, vI 0, vI 0, vI 0, vI 0, vI 0, vS emp, vS emp, vI 0]⟩, ⟨63, [vI ((s.data.getD 0 0).toNat : Int), vI ((s.data.getD 1 0).toNat : Int), vI 0, vI 0, vI 0, vI 0, vS emp, vS emp, vI 0]⟩, ⟨119, [vI 0, vI 0, vI 0, vI 0, vI 0]⟩]⟩ [] [] (by kernel_rfl) on wn ?_
        refine l_nil (q_then_normal ?_)
        cases h4 : decide (r1.2.2 = 0) with
        | true =>
          have h4 := of_decide_eq_true h4
          refine c_if false rfl ?_
          refine c_skip ?_
          refine q_then_normal ?_
          refine c_seq ?_
          refine c_region ?_
          refine JL_run 4 [(2, .idx default 0)] [9, 7, 6, 4, 2] 3 ⟨[(9, vS r1.2.1), (7, vI 0), (6, .p 2 0), (4, .p 1 0), (2, .p 0 0)], [⟨63, [vI 0, vI 0, vI 0, vI 0, vI 0, vI 0, vS emp, vS emp, vI 0]⟩, ⟨63, [vI ((s.data.getD 0 0).toNat : Int), vI ((s.data.getD 1 0).toNat : Int), vI 0, vI 0, vI 0, vI 0, vS emp, vS emp, vI 0]⟩, ⟨119, [vI r1.1, vI 0, vI 0, vI 0, vI 0]⟩]⟩ [(0 : Int) = ((0 : Nat) : Int), 0 < 5] [] (by kernel_rfl) (oc rfl (oc (by omega) on)) wn ?_
          refine l_nil (q_then_normal ?_)
          refine c_region ?_
          refine JL_run 2 [] [5, 7, 6, 4, 2] 3 ⟨[(5, vS r1.2.1), (7, vI 0), (6, .p 2 0), (4, .p 1 0), (2, .p 0 0)], [⟨63, [vI 0, vI 0, vI 0, vI 0, vI 0, vI 0, vS emp, vS emp, vI 0]⟩, ⟨63, [vI ((s.data.getD 0 0).toNat : Int), vI ((s.data.getD 1 0).toNat : Int), vI 0, vI 0, vI 0, vI 0, vS emp, vS emp, vI 0]⟩, ⟨119, [vI r1.1, vI 0, vI 0, vI 0, vI 0]⟩]⟩ [] [] (by kernel_rfl) on wn ?_
          refine l_nil (q_block_normal (q_then_normal ?_))
          refine c_region ?_
          refine JL_run 3 [] [7, 5, 6, 4, 2] 3 ⟨[(7, vI 1), (5, vS r1.2.1), (6, .p 2 0), (4, .p 1 0), (2, .p 0 0)], [⟨63, [vI 0, vI 0, vI 0, vI 0, vI 0, vI 0, vS emp, vS emp, vI 0]⟩, ⟨63, [vI ((s.data.getD 0 0).toNat : Int), vI ((s.data.getD 1 0).toNat : Int), vI 0, vI 0, vI 0, vI 0, vS emp, vS emp, vI 0]⟩, ⟨119, [vI r1.1, vI 0, vI 0, vI 0, vI 0]⟩]⟩ [inR (1)] [] (by kernel_rfl) (oc (by unfold inR; omega) on) wn ?_
          refine l_nil (q_round ?_)
          refine c_seq ?_
          refine c_seq ?_
          refine c_region ?_
          refine JL_run 2 [] [39, 7, 5, 6, 4, 2] 3 ⟨[(39, vB true), (7, vI 1), (5, vS r1.2.1), (6, .p 2 0), (4, .p 1 0), (2, .p 0 0)], [⟨63, [vI 0, vI 0, vI 0, vI 0, vI 0, vI 0, vS emp, vS emp, vI 0]⟩, ⟨63, [vI ((s.data.getD 0 0).toNat : Int), vI ((s.data.getD 1 0).toNat : Int), vI 0, vI 0, vI 0, vI 0, vS emp, vS emp, vI 0]⟩, ⟨119, [vI r1.1, vI 0, vI 0, vI 0, vI 0]⟩]⟩ [] [] (by kernel_rfl) on wn ?_
          refine l_nil (q_then_normal ?_)
          refine c_if true rfl ?_
          refine c_skip ?_
          refine q_then_normal ?_
          refine c_seq ?_
          refine c_block ?_
          refine c_seq ?_
          refine c_region ?_
          refine JL_run 1 [] [43, 7, 6, 4, 2] 3 ⟨[(43, vS r1.2.1), (7, vI 1), (6, .p 2 0), (4, .p 1 0), (2, .p 0 0)], [⟨63, [vI 0, vI 0, vI 0, vI 0, vI 0, vI 0, vS emp, vS emp, vI 0]⟩, ⟨63, [vI ((s.data.getD 0 0).toNat : Int), vI ((s.data.getD 1 0).toNat : Int), vI 0, vI 0, vI 0, vI 0, vS emp, vS emp, vI 0]⟩, ⟨119, [vI r1.1, vI 0, vI 0, vI 0, vI 0]⟩]⟩ [] [] (by kernel_rfl) on wn ?_
          refine l_pure 83 [] [vS r1.2.1] (.tuple #[.int .i64 ((mRead r1.2.1).1), .string ((mRead r1.2.1).2.1), .int .i64 ((mRead r1.2.1).2.2)]) Try.call83 rfl rfl rfl rfl (fun bs w hS => ref_NumberOf _ w (by first | assumption | omega | (simp only [emp_size]; omega))) ?_
          have hzr2 := mRead_bd r1.2.1
          generalize hr2 : mRead r1.2.1 = r2 at hzr2 ⊢
          refine JL_run 7 [] [10, 9, 8, 7, 6, 4, 2] 3 ⟨[(10, vI r2.2.2), (9, vS r2.2.1), (8, vI r2.1), (7, vI 1), (6, .p 2 0), (4, .p 1 0), (2, .p 0 0)], [⟨63, [vI 0, vI 0, vI 0, vI 0, vI 0, vI 0, vS emp, vS emp, vI 0]⟩, ⟨63, [vI ((s.data.getD 0 0).toNat : Int), vI ((s.data.getD 1 0).toNat : Int), vI 0, vI 0, vI 0, vI 0, vS emp, vS emp, vI 0]⟩, ⟨119, [vI r1.1, vI 0, vI 0, vI 0, vI 0]⟩]⟩ [] [] (by kernel_rfl) on wn ?_
          refine l_nil (q_then_normal ?_)
          refine c_seq ?_
          refine c_seq ?_
          refine c_region ?_
          refine JL_run 2 [] [49, 10, 9, 8, 7, 6, 4, 2] 3 ⟨[(49, vB (!(decide (r2.2.2 = 0)))), (10, vI r2.2.2), (9, vS r2.2.1), (8, vI r2.1), (7, vI 1), (6, .p 2 0), (4, .p 1 0), (2, .p 0 0)], [⟨63, [vI 0, vI 0, vI 0, vI 0, vI 0, vI 0, vS emp, vS emp, vI 0]⟩, ⟨63, [vI ((s.data.getD 0 0).toNat : Int), vI ((s.data.getD 1 0).toNat : Int), vI 0, vI 0, vI 0, vI 0, vS emp, vS emp, vI 0]⟩, ⟨119, [vI r1.1, vI 0, vI 0, vI 0, vI 0]⟩]⟩ [] [] (by kernel_rfl) on wn ?_
          refine l_nil (q_then_normal ?_)
          cases h5 : decide (r2.2.2 = 0) with
          | true =>
            have h5 := of_decide_eq_true h5
            refine c_if false rfl ?_
            refine c_skip ?_
            refine q_then_normal ?_
            refine c_seq ?_
            refine c_region ?_
            refine JL_run 4 [(2, .idx default 1)] [9, 7, 6, 4, 2] 3 ⟨[(9, vS r2.2.1), (7, vI 1), (6, .p 2 0), (4, .p 1 0), (2, .p 0 0)], [⟨63, [vI 0, vI 0, vI 0, vI 0, vI 0, vI 0, vS emp, vS emp, vI 0]⟩, ⟨63, [vI ((s.data.getD 0 0).toNat : Int), vI ((s.data.getD 1 0).toNat : Int), vI 0, vI 0, vI 0, vI 0, vS emp, vS emp, vI 0]⟩, ⟨119, [vI r1.1, vI r2.1, vI 0, vI 0, vI 0]⟩]⟩ [(1 : Int) = ((1 : Nat) : Int), 1 < 5] [] (by kernel_rfl) (oc rfl (oc (by omega) on)) wn ?_
            refine l_nil (q_then_normal ?_)
            refine c_region ?_
            refine JL_run 2 [] [5, 7, 6, 4, 2] 3 ⟨[(5, vS r2.2.1), (7, vI 1), (6, .p 2 0), (4, .p 1 0), (2, .p 0 0)], [⟨63, [vI 0, vI 0, vI 0, vI 0, vI 0, vI 0, vS emp, vS emp, vI 0]⟩, ⟨63, [vI ((s.data.getD 0 0).toNat : Int), vI ((s.data.getD 1 0).toNat : Int), vI 0, vI 0, vI 0, vI 0, vS emp, vS emp, vI 0]⟩, ⟨119, [vI r1.1, vI r2.1, vI 0, vI 0, vI 0]⟩]⟩ [] [] (by kernel_rfl) on wn ?_
            refine l_nil (q_block_normal (q_then_normal ?_))
            refine c_region ?_
            refine JL_run 3 [] [7, 5, 6, 4, 2] 3 ⟨[(7, vI 2), (5, vS r2.2.1), (6, .p 2 0), (4, .p 1 0), (2, .p 0 0)], [⟨63, [vI 0, vI 0, vI 0, vI 0, vI 0, vI 0, vS emp, vS emp, vI 0]⟩, ⟨63, [vI ((s.data.getD 0 0).toNat : Int), vI ((s.data.getD 1 0).toNat : Int), vI 0, vI 0, vI 0, vI 0, vS emp, vS emp, vI 0]⟩, ⟨119, [vI r1.1, vI r2.1, vI 0, vI 0, vI 0]⟩]⟩ [inR (2)] [] (by kernel_rfl) (oc (by unfold inR; omega) on) wn ?_
            refine l_nil (q_round ?_)
            refine c_seq ?_
            refine c_seq ?_
            refine c_region ?_
            refine JL_run 2 [] [39, 7, 5, 6, 4, 2] 3 ⟨[(39, vB true), (7, vI 2), (5, vS r2.2.1), (6, .p 2 0), (4, .p 1 0), (2, .p 0 0)], [⟨63, [vI 0, vI 0, vI 0, vI 0, vI 0, vI 0, vS emp, vS emp, vI 0]⟩, ⟨63, [vI ((s.data.getD 0 0).toNat : Int), vI ((s.data.getD 1 0).toNat : Int), vI 0, vI 0, vI 0, vI 0, vS emp, vS emp, vI 0]⟩, ⟨119, [vI r1.1, vI r2.1, vI 0, vI 0, vI 0]⟩]⟩ [] [] (by kernel_rfl) on wn ?_
            refine l_nil (q_then_normal ?_)
            refine c_if true rfl ?_
            refine c_skip ?_
            refine q_then_normal ?_
            refine c_seq ?_
            refine c_block ?_
            refine c_seq ?_
            refine c_region ?_
            refine JL_run 1 [] [43, 7, 6, 4, 2] 3 ⟨[(43, vS r2.2.1), (7, vI 2), (6, .p 2 0), (4, .p 1 0), (2, .p 0 0)], [⟨63, [vI 0, vI 0, vI 0, vI 0, vI 0, vI 0, vS emp, vS emp, vI 0]⟩, ⟨63, [vI ((s.data.getD 0 0).toNat : Int), vI ((s.data.getD 1 0).toNat : Int), vI 0, vI 0, vI 0, vI 0, vS emp, vS emp, vI 0]⟩, ⟨119, [vI r1.1, vI r2.1, vI 0, vI 0, vI 0]⟩]⟩ [] [] (by kernel_rfl) on wn ?_
            refine l_pure 83 [] [vS r2.2.1] (.tuple #[.int .i64 ((mRead r2.2.1).1), .string ((mRead r2.2.1).2.1), .int .i64 ((mRead r2.2.1).2.2)]) Try.call83 rfl rfl rfl rfl (fun bs w hS => ref_NumberOf _ w (by first | assumption | omega | (simp only [emp_size]; omega))) ?_
            have hzr3 := mRead_bd r2.2.1
            generalize hr3 : mRead r2.2.1 = r3 at hzr3 ⊢
            refine JL_run 7 [] [10, 9, 8, 7, 6, 4, 2] 3 ⟨[(10, vI r3.2.2), (9, vS r3.2.1), (8, vI r3.1), (7, vI 2), (6, .p 2 0), (4, .p 1 0), (2, .p 0 0)], [⟨63, [vI 0, vI 0, vI 0, vI 0, vI 0, vI 0, vS emp, vS emp, vI 0]⟩, ⟨63, [vI ((s.data.getD 0 0).toNat : Int), vI ((s.data.getD 1 0).toNat : Int), vI 0, vI 0, vI 0, vI 0, vS emp, vS emp, vI 0]⟩, ⟨119, [vI r1.1, vI r2.1, vI 0, vI 0, vI 0]⟩]⟩ [] [] (by kernel_rfl) on wn ?_
            refine l_nil (q_then_normal ?_)
            refine c_seq ?_
            refine c_seq ?_
            refine c_region ?_
            refine JL_run 2 [] [49, 10, 9, 8, 7, 6, 4, 2] 3 ⟨[(49, vB (!(decide (r3.2.2 = 0)))), (10, vI r3.2.2), (9, vS r3.2.1), (8, vI r3.1), (7, vI 2), (6, .p 2 0), (4, .p 1 0), (2, .p 0 0)], [⟨63, [vI 0, vI 0, vI 0, vI 0, vI 0, vI 0, vS emp, vS emp, vI 0]⟩, ⟨63, [vI ((s.data.getD 0 0).toNat : Int), vI ((s.data.getD 1 0).toNat : Int), vI 0, vI 0, vI 0, vI 0, vS emp, vS emp, vI 0]⟩, ⟨119, [vI r1.1, vI r2.1, vI 0, vI 0, vI 0]⟩]⟩ [] [] (by kernel_rfl) on wn ?_
            refine l_nil (q_then_normal ?_)
            cases h6 : decide (r3.2.2 = 0) with
            | true =>
              have h6 := of_decide_eq_true h6
              refine c_if false rfl ?_
              refine c_skip ?_
              refine q_then_normal ?_
              refine c_seq ?_
              refine c_region ?_
              refine JL_run 4 [(2, .idx default 2)] [9, 7, 6, 4, 2] 3 ⟨[(9, vS r3.2.1), (7, vI 2), (6, .p 2 0), (4, .p 1 0), (2, .p 0 0)], [⟨63, [vI 0, vI 0, vI 0, vI 0, vI 0, vI 0, vS emp, vS emp, vI 0]⟩, ⟨63, [vI ((s.data.getD 0 0).toNat : Int), vI ((s.data.getD 1 0).toNat : Int), vI 0, vI 0, vI 0, vI 0, vS emp, vS emp, vI 0]⟩, ⟨119, [vI r1.1, vI r2.1, vI r3.1, vI 0, vI 0]⟩]⟩ [(2 : Int) = ((2 : Nat) : Int), 2 < 5] [] (by kernel_rfl) (oc rfl (oc (by omega) on)) wn ?_
              refine l_nil (q_then_normal ?_)
              refine c_region ?_
              refine JL_run 2 [] [5, 7, 6, 4, 2] 3 ⟨[(5, vS r3.2.1), (7, vI 2), (6, .p 2 0), (4, .p 1 0), (2, .p 0 0)], [⟨63, [vI 0, vI 0, vI 0, vI 0, vI 0, vI 0, vS emp, vS emp, vI 0]⟩, ⟨63, [vI ((s.data.getD 0 0).toNat : Int), vI ((s.data.getD 1 0).toNat : Int), vI 0, vI 0, vI 0, vI 0, vS emp, vS emp, vI 0]⟩, ⟨119, [vI r1.1, vI r2.1, vI r3.1, vI 0, vI 0]⟩]⟩ [] [] (by kernel_rfl) on wn ?_
              refine l_nil (q_block_normal (q_then_normal ?_))
              refine c_region ?_
              refine JL_run 3 [] [7, 5, 6, 4, 2] 3 ⟨[(7, vI 3), (5, vS r3.2.1), (6, .p 2 0), (4, .p 1 0), (2, .p 0 0)], [⟨63, [vI 0, vI 0, vI 0, vI 0, vI 0, vI 0, vS emp, vS emp, vI 0]⟩, ⟨63, [vI ((s.data.getD 0 0).toNat : Int), vI ((s.data.getD 1 0).toNat : Int), vI 0, vI 0, vI 0, vI 0, vS emp, vS emp, vI 0]⟩, ⟨119, [vI r1.1, vI r2.1, vI r3.1, vI 0, vI 0]⟩]⟩ [inR (3)] [] (by kernel_rfl) (oc (by unfold inR; omega) on) wn ?_
              refine l_nil (q_round ?_)
              refine c_seq ?_
              refine c_seq ?_
              refine c_region ?_
              refine JL_run 2 [] [39, 7, 5, 6, 4, 2] 3 ⟨[(39, vB true), (7, vI 3), (5, vS r3.2.1), (6, .p 2 0), (4, .p 1 0), (2, .p 0 0)], [⟨63, [vI 0, vI 0, vI 0, vI 0, vI 0, vI 0, vS emp, vS emp, vI 0]⟩, ⟨63, [vI ((s.data.getD 0 0).toNat : Int), vI ((s.data.getD 1 0).toNat : Int), vI 0, vI 0, vI 0, vI 0, vS emp, vS emp, vI 0]⟩, ⟨119, [vI r1.1, vI r2.1, vI r3.1, vI 0, vI 0]⟩]⟩ [] [] (by kernel_rfl) on wn ?_
              refine l_nil (q_then_normal ?_)
              refine c_if true rfl ?_
              refine c_skip ?_
              refine q_then_normal ?_
              refine c_seq ?_
              refine c_block ?_
              refine c_seq ?_
              refine c_region ?_
              refine JL_run 1 [] [43, 7, 6, 4, 2] 3 ⟨[(43, vS r3.2.1), (7, vI 3), (6, .p 2 0), (4, .p 1 0), (2, .p 0 0)], [⟨63, [vI 0, vI 0, vI 0, vI 0, vI 0, vI 0, vS emp, vS emp, vI 0]⟩, ⟨63, [vI ((s.data.getD 0 0).toNat : Int), vI ((s.data.getD 1 0).toNat : Int), vI 0, vI 0, vI 0, vI 0, vS emp, vS emp, vI 0]⟩, ⟨119, [vI r1.1, vI r2.1, vI r3.1, vI 0, vI 0]⟩]⟩ [] [] (by kernel_rfl) on wn ?_
              refine l_pure 83 [] [vS r3.2.1] (.tuple #[.int .i64 ((mRead r3.2.1).1), .string ((mRead r3.2.1).2.1), .int .i64 ((mRead r3.2.1).2.2)]) Try.call83 rfl rfl rfl rfl (fun bs w hS => ref_NumberOf _ w (by first | assumption | omega | (simp only [emp_size]; omega))) ?_
              have hzr4 := mRead_bd r3.2.1
              generalize hr4 : mRead r3.2.1 = r4 at hzr4 ⊢
              refine JL_run 7 [] [10, 9, 8, 7, 6, 4, 2] 3 ⟨[(10, vI r4.2.2), (9, vS r4.2.1), (8, vI r4.1), (7, vI 3), (6, .p 2 0), (4, .p 1 0), (2, .p 0 0)], [⟨63, [vI 0, vI 0, vI 0, vI 0, vI 0, vI 0, vS emp, vS emp, vI 0]⟩, ⟨63, [vI ((s.data.getD 0 0).toNat : Int), vI ((s.data.getD 1 0).toNat : Int), vI 0, vI 0, vI 0, vI 0, vS emp, vS emp, vI 0]⟩, ⟨119, [vI r1.1, vI r2.1, vI r3.1, vI 0, vI 0]⟩]⟩ [] [] (by kernel_rfl) on wn ?_
              refine l_nil (q_then_normal ?_)
              refine c_seq ?_
              refine c_seq ?_
              refine c_region ?_
              refine JL_run 2 [] [49, 10, 9, 8, 7, 6, 4, 2] 3 ⟨[(49, vB (!(decide (r4.2.2 = 0)))), (10, vI r4.2.2), (9, vS r4.2.1), (8, vI r4.1), (7, vI 3), (6, .p 2 0), (4, .p 1 0), (2, .p 0 0)], [⟨63, [vI 0, vI 0, vI 0, vI 0, vI 0, vI 0, vS emp, vS emp, vI 0]⟩, ⟨63, [vI ((s.data.getD 0 0).toNat : Int), vI ((s.data.getD 1 0).toNat : Int), vI 0, vI 0, vI 0, vI 0, vS emp, vS emp, vI 0]⟩, ⟨119, [vI r1.1, vI r2.1, vI r3.1, vI 0, vI 0]⟩]⟩ [] [] (by kernel_rfl) on wn ?_
              refine l_nil (q_then_normal ?_)
              cases h7 : decide (r4.2.2 = 0) with
              | true =>
                have h7 := of_decide_eq_true h7
                refine c_if false rfl ?_
                refine c_skip ?_
                refine q_then_normal ?_
                refine c_seq ?_
                refine c_region ?_
                refine JL_run 4 [(2, .idx default 3)] [9, 7, 6, 4, 2] 3 ⟨[(9, vS r4.2.1), (7, vI 3), (6, .p 2 0), (4, .p 1 0), (2, .p 0 0)], [⟨63, [vI 0, vI 0, vI 0, vI 0, vI 0, vI 0, vS emp, vS emp, vI 0]⟩, ⟨63, [vI ((s.data.getD 0 0).toNat : Int), vI ((s.data.getD 1 0).toNat : Int), vI 0, vI 0, vI 0, vI 0, vS emp, vS emp, vI 0]⟩, ⟨119, [vI r1.1, vI r2.1, vI r3.1, vI r4.1, vI 0]⟩]⟩ [(3 : Int) = ((3 : Nat) : Int), 3 < 5] [] (by kernel_rfl) (oc rfl (oc (by omega) on)) wn ?_
                refine l_nil (q_then_normal ?_)
                refine c_region ?_
                refine JL_run 2 [] [5, 7, 6, 4, 2] 3 ⟨[(5, vS r4.2.1), (7, vI 3), (6, .p 2 0), (4, .p 1 0), (2, .p 0 0)], [⟨63, [vI 0, vI 0, vI 0, vI 0, vI 0, vI 0, vS emp, vS emp, vI 0]⟩, ⟨63, [vI ((s.data.getD 0 0).toNat : Int), vI ((s.data.getD 1 0).toNat : Int), vI 0, vI 0, vI 0, vI 0, vS emp, vS emp, vI 0]⟩, ⟨119, [vI r1.1, vI r2.1, vI r3.1, vI r4.1, vI 0]⟩]⟩ [] [] (by kernel_rfl) on wn ?_
                refine l_nil (q_block_normal (q_then_normal ?_))
                refine c_region ?_
                refine JL_run 3 [] [7, 5, 6, 4, 2] 3 ⟨[(7, vI 4), (5, vS r4.2.1), (6, .p 2 0), (4, .p 1 0), (2, .p 0 0)], [⟨63, [vI 0, vI 0, vI 0, vI 0, vI 0, vI 0, vS emp, vS emp, vI 0]⟩, ⟨63, [vI ((s.data.getD 0 0).toNat : Int), vI ((s.data.getD 1 0).toNat : Int), vI 0, vI 0, vI 0, vI 0, vS emp, vS emp, vI 0]⟩, ⟨119, [vI r1.1, vI r2.1, vI r3.1, vI r4.1, vI 0]⟩]⟩ [inR (4)] [] (by kernel_rfl) (oc (by unfold inR; omega) on) wn ?_
                refine l_nil (q_round ?_)
                refine c_seq ?_
                refine c_seq ?_
                refine c_region ?_
                refine JL_run 2 [] [39, 7, 5, 6, 4, 2] 3 ⟨[(39, vB true), (7, vI 4), (5, vS r4.2.1), (6, .p 2 0), (4, .p 1 0), (2, .p 0 0)], [⟨63, [vI 0, vI 0, vI 0, vI 0, vI 0, vI 0, vS emp, vS emp, vI 0]⟩, ⟨63, [vI ((s.data.getD 0 0).toNat : Int), vI ((s.data.getD 1 0).toNat : Int), vI 0, vI 0, vI 0, vI 0, vS emp, vS emp, vI 0]⟩, ⟨119, [vI r1.1, vI r2.1, vI r3.1, vI r4.1, vI 0]⟩]⟩ [] [] (by kernel_rfl) on wn ?_
                refine l_nil (q_then_normal ?_)
                refine c_if true rfl ?_
                refine c_skip ?_
                refine q_then_normal ?_
                refine c_seq ?_
                refine c_block ?_
                refine c_seq ?_
                refine c_region ?_
                refine JL_run 1 [] [43, 7, 6, 4, 2] 3 ⟨[(43, vS r4.2.1), (7, vI 4), (6, .p 2 0), (4, .p 1 0), (2, .p 0 0)], [⟨63, [vI 0, vI 0, vI 0, vI 0, vI 0, vI 0, vS emp, vS emp, vI 0]⟩, ⟨63, [vI ((s.data.getD 0 0).toNat : Int), vI ((s.data.getD 1 0).toNat : Int), vI 0, vI 0, vI 0, vI 0, vS emp, vS emp, vI 0]⟩, ⟨119, [vI r1.1, vI r2.1, vI r3.1, vI r4.1, vI 0]⟩]⟩ [] [] (by kernel_rfl) on wn ?_
                refine l_pure 83 [] [vS r4.2.1] (.tuple #[.int .i64 ((mRead r4.2.1).1), .string ((mRead r4.2.1).2.1), .int .i64 ((mRead r4.2.1).2.2)]) Try.call83 rfl rfl rfl rfl (fun bs w hS => ref_NumberOf _ w (by first | assumption | omega | (simp only [emp_size]; omega))) ?_
                have hzr5 := mRead_bd r4.2.1
                generalize hr5 : mRead r4.2.1 = r5 at hzr5 ⊢
                refine JL_run 7 [] [10, 9, 8, 7, 6, 4, 2] 3 ⟨[(10, vI r5.2.2), (9, vS r5.2.1), (8, vI r5.1), (7, vI 4), (6, .p 2 0), (4, .p 1 0), (2, .p 0 0)], [⟨63, [vI 0, vI 0, vI 0, vI 0, vI 0, vI 0, vS emp, vS emp, vI 0]⟩, ⟨63, [vI ((s.data.getD 0 0).toNat : Int), vI ((s.data.getD 1 0).toNat : Int), vI 0, vI 0, vI 0, vI 0, vS emp, vS emp, vI 0]⟩, ⟨119, [vI r1.1, vI r2.1, vI r3.1, vI r4.1, vI 0]⟩]⟩ [] [] (by kernel_rfl) on wn ?_
                refine l_nil (q_then_normal ?_)
                refine c_seq ?_
                refine c_seq ?_
                refine c_region ?_
                refine JL_run 2 [] [49, 10, 9, 8, 7, 6, 4, 2] 3 ⟨[(49, vB (!(decide (r5.2.2 = 0)))), (10, vI r5.2.2), (9, vS r5.2.1), (8, vI r5.1), (7, vI 4), (6, .p 2 0), (4, .p 1 0), (2, .p 0 0)], [⟨63, [vI 0, vI 0, vI 0, vI 0, vI 0, vI 0, vS emp, vS emp, vI 0]⟩, ⟨63, [vI ((s.data.getD 0 0).toNat : Int), vI ((s.data.getD 1 0).toNat : Int), vI 0, vI 0, vI 0, vI 0, vS emp, vS emp, vI 0]⟩, ⟨119, [vI r1.1, vI r2.1, vI r3.1, vI r4.1, vI 0]⟩]⟩ [] [] (by kernel_rfl) on wn ?_
                refine l_nil (q_then_normal ?_)
                cases h8 : decide (r5.2.2 = 0) with
                | true =>
                  have h8 := of_decide_eq_true h8
                  refine c_if false rfl ?_
                  refine c_skip ?_
                  refine q_then_normal ?_
                  refine c_seq ?_
                  refine c_region ?_
                  refine JL_run 4 [(2, .idx default 4)] [9, 7, 6, 4, 2] 3 ⟨[(9, vS r5.2.1), (7, vI 4), (6, .p 2 0), (4, .p 1 0), (2, .p 0 0)], [⟨63, [vI 0, vI 0, vI 0, vI 0, vI 0, vI 0, vS emp, vS emp, vI 0]⟩, ⟨63, [vI ((s.data.getD 0 0).toNat : Int), vI ((s.data.getD 1 0).toNat : Int), vI 0, vI 0, vI 0, vI 0, vS emp, vS emp, vI 0]⟩, ⟨119, [vI r1.1, vI r2.1, vI r3.1, vI r4.1, vI r5.1]⟩]⟩ [(4 : Int) = ((4 : Nat) : Int), 4 < 5] [] (by kernel_rfl) (oc rfl (oc (by omega) on)) wn ?_
                  refine l_nil (q_then_normal ?_)
                  refine c_region ?_
                  refine JL_run 2 [] [5, 7, 6, 4, 2] 3 ⟨[(5, vS r5.2.1), (7, vI 4), (6, .p 2 0), (4, .p 1 0), (2, .p 0 0)], [⟨63, [vI 0, vI 0, vI 0, vI 0, vI 0, vI 0, vS emp, vS emp, vI 0]⟩, ⟨63, [vI ((s.data.getD 0 0).toNat : Int), vI ((s.data.getD 1 0).toNat : Int), vI 0, vI 0, vI 0, vI 0, vS emp, vS emp, vI 0]⟩, ⟨119, [vI r1.1, vI r2.1, vI r3.1, vI r4.1, vI r5.1]⟩]⟩ [] [] (by kernel_rfl) on wn ?_
                  refine l_nil (q_block_normal (q_then_normal ?_))
                  refine c_region ?_
                  refine JL_run 3 [] [7, 5, 6, 4, 2] 3 ⟨[(7, vI 5), (5, vS r5.2.1), (6, .p 2 0), (4, .p 1 0), (2, .p 0 0)], [⟨63, [vI 0, vI 0, vI 0, vI 0, vI 0, vI 0, vS emp, vS emp, vI 0]⟩, ⟨63, [vI ((s.data.getD 0 0).toNat : Int), vI ((s.data.getD 1 0).toNat : Int), vI 0, vI 0, vI 0, vI 0, vS emp, vS emp, vI 0]⟩, ⟨119, [vI r1.1, vI r2.1, vI r3.1, vI r4.1, vI r5.1]⟩]⟩ [inR (5)] [] (by kernel_rfl) (oc (by unfold inR; omega) on) wn ?_
                  refine l_nil (q_round ?_)
                  refine c_seq ?_
                  refine c_seq ?_
                  refine c_region ?_
                  refine JL_run 2 [] [39, 7, 5, 6, 4, 2] 3 ⟨[(39, vB false), (7, vI 5), (5, vS r5.2.1), (6, .p 2 0), (4, .p 1 0), (2, .p 0 0)], [⟨63, [vI 0, vI 0, vI 0, vI 0, vI 0, vI 0, vS emp, vS emp, vI 0]⟩, ⟨63, [vI ((s.data.getD 0 0).toNat : Int), vI ((s.data.getD 1 0).toNat : Int), vI 0, vI 0, vI 0, vI 0, vS emp, vS emp, vI 0]⟩, ⟨119, [vI r1.1, vI r2.1, vI r3.1, vI r4.1, vI r5.1]⟩]⟩ [] [] (by kernel_rfl) on wn ?_
                  refine l_nil (q_then_normal ?_)
                  refine c_if false rfl ?_
                  refine c_exit ?_
                  refine q_then_exit (q_then_exit (q_block_hit (q_then_normal ?_)))
                  refine c_seq ?_
                  refine c_region ?_
                  refine JL_run 4 [(0, .idx default 0)] [5, 6, 4, 2] 3 ⟨[(5, vS r5.2.1), (6, .p 2 0), (4, .p 1 0), (2, .p 0 0)], [⟨63, [vI 0, vI 0, vI 0, vI 0, vI 0, vI 0, vS emp, vS emp, vI 0]⟩, ⟨63, [vI ((s.data.getD 0 0).toNat : Int), vI ((s.data.getD 1 0).toNat : Int), vI r1.1, vI 0, vI 0, vI 0, vS emp, vS emp, vI 0]⟩, ⟨119, [vI r1.1, vI r2.1, vI r3.1, vI r4.1, vI r5.1]⟩]⟩ [(0 : Int) = ((0 : Nat) : Int), 0 < 5] [] (by kernel_rfl) (oc rfl (oc (by omega) on)) wn ?_
                  refine l_nil (q_then_normal ?_)
                  refine c_seq ?_
                  refine c_region ?_
                  refine JL_run 4 [(0, .idx default 1)] [5, 6, 4, 2] 3 ⟨[(5, vS r5.2.1), (6, .p 2 0), (4, .p 1 0), (2, .p 0 0)], [⟨63, [vI 0, vI 0, vI 0, vI 0, vI 0, vI 0, vS emp, vS emp, vI 0]⟩, ⟨63, [vI ((s.data.getD 0 0).toNat : Int), vI ((s.data.getD 1 0).toNat : Int), vI r1.1, vI r2.1, vI 0, vI 0, vS emp, vS emp, vI 0]⟩, ⟨119, [vI r1.1, vI r2.1, vI r3.1, vI r4.1, vI r5.1]⟩]⟩ [(1 : Int) = ((1 : Nat) : Int), 1 < 5] [] (by kernel_rfl) (oc rfl (oc (by omega) on)) wn ?_
                  refine l_nil (q_then_normal ?_)
                  refine c_seq ?_
                  refine c_region ?_
                  refine JL_run 4 [(0, .idx default 2)] [5, 6, 4, 2] 3 ⟨[(5, vS r5.2.1), (6, .p 2 0), (4, .p 1 0), (2, .p 0 0)], [⟨63, [vI 0, vI 0, vI 0, vI 0, vI 0, vI 0, vS emp, vS emp, vI 0]⟩, ⟨63, [vI ((s.data.getD 0 0).toNat : Int), vI ((s.data.getD 1 0).toNat : Int), vI r1.1, vI r2.1, vI r3.1, vI 0, vS emp, vS emp, vI 0]⟩, ⟨119, [vI r1.1, vI r2.1, vI r3.1, vI r4.1, vI r5.1]⟩]⟩ [(2 : Int) = ((2 : Nat) : Int), 2 < 5] [] (by kernel_rfl) (oc rfl (oc (by omega) on)) wn ?_
                  refine l_nil (q_then_normal ?_)
                  refine c_seq ?_
                  refine c_region ?_
                  refine JL_run 5 [(0, .idx default 3)] [5, 6, 4, 2] 3 ⟨[(5, vS r5.2.1), (6, .p 2 0), (4, .p 1 0), (2, .p 0 0)], [⟨63, [vI 0, vI 0, vI 0, vI 0, vI 0, vI 0, vS emp, vS emp, vI 0]⟩, ⟨63, [vI ((s.data.getD 0 0).toNat : Int), vI ((s.data.getD 1 0).toNat : Int), vI r1.1, vI r2.1, vI r3.1, vI r4.1, vS emp, vS emp, vI 0]⟩, ⟨119, [vI r1.1, vI r2.1, vI r3.1, vI r4.1, vI r5.1]⟩]⟩ [(3 : Int) = ((3 : Nat) : Int), 3 < 5] [] (by kernel_rfl) (oc rfl (oc (by omega) on)) wn ?_
                  refine l_nil (q_then_normal ?_)
                  refine c_seq ?_
                  refine c_region ?_
                  refine JL_run 5 [(0, .idx default 4)] [5, 4, 2] 2 ⟨[(5, vS r5.2.1), (4, .p 1 0), (2, .p 0 0)], [⟨63, [vI 0, vI 0, vI 0, vI 0, vI 0, vI 0, vS emp, vS emp, vI 0]⟩, ⟨63, [vI ((s.data.getD 0 0).toNat : Int), vI ((s.data.getD 1 0).toNat : Int), vI r1.1, vI r2.1, vI r3.1, vI r4.1, vS emp, vS emp, vI r5.1]⟩]⟩ [(4 : Int) = ((4 : Nat) : Int), 4 < 5] [] (by kernel_rfl) (oc rfl (oc (by omega) on)) wn ?_
                  refine l_nil (q_then_normal ?_)
                  refine c_seq ?_
                  refine c_region ?_
                  refine JL_run 1 [] [74, 4, 2] 2 ⟨[(74, vS r5.2.1), (4, .p 1 0), (2, .p 0 0)], [⟨63, [vI 0, vI 0, vI 0, vI 0, vI 0, vI 0, vS emp, vS emp, vI 0]⟩, ⟨63, [vI ((s.data.getD 0 0).toNat : Int), vI ((s.data.getD 1 0).toNat : Int), vI r1.1, vI r2.1, vI r3.1, vI r4.1, vS emp, vS emp, vI r5.1]⟩]⟩ [] [] (by kernel_rfl) on wn ?_
                  refine l_pure 84 [] [vS r5.2.1] (.tuple #[.string ((mTell r5.2.1).1), .string ((mTell r5.2.1).2.1), .int .i64 ((mTell r5.2.1).2.2)]) Try.call84 rfl rfl rfl rfl (fun bs w hS => ref_TextOf _ w (by first | assumption | omega | (simp only [emp_size]; omega))) ?_
                  have hzr6 := mTell_bd r5.2.1
                  generalize hr6 : mTell r5.2.1 = r6 at hzr6 ⊢
                  refine JL_run 7 [] [13, 12, 11, 4, 2] 2 ⟨[(13, vI r6.2.2), (12, vS r6.2.1), (11, vS r6.1), (4, .p 1 0), (2, .p 0 0)], [⟨63, [vI 0, vI 0, vI 0, vI 0, vI 0, vI 0, vS emp, vS emp, vI 0]⟩, ⟨63, [vI ((s.data.getD 0 0).toNat : Int), vI ((s.data.getD 1 0).toNat : Int), vI r1.1, vI r2.1, vI r3.1, vI r4.1, vS emp, vS emp, vI r5.1]⟩]⟩ [] [] (by kernel_rfl) on wn ?_
                  refine l_nil (q_then_normal ?_)
                  refine c_seq ?_
                  refine c_seq ?_
                  refine c_region ?_
                  refine JL_run 2 [] [80, 13, 12, 11, 4, 2] 2 ⟨[(80, vB (!(decide (r6.2.2 = 0)))), (13, vI r6.2.2), (12, vS r6.2.1), (11, vS r6.1), (4, .p 1 0), (2, .p 0 0)], [⟨63, [vI 0, vI 0, vI 0, vI 0, vI 0, vI 0, vS emp, vS emp, vI 0]⟩, ⟨63, [vI ((s.data.getD 0 0).toNat : Int), vI ((s.data.getD 1 0).toNat : Int), vI r1.1, vI r2.1, vI r3.1, vI r4.1, vS emp, vS emp, vI r5.1]⟩]⟩ [] [] (by kernel_rfl) on wn ?_
                  refine l_nil (q_then_normal ?_)
                  cases h9 : decide (r6.2.2 = 0) with
                  | true =>
                    have h9 := of_decide_eq_true h9
                    refine c_if false rfl ?_
                    refine c_skip ?_
                    refine q_then_normal ?_
                    refine c_seq ?_
                    refine c_region ?_
                    refine JL_run 1 [] [84, 11, 4, 2] 2 ⟨[(84, vS r6.2.1), (11, vS r6.1), (4, .p 1 0), (2, .p 0 0)], [⟨63, [vI 0, vI 0, vI 0, vI 0, vI 0, vI 0, vS emp, vS emp, vI 0]⟩, ⟨63, [vI ((s.data.getD 0 0).toNat : Int), vI ((s.data.getD 1 0).toNat : Int), vI r1.1, vI r2.1, vI r3.1, vI r4.1, vS emp, vS emp, vI r5.1]⟩]⟩ [] [] (by kernel_rfl) on wn ?_
                    refine l_pure 84 [] [vS r6.2.1] (.tuple #[.string ((mTell r6.2.1).1), .string ((mTell r6.2.1).2.1), .int .i64 ((mTell r6.2.1).2.2)]) Try.call84 rfl rfl rfl rfl (fun bs w hS => ref_TextOf _ w (by first | assumption | omega | (simp only [emp_size]; omega))) ?_
                    have hzr7 := mTell_bd r6.2.1
                    generalize hr7 : mTell r6.2.1 = r7 at hzr7 ⊢
                    refine JL_run 7 [] [16, 15, 14, 11, 4, 2] 2 ⟨[(16, vI r7.2.2), (15, vS r7.2.1), (14, vS r7.1), (11, vS r6.1), (4, .p 1 0), (2, .p 0 0)], [⟨63, [vI 0, vI 0, vI 0, vI 0, vI 0, vI 0, vS emp, vS emp, vI 0]⟩, ⟨63, [vI ((s.data.getD 0 0).toNat : Int), vI ((s.data.getD 1 0).toNat : Int), vI r1.1, vI r2.1, vI r3.1, vI r4.1, vS emp, vS emp, vI r5.1]⟩]⟩ [] [] (by kernel_rfl) on wn ?_
                    refine l_nil (q_then_normal ?_)
                    refine c_seq ?_
                    refine c_seq ?_
                    refine c_region ?_
                    refine JL_run 2 [] [90, 16, 15, 14, 11, 4, 2] 2 ⟨[(90, vB (!(decide (r7.2.2 = 0)))), (16, vI r7.2.2), (15, vS r7.2.1), (14, vS r7.1), (11, vS r6.1), (4, .p 1 0), (2, .p 0 0)], [⟨63, [vI 0, vI 0, vI 0, vI 0, vI 0, vI 0, vS emp, vS emp, vI 0]⟩, ⟨63, [vI ((s.data.getD 0 0).toNat : Int), vI ((s.data.getD 1 0).toNat : Int), vI r1.1, vI r2.1, vI r3.1, vI r4.1, vS emp, vS emp, vI r5.1]⟩]⟩ [] [] (by kernel_rfl) on wn ?_
                    refine l_nil (q_then_normal ?_)
                    cases h10 : decide (r7.2.2 = 0) with
                    | true =>
                      have h10 := of_decide_eq_true h10
                      refine c_if false rfl ?_
                      refine c_skip ?_
                      refine q_then_normal ?_
                      refine c_seq ?_
                      refine c_region ?_
                      refine JL_run 4 [] [15, 14, 4, 2] 2 ⟨[(15, vS r7.2.1), (14, vS r7.1), (4, .p 1 0), (2, .p 0 0)], [⟨63, [vI 0, vI 0, vI 0, vI 0, vI 0, vI 0, vS emp, vS emp, vI 0]⟩, ⟨63, [vI ((s.data.getD 0 0).toNat : Int), vI ((s.data.getD 1 0).toNat : Int), vI r1.1, vI r2.1, vI r3.1, vI r4.1, vS r6.1, vS emp, vI r5.1]⟩]⟩ [] [] (by kernel_rfl) on wn ?_
                      refine l_nil (q_then_normal ?_)
                      refine c_seq ?_
                      refine c_region ?_
                      refine JL_run 4 [] [15, 4, 2] 2 ⟨[(15, vS r7.2.1), (4, .p 1 0), (2, .p 0 0)], [⟨63, [vI 0, vI 0, vI 0, vI 0, vI 0, vI 0, vS emp, vS emp, vI 0]⟩, ⟨63, [vI ((s.data.getD 0 0).toNat : Int), vI ((s.data.getD 1 0).toNat : Int), vI r1.1, vI r2.1, vI r3.1, vI r4.1, vS r6.1, vS r7.1, vI r5.1]⟩]⟩ [] [] (by kernel_rfl) on wn ?_
                      refine l_nil (q_then_normal ?_)
                      refine c_region ?_
                      refine JL_run 2 [] [5, 4, 2] 2 ⟨[(5, vS r7.2.1), (4, .p 1 0), (2, .p 0 0)], [⟨63, [vI 0, vI 0, vI 0, vI 0, vI 0, vI 0, vS emp, vS emp, vI 0]⟩, ⟨63, [vI ((s.data.getD 0 0).toNat : Int), vI ((s.data.getD 1 0).toNat : Int), vI r1.1, vI r2.1, vI r3.1, vI r4.1, vS r6.1, vS r7.1, vI r5.1]⟩]⟩ [] [] (by kernel_rfl) on wn ?_
                      refine l_nil (q_then_normal ?_)
                      refine c_seq ?_
                      refine c_seq ?_
                      refine c_region ?_
                      refine JL_run 2 [] [101, 4, 2] 2 ⟨[(101, vB (!(decide (r7.2.1 = emp)))), (4, .p 1 0), (2, .p 0 0)], [⟨63, [vI 0, vI 0, vI 0, vI 0, vI 0, vI 0, vS emp, vS emp, vI 0]⟩, ⟨63, [vI ((s.data.getD 0 0).toNat : Int), vI ((s.data.getD 1 0).toNat : Int), vI r1.1, vI r2.1, vI r3.1, vI r4.1, vS r6.1, vS r7.1, vI r5.1]⟩]⟩ [] [] (by kernel_rfl) on wn ?_
                      refine l_nil (q_then_normal ?_)
                      cases h11 : decide (r7.2.1 = emp) with
                      | true =>
                        have h11 := of_decide_eq_true h11
                        have hzh11 : r7.2.1.size = 0 := by rw [h11]; rfl
                        refine c_if false rfl ?_
                        refine c_skip ?_
                        refine q_then_normal ?_
                        refine c_seq ?_
                        refine c_region ?_
                        refine JL_run 1 [] [103, 4, 2] 2 ⟨[(103, .v (.agg #[.int .i64 ((s.data.getD 0 0).toNat : Int), .int .i64 ((s.data.getD 1 0).toNat : Int), .int .i64 r1.1, .int .i64 r2.1, .int .i64 r3.1, .int .i64 r4.1, .string r6.1, .string r7.1, .int .i64 r5.1])), (4, .p 1 0), (2, .p 0 0)], [⟨63, [vI 0, vI 0, vI 0, vI 0, vI 0, vI 0, vS emp, vS emp, vI 0]⟩, ⟨63, [vI ((s.data.getD 0 0).toNat : Int), vI ((s.data.getD 1 0).toNat : Int), vI r1.1, vI r2.1, vI r3.1, vI r4.1, vS r6.1, vS r7.1, vI r5.1]⟩]⟩ [] [] (by kernel_rfl) on wn ?_
                        refine l_pure 85 [] [.v (.agg #[.int .i64 ((s.data.getD 0 0).toNat : Int), .int .i64 ((s.data.getD 1 0).toNat : Int), .int .i64 r1.1, .int .i64 r2.1, .int .i64 r3.1, .int .i64 r4.1, .string r6.1, .string r7.1, .int .i64 r5.1])] (.int .i64 (mCmd (⟨((s.data.getD 0 0).toNat : Int), ((s.data.getD 1 0).toNat : Int), r1.1, r2.1, r3.1, ⟨r4.1, r6.1, r7.1, r5.1⟩⟩ : DCommand))) Try.call85 rfl rfl rfl rfl (fun bs w hS => ref_CommandFault (B := anyB) (⟨((s.data.getD 0 0).toNat : Int), ((s.data.getD 1 0).toNat : Int), r1.1, r2.1, r3.1, ⟨r4.1, r6.1, r7.1, r5.1⟩⟩ : DCommand) w ⟨(show r6.1.size ≤ 9223372036854775807 from (by first | assumption | omega | (simp only [emp_size]; omega))), (show r7.1.size ≤ 9223372036854775807 from (by first | assumption | omega | (simp only [emp_size]; omega)))⟩) ?_
                        refine JL_run 1 [] [17, 4, 2] 2 ⟨[(17, vI (mCmd (⟨((s.data.getD 0 0).toNat : Int), ((s.data.getD 1 0).toNat : Int), r1.1, r2.1, r3.1, ⟨r4.1, r6.1, r7.1, r5.1⟩⟩ : DCommand))), (4, .p 1 0), (2, .p 0 0)], [⟨63, [vI 0, vI 0, vI 0, vI 0, vI 0, vI 0, vS emp, vS emp, vI 0]⟩, ⟨63, [vI ((s.data.getD 0 0).toNat : Int), vI ((s.data.getD 1 0).toNat : Int), vI r1.1, vI r2.1, vI r3.1, vI r4.1, vS r6.1, vS r7.1, vI r5.1]⟩]⟩ [] [] (by kernel_rfl) on wn ?_
                        refine l_nil (q_then_normal ?_)
                        refine c_seq ?_
                        refine c_seq ?_
                        refine c_region ?_
                        refine JL_run 2 [] [106, 17, 4, 2] 2 ⟨[(106, vB (!(decide (mCmd (⟨((s.data.getD 0 0).toNat : Int), ((s.data.getD 1 0).toNat : Int), r1.1, r2.1, r3.1, ⟨r4.1, r6.1, r7.1, r5.1⟩⟩ : DCommand) = 0)))), (17, vI (mCmd (⟨((s.data.getD 0 0).toNat : Int), ((s.data.getD 1 0).toNat : Int), r1.1, r2.1, r3.1, ⟨r4.1, r6.1, r7.1, r5.1⟩⟩ : DCommand))), (4, .p 1 0), (2, .p 0 0)], [⟨63, [vI 0, vI 0, vI 0, vI 0, vI 0, vI 0, vS emp, vS emp, vI 0]⟩, ⟨63, [vI ((s.data.getD 0 0).toNat : Int), vI ((s.data.getD 1 0).toNat : Int), vI r1.1, vI r2.1, vI r3.1, vI r4.1, vS r6.1, vS r7.1, vI r5.1]⟩]⟩ [] [] (by kernel_rfl) on wn ?_
                        refine l_nil (q_then_normal ?_)
                        cases h12 : decide (mCmd (⟨((s.data.getD 0 0).toNat : Int), ((s.data.getD 1 0).toNat : Int), r1.1, r2.1, r3.1, ⟨r4.1, r6.1, r7.1, r5.1⟩⟩ : DCommand) = 0) with
                        | true =>
                          have h12 := of_decide_eq_true h12
                          refine c_if false rfl ?_
                          refine c_skip ?_
                          refine q_then_normal ?_
                          refine c_seq ?_
                          refine c_region ?_
                          refine JL_run 3 [] [3, 2] 1 ⟨[(3, vI 0), (2, .p 0 0)], [⟨63, [vI ((s.data.getD 0 0).toNat : Int), vI ((s.data.getD 1 0).toNat : Int), vI r1.1, vI r2.1, vI r3.1, vI r4.1, vS r6.1, vS r7.1, vI r5.1]⟩]⟩ [] [] (by kernel_rfl) on wn ?_
                          refine l_nil (q_then_normal ?_)
                          refine c_ret ?_
                          refine q_ret (.inl rfl) [.v (.agg #[.int .i64 ((s.data.getD 0 0).toNat : Int), .int .i64 ((s.data.getD 1 0).toNat : Int), .int .i64 r1.1, .int .i64 r2.1, .int .i64 r3.1, .int .i64 r4.1, .string r6.1, .string r7.1, .int .i64 r5.1]), vI 0] rfl (fun bs w hS => ?_)
                          refine ⟨?_, hS.kp⟩
                          have hm : mDecode s = ((⟨((s.data.getD 0 0).toNat : Int), ((s.data.getD 1 0).toNat : Int), r1.1, r2.1, r3.1, ⟨r4.1, r6.1, r7.1, r5.1⟩⟩ : DCommand), 0) := by
                            have hk : (cmd0 s).kind = ((s.data.getD 0 0).toNat : Int) := rfl
                            unfold mDecode
                            repeat (first | rw [if_pos (by omega)] | rw [if_neg (by omega)])
                            all_goals (simp only [mFin, mBody, cmd0, zOp, hr1, hr2, hr3, hr4, hr5, hr6, hr7, h4, h5, h6, h7, h8, h9, h10, h11, h12, ne_eq, not_true_eq_false, not_false_eq_true, if_true, if_false, reduceIte]; try rfl)
                          rw [hm]
                          rfl
                        | false =>
                          have h12 := of_decide_eq_false h12
                          refine c_if true rfl ?_
                          refine c_seq ?_
                          refine c_region ?_
                          refine JL_run 4 [] [3, 2] 1 ⟨[(3, vI (mCmd (⟨((s.data.getD 0 0).toNat : Int), ((s.data.getD 1 0).toNat : Int), r1.1, r2.1, r3.1, ⟨r4.1, r6.1, r7.1, r5.1⟩⟩ : DCommand))), (2, .p 0 0)], [⟨63, [vI 0, vI 0, vI 0, vI 0, vI 0, vI 0, vS emp, vS emp, vI 0]⟩]⟩ [] [] (by kernel_rfl) on wn ?_
                          refine l_nil (q_then_normal ?_)
                          refine c_ret ?_
                          refine q_then_ret (q_ret (.inl rfl) [.v (.agg #[.int .i64 0, .int .i64 0, .int .i64 0, .int .i64 0, .int .i64 0, .int .i64 0, .string emp, .string emp, .int .i64 0]), vI (mCmd (⟨((s.data.getD 0 0).toNat : Int), ((s.data.getD 1 0).toNat : Int), r1.1, r2.1, r3.1, ⟨r4.1, r6.1, r7.1, r5.1⟩⟩ : DCommand))] rfl (fun bs w hS => ?_))
                          refine ⟨?_, hS.kp⟩
                          have hm : mDecode s = ((⟨0, 0, 0, 0, 0, ⟨0, emp, emp, 0⟩⟩ : DCommand), mCmd (⟨((s.data.getD 0 0).toNat : Int), ((s.data.getD 1 0).toNat : Int), r1.1, r2.1, r3.1, ⟨r4.1, r6.1, r7.1, r5.1⟩⟩ : DCommand)) := by
                            have hk : (cmd0 s).kind = ((s.data.getD 0 0).toNat : Int) := rfl
                            unfold mDecode
                            repeat (first | rw [if_pos (by omega)] | rw [if_neg (by omega)])
                            all_goals (simp only [mFin, mBody, cmd0, zOp, hr1, hr2, hr3, hr4, hr5, hr6, hr7, h4, h5, h6, h7, h8, h9, h10, h11, h12, ne_eq, not_true_eq_false, not_false_eq_true, if_true, if_false, reduceIte]; try rfl)
                          rw [hm]
                          rfl
                      | false =>
                        have h11 := of_decide_eq_false h11
                        refine c_if true rfl ?_
                        refine c_seq ?_
                        refine c_region ?_
                        refine JL_run 3 [] [3, 2] 1 ⟨[(3, vI 4), (2, .p 0 0)], [⟨63, [vI 0, vI 0, vI 0, vI 0, vI 0, vI 0, vS emp, vS emp, vI 0]⟩]⟩ [] [] (by kernel_rfl) on wn ?_
                        refine l_nil (q_then_normal ?_)
                        refine c_ret ?_
                        refine q_then_ret (q_ret (.inl rfl) [.v (.agg #[.int .i64 0, .int .i64 0, .int .i64 0, .int .i64 0, .int .i64 0, .int .i64 0, .string emp, .string emp, .int .i64 0]), vI 4] rfl (fun bs w hS => ?_))
                        refine ⟨?_, hS.kp⟩
                        have hm : mDecode s = ((⟨0, 0, 0, 0, 0, ⟨0, emp, emp, 0⟩⟩ : DCommand), 4) := by
                          have hk : (cmd0 s).kind = ((s.data.getD 0 0).toNat : Int) := rfl
                          unfold mDecode
                          repeat (first | rw [if_pos (by omega)] | rw [if_neg (by omega)])
                          all_goals (simp only [mFin, mBody, cmd0, zOp, hr1, hr2, hr3, hr4, hr5, hr6, hr7, h4, h5, h6, h7, h8, h9, h10, h11, ne_eq, not_true_eq_false, not_false_eq_true, if_true, if_false, reduceIte]; try rfl)
                        rw [hm]
                        rfl
                    | false =>
                      have h10 := of_decide_eq_false h10
                      refine c_if true rfl ?_
                      refine c_seq ?_
                      refine c_region ?_
                      refine JL_run 4 [] [3, 2] 1 ⟨[(3, vI r7.2.2), (2, .p 0 0)], [⟨63, [vI 0, vI 0, vI 0, vI 0, vI 0, vI 0, vS emp, vS emp, vI 0]⟩]⟩ [] [] (by kernel_rfl) on wn ?_
                      refine l_nil (q_then_normal ?_)
                      refine c_ret ?_
                      refine q_then_ret (q_then_ret (q_ret (.inl rfl) [.v (.agg #[.int .i64 0, .int .i64 0, .int .i64 0, .int .i64 0, .int .i64 0, .int .i64 0, .string emp, .string emp, .int .i64 0]), vI r7.2.2] rfl (fun bs w hS => ?_)))
                      refine ⟨?_, hS.kp⟩
                      have hm : mDecode s = ((⟨0, 0, 0, 0, 0, ⟨0, emp, emp, 0⟩⟩ : DCommand), r7.2.2) := by
                        have hk : (cmd0 s).kind = ((s.data.getD 0 0).toNat : Int) := rfl
                        unfold mDecode
                        repeat (first | rw [if_pos (by omega)] | rw [if_neg (by omega)])
                        all_goals (simp only [mFin, mBody, cmd0, zOp, hr1, hr2, hr3, hr4, hr5, hr6, hr7, h4, h5, h6, h7, h8, h9, h10, ne_eq, not_true_eq_false, not_false_eq_true, if_true, if_false, reduceIte]; try rfl)
                      rw [hm]
                      rfl
                  | false =>
                    have h9 := of_decide_eq_false h9
                    refine c_if true rfl ?_
                    refine c_seq ?_
                    refine c_region ?_
                    refine JL_run 4 [] [3, 2] 1 ⟨[(3, vI r6.2.2), (2, .p 0 0)], [⟨63, [vI 0, vI 0, vI 0, vI 0, vI 0, vI 0, vS emp, vS emp, vI 0]⟩]⟩ [] [] (by kernel_rfl) on wn ?_
                    refine l_nil (q_then_normal ?_)
                    refine c_ret ?_
                    refine q_then_ret (q_then_ret (q_ret (.inl rfl) [.v (.agg #[.int .i64 0, .int .i64 0, .int .i64 0, .int .i64 0, .int .i64 0, .int .i64 0, .string emp, .string emp, .int .i64 0]), vI r6.2.2] rfl (fun bs w hS => ?_)))
                    refine ⟨?_, hS.kp⟩
                    have hm : mDecode s = ((⟨0, 0, 0, 0, 0, ⟨0, emp, emp, 0⟩⟩ : DCommand), r6.2.2) := by
                      have hk : (cmd0 s).kind = ((s.data.getD 0 0).toNat : Int) := rfl
                      unfold mDecode
                      repeat (first | rw [if_pos (by omega)] | rw [if_neg (by omega)])
                      all_goals (simp only [mFin, mBody, cmd0, zOp, hr1, hr2, hr3, hr4, hr5, hr6, h4, h5, h6, h7, h8, h9, ne_eq, not_true_eq_false, not_false_eq_true, if_true, if_false, reduceIte]; try rfl)
                    rw [hm]
                    rfl
                | false =>
                  have h8 := of_decide_eq_false h8
                  refine c_if true rfl ?_
                  refine c_seq ?_
                  refine c_region ?_
                  refine JL_run 4 [] [3, 2] 1 ⟨[(3, vI r5.2.2), (2, .p 0 0)], [⟨63, [vI 0, vI 0, vI 0, vI 0, vI 0, vI 0, vS emp, vS emp, vI 0]⟩]⟩ [] [] (by kernel_rfl) on wn ?_
                  refine l_nil (q_then_normal ?_)
                  refine c_ret ?_
                  refine q_then_ret (q_block_ret (q_then_ret (q_then_ret (q_block_ret (q_then_ret (q_then_ret (q_ret (.inl rfl) [.v (.agg #[.int .i64 0, .int .i64 0, .int .i64 0, .int .i64 0, .int .i64 0, .int .i64 0, .string emp, .string emp, .int .i64 0]), vI r5.2.2] rfl (fun bs w hS => ?_))))))))
                  refine ⟨?_, hS.kp⟩
                  have hm : mDecode s = ((⟨0, 0, 0, 0, 0, ⟨0, emp, emp, 0⟩⟩ : DCommand), r5.2.2) := by
                    have hk : (cmd0 s).kind = ((s.data.getD 0 0).toNat : Int) := rfl
                    unfold mDecode
                    repeat (first | rw [if_pos (by omega)] | rw [if_neg (by omega)])
                    all_goals (simp only [mFin, mBody, cmd0, zOp, hr1, hr2, hr3, hr4, hr5, h4, h5, h6, h7, h8, ne_eq, not_true_eq_false, not_false_eq_true, if_true, if_false, reduceIte]; try rfl)
                  rw [hm]
                  rfl
              | false =>
                have h7 := of_decide_eq_false h7
                refine c_if true rfl ?_
                refine c_seq ?_
                refine c_region ?_
                refine JL_run 4 [] [3, 2] 1 ⟨[(3, vI r4.2.2), (2, .p 0 0)], [⟨63, [vI 0, vI 0, vI 0, vI 0, vI 0, vI 0, vS emp, vS emp, vI 0]⟩]⟩ [] [] (by kernel_rfl) on wn ?_
                refine l_nil (q_then_normal ?_)
                refine c_ret ?_
                refine q_then_ret (q_block_ret (q_then_ret (q_then_ret (q_block_ret (q_then_ret (q_then_ret (q_ret (.inl rfl) [.v (.agg #[.int .i64 0, .int .i64 0, .int .i64 0, .int .i64 0, .int .i64 0, .int .i64 0, .string emp, .string emp, .int .i64 0]), vI r4.2.2] rfl (fun bs w hS => ?_))))))))
                refine ⟨?_, hS.kp⟩
                have hm : mDecode s = ((⟨0, 0, 0, 0, 0, ⟨0, emp, emp, 0⟩⟩ : DCommand), r4.2.2) := by
                  have hk : (cmd0 s).kind = ((s.data.getD 0 0).toNat : Int) := rfl
                  unfold mDecode
                  repeat (first | rw [if_pos (by omega)] | rw [if_neg (by omega)])
                  all_goals (simp only [mFin, mBody, cmd0, zOp, hr1, hr2, hr3, hr4, h4, h5, h6, h7, ne_eq, not_true_eq_false, not_false_eq_true, if_true, if_false, reduceIte]; try rfl)
                rw [hm]
                rfl
            | false =>
              have h6 := of_decide_eq_false h6
              refine c_if true rfl ?_
              refine c_seq ?_
              refine c_region ?_
              refine JL_run 4 [] [3, 2] 1 ⟨[(3, vI r3.2.2), (2, .p 0 0)], [⟨63, [vI 0, vI 0, vI 0, vI 0, vI 0, vI 0, vS emp, vS emp, vI 0]⟩]⟩ [] [] (by kernel_rfl) on wn ?_
              refine l_nil (q_then_normal ?_)
              refine c_ret ?_
              refine q_then_ret (q_block_ret (q_then_ret (q_then_ret (q_block_ret (q_then_ret (q_then_ret (q_ret (.inl rfl) [.v (.agg #[.int .i64 0, .int .i64 0, .int .i64 0, .int .i64 0, .int .i64 0, .int .i64 0, .string emp, .string emp, .int .i64 0]), vI r3.2.2] rfl (fun bs w hS => ?_))))))))
              refine ⟨?_, hS.kp⟩
              have hm : mDecode s = ((⟨0, 0, 0, 0, 0, ⟨0, emp, emp, 0⟩⟩ : DCommand), r3.2.2) := by
                have hk : (cmd0 s).kind = ((s.data.getD 0 0).toNat : Int) := rfl
                unfold mDecode
                repeat (first | rw [if_pos (by omega)] | rw [if_neg (by omega)])
                all_goals (simp only [mFin, mBody, cmd0, zOp, hr1, hr2, hr3, h4, h5, h6, ne_eq, not_true_eq_false, not_false_eq_true, if_true, if_false, reduceIte]; try rfl)
              rw [hm]
              rfl
          | false =>
            have h5 := of_decide_eq_false h5
            refine c_if true rfl ?_
            refine c_seq ?_
            refine c_region ?_
            refine JL_run 4 [] [3, 2] 1 ⟨[(3, vI r2.2.2), (2, .p 0 0)], [⟨63, [vI 0, vI 0, vI 0, vI 0, vI 0, vI 0, vS emp, vS emp, vI 0]⟩]⟩ [] [] (by kernel_rfl) on wn ?_
            refine l_nil (q_then_normal ?_)
            refine c_ret ?_
            refine q_then_ret (q_block_ret (q_then_ret (q_then_ret (q_block_ret (q_then_ret (q_then_ret (q_ret (.inl rfl) [.v (.agg #[.int .i64 0, .int .i64 0, .int .i64 0, .int .i64 0, .int .i64 0, .int .i64 0, .string emp, .string emp, .int .i64 0]), vI r2.2.2] rfl (fun bs w hS => ?_))))))))
            refine ⟨?_, hS.kp⟩
            have hm : mDecode s = ((⟨0, 0, 0, 0, 0, ⟨0, emp, emp, 0⟩⟩ : DCommand), r2.2.2) := by
              have hk : (cmd0 s).kind = ((s.data.getD 0 0).toNat : Int) := rfl
              unfold mDecode
              repeat (first | rw [if_pos (by omega)] | rw [if_neg (by omega)])
              all_goals (simp only [mFin, mBody, cmd0, zOp, hr1, hr2, h4, h5, ne_eq, not_true_eq_false, not_false_eq_true, if_true, if_false, reduceIte]; try rfl)
            rw [hm]
            rfl
        | false =>
          have h4 := of_decide_eq_false h4
          refine c_if true rfl ?_
          refine c_seq ?_
          refine c_region ?_
          refine JL_run 4 [] [3, 2] 1 ⟨[(3, vI r1.2.2), (2, .p 0 0)], [⟨63, [vI 0, vI 0, vI 0, vI 0, vI 0, vI 0, vS emp, vS emp, vI 0]⟩]⟩ [] [] (by kernel_rfl) on wn ?_
          refine l_nil (q_then_normal ?_)
          refine c_ret ?_
          refine q_then_ret (q_block_ret (q_then_ret (q_then_ret (q_block_ret (q_then_ret (q_then_ret (q_ret (.inl rfl) [.v (.agg #[.int .i64 0, .int .i64 0, .int .i64 0, .int .i64 0, .int .i64 0, .int .i64 0, .string emp, .string emp, .int .i64 0]), vI r1.2.2] rfl (fun bs w hS => ?_))))))))
          refine ⟨?_, hS.kp⟩
          have hm : mDecode s = ((⟨0, 0, 0, 0, 0, ⟨0, emp, emp, 0⟩⟩ : DCommand), r1.2.2) := by
            have hk : (cmd0 s).kind = ((s.data.getD 0 0).toNat : Int) := rfl
            unfold mDecode
            repeat (first | rw [if_pos (by omega)] | rw [if_neg (by omega)])
            all_goals (simp only [mFin, mBody, cmd0, zOp, hr1, h4, ne_eq, not_true_eq_false, not_false_eq_true, if_true, if_false, reduceIte]; try rfl)
          rw [hm]
          rfl
      | false =>
        have h3 := of_decide_eq_false h3
        refine c_if false rfl ?_
        refine c_skip ?_
        refine q_then_normal ?_
        refine c_seq ?_
        refine c_seq ?_
        refine c_region ?_
        refine JL_run 2 [] [101, 4, 2] 2 ⟨[(101, vB (!(decide ((s.extract 2 s.size) = emp)))), (4, .p 1 0), (2, .p 0 0)], [⟨63, [vI 0, vI 0, vI 0, vI 0, vI 0, vI 0, vS emp, vS emp, vI 0]⟩, ⟨63, [vI ((s.data.getD 0 0).toNat : Int), vI ((s.data.getD 1 0).toNat : Int), vI 0, vI 0, vI 0, vI 0, vS emp, vS emp, vI 0]⟩]⟩ [] [] (by kernel_rfl) on wn ?_
        refine l_nil (q_then_normal ?_)
        cases h13 : decide ((s.extract 2 s.size) = emp) with
        | true =>
          have h13 := of_decide_eq_true h13
          have hzh13 : (s.extract 2 s.size).size = 0 := by rw [h13]; rfl
          refine c_if false rfl ?_
          refine c_skip ?_
          refine q_then_normal ?_
          refine c_seq ?_
          refine c_region ?_
          refine JL_run 1 [] [103, 4, 2] 2 ⟨[(103, .v (.agg #[.int .i64 ((s.data.getD 0 0).toNat : Int), .int .i64 ((s.data.getD 1 0).toNat : Int), .int .i64 0, .int .i64 0, .int .i64 0, .int .i64 0, .string emp, .string emp, .int .i64 0])), (4, .p 1 0), (2, .p 0 0)], [⟨63, [vI 0, vI 0, vI 0, vI 0, vI 0, vI 0, vS emp, vS emp, vI 0]⟩, ⟨63, [vI ((s.data.getD 0 0).toNat : Int), vI ((s.data.getD 1 0).toNat : Int), vI 0, vI 0, vI 0, vI 0, vS emp, vS emp, vI 0]⟩]⟩ [] [] (by kernel_rfl) on wn ?_
          refine l_pure 85 [] [.v (.agg #[.int .i64 ((s.data.getD 0 0).toNat : Int), .int .i64 ((s.data.getD 1 0).toNat : Int), .int .i64 0, .int .i64 0, .int .i64 0, .int .i64 0, .string emp, .string emp, .int .i64 0])] (.int .i64 (mCmd (⟨((s.data.getD 0 0).toNat : Int), ((s.data.getD 1 0).toNat : Int), 0, 0, 0, ⟨0, emp, emp, 0⟩⟩ : DCommand))) Try.call85 rfl rfl rfl rfl (fun bs w hS => ref_CommandFault (B := anyB) (⟨((s.data.getD 0 0).toNat : Int), ((s.data.getD 1 0).toNat : Int), 0, 0, 0, ⟨0, emp, emp, 0⟩⟩ : DCommand) w ⟨(show emp.size ≤ 9223372036854775807 from (by first | assumption | omega | (simp only [emp_size]; omega))), (show emp.size ≤ 9223372036854775807 from (by first | assumption | omega | (simp only [emp_size]; omega)))⟩) ?_
          refine JL_run 1 [] [17, 4, 2] 2 ⟨[(17, vI (mCmd (⟨((s.data.getD 0 0).toNat : Int), ((s.data.getD 1 0).toNat : Int), 0, 0, 0, ⟨0, emp, emp, 0⟩⟩ : DCommand))), (4, .p 1 0), (2, .p 0 0)], [⟨63, [vI 0, vI 0, vI 0, vI 0, vI 0, vI 0, vS emp, vS emp, vI 0]⟩, ⟨63, [vI ((s.data.getD 0 0).toNat : Int), vI ((s.data.getD 1 0).toNat : Int), vI 0, vI 0, vI 0, vI 0, vS emp, vS emp, vI 0]⟩]⟩ [] [] (by kernel_rfl) on wn ?_
          refine l_nil (q_then_normal ?_)
          refine c_seq ?_
          refine c_seq ?_
          refine c_region ?_
          refine JL_run 2 [] [106, 17, 4, 2] 2 ⟨[(106, vB (!(decide (mCmd (⟨((s.data.getD 0 0).toNat : Int), ((s.data.getD 1 0).toNat : Int), 0, 0, 0, ⟨0, emp, emp, 0⟩⟩ : DCommand) = 0)))), (17, vI (mCmd (⟨((s.data.getD 0 0).toNat : Int), ((s.data.getD 1 0).toNat : Int), 0, 0, 0, ⟨0, emp, emp, 0⟩⟩ : DCommand))), (4, .p 1 0), (2, .p 0 0)], [⟨63, [vI 0, vI 0, vI 0, vI 0, vI 0, vI 0, vS emp, vS emp, vI 0]⟩, ⟨63, [vI ((s.data.getD 0 0).toNat : Int), vI ((s.data.getD 1 0).toNat : Int), vI 0, vI 0, vI 0, vI 0, vS emp, vS emp, vI 0]⟩]⟩ [] [] (by kernel_rfl) on wn ?_
          refine l_nil (q_then_normal ?_)
          cases h14 : decide (mCmd (⟨((s.data.getD 0 0).toNat : Int), ((s.data.getD 1 0).toNat : Int), 0, 0, 0, ⟨0, emp, emp, 0⟩⟩ : DCommand) = 0) with
          | true =>
            have h14 := of_decide_eq_true h14
            refine c_if false rfl ?_
            refine c_skip ?_
            refine q_then_normal ?_
            refine c_seq ?_
            refine c_region ?_
            refine JL_run 3 [] [3, 2] 1 ⟨[(3, vI 0), (2, .p 0 0)], [⟨63, [vI ((s.data.getD 0 0).toNat : Int), vI ((s.data.getD 1 0).toNat : Int), vI 0, vI 0, vI 0, vI 0, vS emp, vS emp, vI 0]⟩]⟩ [] [] (by kernel_rfl) on wn ?_
            refine l_nil (q_then_normal ?_)
            refine c_ret ?_
            refine q_ret (.inl rfl) [.v (.agg #[.int .i64 ((s.data.getD 0 0).toNat : Int), .int .i64 ((s.data.getD 1 0).toNat : Int), .int .i64 0, .int .i64 0, .int .i64 0, .int .i64 0, .string emp, .string emp, .int .i64 0]), vI 0] rfl (fun bs w hS => ?_)
            refine ⟨?_, hS.kp⟩
            have hm : mDecode s = ((⟨((s.data.getD 0 0).toNat : Int), ((s.data.getD 1 0).toNat : Int), 0, 0, 0, ⟨0, emp, emp, 0⟩⟩ : DCommand), 0) := by
              have hk : (cmd0 s).kind = ((s.data.getD 0 0).toNat : Int) := rfl
              unfold mDecode
              repeat (first | rw [if_pos (by omega)] | rw [if_neg (by omega)])
              all_goals (simp only [mFin, mBody, cmd0, zOp, h13, h14, ne_eq, not_true_eq_false, not_false_eq_true, if_true, if_false, reduceIte]; try rfl)
            rw [hm]
            rfl
          | false =>
            have h14 := of_decide_eq_false h14
            refine c_if true rfl ?_
            refine c_seq ?_
            refine c_region ?_
            refine JL_run 4 [] [3, 2] 1 ⟨[(3, vI (mCmd (⟨((s.data.getD 0 0).toNat : Int), ((s.data.getD 1 0).toNat : Int), 0, 0, 0, ⟨0, emp, emp, 0⟩⟩ : DCommand))), (2, .p 0 0)], [⟨63, [vI 0, vI 0, vI 0, vI 0, vI 0, vI 0, vS emp, vS emp, vI 0]⟩]⟩ [] [] (by kernel_rfl) on wn ?_
            refine l_nil (q_then_normal ?_)
            refine c_ret ?_
            refine q_then_ret (q_ret (.inl rfl) [.v (.agg #[.int .i64 0, .int .i64 0, .int .i64 0, .int .i64 0, .int .i64 0, .int .i64 0, .string emp, .string emp, .int .i64 0]), vI (mCmd (⟨((s.data.getD 0 0).toNat : Int), ((s.data.getD 1 0).toNat : Int), 0, 0, 0, ⟨0, emp, emp, 0⟩⟩ : DCommand))] rfl (fun bs w hS => ?_))
            refine ⟨?_, hS.kp⟩
            have hm : mDecode s = ((⟨0, 0, 0, 0, 0, ⟨0, emp, emp, 0⟩⟩ : DCommand), mCmd (⟨((s.data.getD 0 0).toNat : Int), ((s.data.getD 1 0).toNat : Int), 0, 0, 0, ⟨0, emp, emp, 0⟩⟩ : DCommand)) := by
              have hk : (cmd0 s).kind = ((s.data.getD 0 0).toNat : Int) := rfl
              unfold mDecode
              repeat (first | rw [if_pos (by omega)] | rw [if_neg (by omega)])
              all_goals (simp only [mFin, mBody, cmd0, zOp, h13, h14, ne_eq, not_true_eq_false, not_false_eq_true, if_true, if_false, reduceIte]; try rfl)
            rw [hm]
            rfl
        | false =>
          have h13 := of_decide_eq_false h13
          refine c_if true rfl ?_
          refine c_seq ?_
          refine c_region ?_
          refine JL_run 3 [] [3, 2] 1 ⟨[(3, vI 4), (2, .p 0 0)], [⟨63, [vI 0, vI 0, vI 0, vI 0, vI 0, vI 0, vS emp, vS emp, vI 0]⟩]⟩ [] [] (by kernel_rfl) on wn ?_
          refine l_nil (q_then_normal ?_)
          refine c_ret ?_
          refine q_then_ret (q_ret (.inl rfl) [.v (.agg #[.int .i64 0, .int .i64 0, .int .i64 0, .int .i64 0, .int .i64 0, .int .i64 0, .string emp, .string emp, .int .i64 0]), vI 4] rfl (fun bs w hS => ?_))
          refine ⟨?_, hS.kp⟩
          have hm : mDecode s = ((⟨0, 0, 0, 0, 0, ⟨0, emp, emp, 0⟩⟩ : DCommand), 4) := by
            have hk : (cmd0 s).kind = ((s.data.getD 0 0).toNat : Int) := rfl
            unfold mDecode
            repeat (first | rw [if_pos (by omega)] | rw [if_neg (by omega)])
            all_goals (simp only [mFin, mBody, cmd0, zOp, h13, ne_eq, not_true_eq_false, not_false_eq_true, if_true, if_false, reduceIte]; try rfl)
          rw [hm]
          rfl

theorem log_Check {B : Nat → Prop} (x : CLog) (w : World) (hx : Rds.sub B w x) : Calls Try.prog 41 #[.agg #[.int .i64 x.base, .slice x.entries.A x.entries.n x.entries.c]] w fun e w' => e = .returned (.int .i64 (mLog x.abs)) ∧ Kp [] w w' := by
  have okx := Rds.okof hx
  have ncx := Sl.ok.nc okx
  have hnx : x.entries.n = x.entries.xs.length := rfl
  have q1 : x.abs.base = x.base := rfl
  have q2 : x.abs.entries = x.entries.xs := rfl
  have hat : ∀ q, x.entries.xs.getD q default = x.entries.at q := fun _ => rfl
  refine calls_J0 35 Try.func41 rfl rfl [.agg #[.int .i64 x.base, .slice x.entries.A x.entries.n x.entries.c]] rfl ?_
  refine c_seq ?_
  refine c_region ?_
  refine JL_run 2 [] [1] 1 ⟨[(1, .p 0 0)], [⟨74, [vI x.base, .v (.slice x.entries.A x.entries.n x.entries.c)]⟩]⟩ [] [] (by kernel_rfl) on wn ?_
  refine l_nil (q_then_normal ?_)
  refine c_seq ?_
  refine c_seq ?_
  refine c_region ?_
  refine JL_run 4 [] [10, 1] 1 ⟨[(10, vB (decide (x.base < 0))), (1, .p 0 0)], [⟨74, [vI x.base, .v (.slice x.entries.A x.entries.n x.entries.c)]⟩]⟩ [] [] (by kernel_rfl) on wn ?_
  cases h1 : decide (x.base < 0) with
  | true =>
    have h1 := of_decide_eq_true h1
    refine JL_run 4 [] [14, 1] 1 ⟨[(14, vB true), (1, .p 0 0)], [⟨74, [vI x.base, .v (.slice x.entries.A x.entries.n x.entries.c)]⟩]⟩ [] [] (by kernel_rfl) on wn ?_
    refine l_nil (q_then_normal ?_)
    refine c_if true rfl ?_
    refine c_seq ?_
    refine c_region ?_
    refine JL_run 1 [] [2] 0 ⟨[(2, vI 2)], []⟩ [] [] (by kernel_rfl) on wn ?_
    refine l_nil (q_then_normal ?_)
    refine c_ret ?_
    refine q_then_ret (q_ret (.inl rfl) [vI 2] rfl (fun bs w hS => ?_))
    refine ⟨?_, hS.kp⟩
    simp only [retOf, den, List.map_cons, List.map_nil]
    have hm : mLog x.abs = 2 := by
      unfold mLog; rw [q1, q2]
      first | rw [if_pos (by omega)] | rw [if_neg (by omega), if_pos (by omega)]
    rw [hm]
  | false =>
    have h1 := of_decide_eq_false h1
    refine JL_run 4 [] [14, 1] 1 ⟨[(14, vB (decide ((1073741424 : Int) < x.base))), (1, .p 0 0)], [⟨74, [vI x.base, .v (.slice x.entries.A x.entries.n x.entries.c)]⟩]⟩ [] [] (by kernel_rfl) on wn ?_
    refine l_nil (q_then_normal ?_)
    cases h2 : decide ((1073741424 : Int) < x.base) with
    | true =>
      have h2 := of_decide_eq_true h2
      refine c_if true rfl ?_
      refine c_seq ?_
      refine c_region ?_
      refine JL_run 1 [] [2] 0 ⟨[(2, vI 2)], []⟩ [] [] (by kernel_rfl) on wn ?_
      refine l_nil (q_then_normal ?_)
      refine c_ret ?_
      refine q_then_ret (q_ret (.inl rfl) [vI 2] rfl (fun bs w hS => ?_))
      refine ⟨?_, hS.kp⟩
      simp only [retOf, den, List.map_cons, List.map_nil]
      have hm : mLog x.abs = 2 := by
        unfold mLog; rw [q1, q2]
        first | rw [if_pos (by omega)] | rw [if_neg (by omega), if_pos (by omega)]
      rw [hm]
    | false =>
      have h2 := of_decide_eq_false h2
      refine c_if false rfl ?_
      refine c_skip ?_
      refine q_then_normal ?_
      refine c_seq ?_
      refine c_seq ?_
      refine c_region ?_
      refine JL_run 4 [] [18, 1] 1 ⟨[(18, vB (decide ((400 : Int) < ((x.entries.n : Nat) : Int)))), (1, .p 0 0)], [⟨74, [vI x.base, .v (.slice x.entries.A x.entries.n x.entries.c)]⟩]⟩ [] [] (by kernel_rfl) on wn ?_
      refine l_nil (q_then_normal ?_)
      cases h3 : decide ((400 : Int) < ((x.entries.n : Nat) : Int)) with
      | true =>
        have h3 := of_decide_eq_true h3
        refine c_if true rfl ?_
        refine c_seq ?_
        refine c_region ?_
        refine JL_run 1 [] [2] 0 ⟨[(2, vI 1)], []⟩ [] [] (by kernel_rfl) on wn ?_
        refine l_nil (q_then_normal ?_)
        refine c_ret ?_
        refine q_then_ret (q_ret (.inl rfl) [vI 1] rfl (fun bs w hS => ?_))
        refine ⟨?_, hS.kp⟩
        simp only [retOf, den, List.map_cons, List.map_nil]
        have hm : mLog x.abs = 1 := by
          unfold mLog; rw [q1, q2]
          first | rw [if_pos (by omega)] | rw [if_neg (by omega), if_pos (by omega)]
        rw [hm]
      | false =>
        have h3 := of_decide_eq_false h3
        refine c_if false rfl ?_
        refine c_skip ?_
        refine q_then_normal ?_
        refine c_seq ?_
        refine c_seq ?_
        refine c_region ?_
        refine JL_run 4 [] [22, 21, 20] 0 ⟨[(22, vI 0), (21, vI ((x.entries.n : Nat) : Int)), (20, .v (.slice x.entries.A x.entries.n x.entries.c))], []⟩ [] [] (by kernel_rfl) on wn ?_
        refine l_nil (q_then_normal ?_)
        refine c_block ?_
        refine c_loop (σ := Nat) (fun i => i ≤ x.entries.n ∧ mLog x.abs = firstF (logF x.entries.xs) (x.entries.n - i) i) (fun i => x.entries.n - i) (fun i => []) (fun i => ⟨[(22, vI ((i : Nat) : Int)), (21, vI ((x.entries.n : Nat) : Int)), (20, .v (.slice x.entries.A x.entries.n x.entries.c))], []⟩) 0 ⟨Nat.zero_le _, by unfold mLog; rw [q1, q2, if_neg (by omega), if_neg (by omega)]⟩ (s_start [22, 21, 20] 0 (by kernel_rfl) rfl) ?_
        rintro i ⟨hi, hI⟩
        refine c_seq ?_
        refine c_region ?_
        refine JL_run 1 [] [23, 22, 21, 20] 0 ⟨[(23, vB (decide (((i : Nat) : Int) < ((x.entries.n : Nat) : Int)))), (22, vI ((i : Nat) : Int)), (21, vI ((x.entries.n : Nat) : Int)), (20, .v (.slice x.entries.A x.entries.n x.entries.c))], []⟩ [] [] (by kernel_rfl) on wn ?_
        refine l_nil (q_then_normal ?_)
        refine c_seq ?_
        cases h4 : decide (((i : Nat) : Int) < ((x.entries.n : Nat) : Int)) with
        | true =>
          have h4 := of_decide_eq_true h4
          refine c_if true rfl ?_
          refine c_skip ?_
          refine q_then_normal ?_
          refine c_seq ?_
          refine c_block ?_
          refine c_seq ?_
          refine c_region ?_
          refine JL_run 3 [(0, .idx x.entries.ad i), (1, .ext [.string (x.entries.at i)])] [4, 22, 21, 20] 0 ⟨[(4, vS (x.entries.at i)), (22, vI ((i : Nat) : Int)), (21, vI ((x.entries.n : Nat) : Int)), (20, .v (.slice x.entries.A x.entries.n x.entries.c))], []⟩ [x.entries.A = some x.entries.ad, ((i : Nat) : Int) = ((i : Nat) : Int), i < x.entries.n] [(x.entries.ad.add (i * 1), [.string (x.entries.at i)])] (by kernel_rfl) (oc (Sl.ok.own (s := x.entries) (i := i) okx (by omega)) (oc rfl (oc (by omega) on))) (fun w hk hr => ⟨(Sl.rd.all (s := x.entries) (i := i) (Rds.kp hx hk) (by omega) rfl), trivial⟩) ?_
          refine l_nil (q_then_normal ?_)
          refine c_seq ?_
          refine c_region ?_
          refine JL_run 1 [] [27, 22, 21, 20] 0 ⟨[(27, vS (x.entries.at i)), (22, vI ((i : Nat) : Int)), (21, vI ((x.entries.n : Nat) : Int)), (20, .v (.slice x.entries.A x.entries.n x.entries.c))], []⟩ [] [] (by kernel_rfl) on wn ?_
          refine l_pure 35 [] [vS (x.entries.at i)] (.tuple #[.agg #[.int .i64 ((mDecode (x.entries.at i)).1.kind), .int .i64 ((mDecode (x.entries.at i)).1.client), .int .i64 ((mDecode (x.entries.at i)).1.session), .int .i64 ((mDecode (x.entries.at i)).1.seq), .int .i64 ((mDecode (x.entries.at i)).1.acked), .int .i64 ((mDecode (x.entries.at i)).1.op.kind), .string ((mDecode (x.entries.at i)).1.op.a), .string ((mDecode (x.entries.at i)).1.op.b), .int .i64 ((mDecode (x.entries.at i)).1.op.n)], .int .i64 ((mDecode (x.entries.at i)).2)]) Try.call35 rfl rfl rfl rfl (fun bs w hS => command_Decode (x.entries.at i) w (Sl.ok.at (s := x.entries) (i := i) okx (by omega))) ?_
          refine JL_run 6 [] [6, 22, 21, 20] 0 ⟨[(6, vI ((mDecode (x.entries.at i)).2)), (22, vI ((i : Nat) : Int)), (21, vI ((x.entries.n : Nat) : Int)), (20, .v (.slice x.entries.A x.entries.n x.entries.c))], []⟩ [] [] (by kernel_rfl) on wn ?_
          refine l_nil (q_then_normal ?_)
          refine c_seq ?_
          refine c_region ?_
          refine JL_run 2 [] [32, 6, 22, 21, 20] 0 ⟨[(32, vB (!(decide ((mDecode (x.entries.at i)).2 = 0)))), (6, vI ((mDecode (x.entries.at i)).2)), (22, vI ((i : Nat) : Int)), (21, vI ((x.entries.n : Nat) : Int)), (20, .v (.slice x.entries.A x.entries.n x.entries.c))], []⟩ [] [] (by kernel_rfl) on wn ?_
          refine l_nil (q_then_normal ?_)
          cases h5 : decide ((mDecode (x.entries.at i)).2 = 0) with
          | true =>
            have h5 := of_decide_eq_true h5
            refine c_if false rfl ?_
            refine c_skip ?_
            refine q_block_normal (q_then_normal ?_)
            refine c_region ?_
            refine JL_run 2 [] [22, 21, 20] 0 ⟨[(22, vI (((i : Nat) : Int) + 1)), (21, vI ((x.entries.n : Nat) : Int)), (20, .v (.slice x.entries.A x.entries.n x.entries.c))], []⟩ [inR (((i : Nat) : Int) + 1)] [] (by kernel_rfl) (oc (by unfold inR; omega) on) wn ?_
            have hf0 : logF x.entries.xs i = 0 := by unfold logF; rw [hat]; assumption
            refine l_nil (q_loop (x := (i : Nat)) ((i + 1) : Nat) ⟨by omega, by rw [hI]; exact firstF_step (by omega) hf0⟩ (by omega) (s_start [22, 21, 20] 0 (by kernel_rfl) rfl))
          | false =>
            have h5 := of_decide_eq_false h5
            refine c_if true rfl ?_
            refine c_seq ?_
            refine c_region ?_
            refine JL_run 2 [] [2] 0 ⟨[(2, vI ((mDecode (x.entries.at i)).2))], []⟩ [] [] (by kernel_rfl) on wn ?_
            refine l_nil (q_then_normal ?_)
            refine c_ret ?_
            refine q_block_ret (q_then_ret (q_then_ret (q_block_ret (q_then_ret (q_ret (.inl rfl) [vI ((mDecode (x.entries.at i)).2)] rfl (fun bs w hS => ?_))))))
            refine ⟨?_, hS.kp⟩
            simp only [retOf, den, List.map_cons, List.map_nil]
            have hf : logF x.entries.xs i = (mDecode (x.entries.at i)).2 := by unfold logF; rw [hat]
            rw [hI, firstF_here (by omega) hf (by assumption)]
        | false =>
          have h4 := of_decide_eq_false h4
          refine c_if false rfl ?_
          refine c_exit ?_
          refine q_then_exit (q_then_exit (q_block_hit (q_then_normal ?_)))
          refine c_seq ?_
          refine c_region ?_
          refine JL_run 1 [] [2] 0 ⟨[(2, vI 0)], []⟩ [] [] (by kernel_rfl) on wn ?_
          refine l_nil (q_then_normal ?_)
          refine c_ret ?_
          refine q_ret (.inl rfl) [vI 0] rfl (fun bs w hS => ?_)
          refine ⟨?_, hS.kp⟩
          simp only [retOf, den, List.map_cons, List.map_nil]
          rw [hI, firstF_end (by omega)]

theorem ref_LogFault {B : Nat → Prop} (x : CLog) (w : World) (hx : Rds.sub B w x) : Calls Try.prog 42 #[.agg #[.int .i64 x.base, .slice x.entries.A x.entries.n x.entries.c]] w fun e w' => e = .returned (.int .i64 (mLog x.abs)) ∧ Kp [] w w' := by
  have okx := Rds.okof hx
  have ncx := Sl.ok.nc okx
  have hnx : x.entries.n = x.entries.xs.length := rfl
  have q1 : x.abs.base = x.base := rfl
  have q2 : x.abs.entries = x.entries.xs := rfl
  have hat : ∀ q, x.entries.xs.getD q default = x.entries.at q := fun _ => rfl
  refine calls_J0 33 Try.func42 rfl rfl [.agg #[.int .i64 x.base, .slice x.entries.A x.entries.n x.entries.c]] rfl ?_
  refine c_seq ?_
  refine c_region ?_
  refine JL_run 2 [] [1] 1 ⟨[(1, .p 0 0)], [⟨74, [vI x.base, .v (.slice x.entries.A x.entries.n x.entries.c)]⟩]⟩ [] [] (by kernel_rfl) on wn ?_
  refine l_nil (q_then_normal ?_)
  refine c_seq ?_
  refine c_seq ?_
  refine c_region ?_
  refine JL_run 2 [] [7, 1] 1 ⟨[(7, vI x.base), (1, .p 0 0)], [⟨74, [vI x.base, .v (.slice x.entries.A x.entries.n x.entries.c)]⟩]⟩ [] [] (by kernel_rfl) on wn ?_
  refine l_pure 68 [] [vI x.base, vI 0, vI 1073741424] (.bool (inB x.base 0 1073741424)) Try.call68 rfl rfl rfl rfl (fun bs w hS => ref_In _ _ _ w) ?_
  refine JL_run 1 [] [9, 1] 1 ⟨[(9, vB (!(inB x.base 0 1073741424))), (1, .p 0 0)], [⟨74, [vI x.base, .v (.slice x.entries.A x.entries.n x.entries.c)]⟩]⟩ [] [] (by kernel_rfl) on wn ?_
  refine l_nil (q_then_normal ?_)
  cases h1 : inB x.base 0 1073741424 with
  | true =>
    simp only [inB, Bool.and_eq_true, Bool.and_eq_false_iff, decide_eq_true_eq, decide_eq_false_iff_not] at h1
    refine c_if false rfl ?_
    refine c_skip ?_
    refine q_then_normal ?_
    refine c_seq ?_
    refine c_seq ?_
    refine c_region ?_
    refine JL_run 4 [] [13, 1] 1 ⟨[(13, vB (decide ((400 : Int) < ((x.entries.n : Nat) : Int)))), (1, .p 0 0)], [⟨74, [vI x.base, .v (.slice x.entries.A x.entries.n x.entries.c)]⟩]⟩ [] [] (by kernel_rfl) on wn ?_
    refine l_nil (q_then_normal ?_)
    cases h2 : decide ((400 : Int) < ((x.entries.n : Nat) : Int)) with
    | true =>
      have h2 := of_decide_eq_true h2
      refine c_if true rfl ?_
      refine c_seq ?_
      refine c_region ?_
      refine JL_run 1 [] [2] 0 ⟨[(2, vI 1)], []⟩ [] [] (by kernel_rfl) on wn ?_
      refine l_nil (q_then_normal ?_)
      refine c_ret ?_
      refine q_then_ret (q_ret (.inl rfl) [vI 1] rfl (fun bs w hS => ?_))
      refine ⟨?_, hS.kp⟩
      simp only [retOf, den, List.map_cons, List.map_nil]
      have hm : mLog x.abs = 1 := by
        unfold mLog; rw [q1, q2]
        first | rw [if_pos (by omega)] | rw [if_neg (by omega), if_pos (by omega)]
      rw [hm]
    | false =>
      have h2 := of_decide_eq_false h2
      refine c_if false rfl ?_
      refine c_skip ?_
      refine q_then_normal ?_
      refine c_seq ?_
      refine c_seq ?_
      refine c_region ?_
      refine JL_run 1 [] [3, 1] 1 ⟨[(3, vI 0), (1, .p 0 0)], [⟨74, [vI x.base, .v (.slice x.entries.A x.entries.n x.entries.c)]⟩]⟩ [] [] (by kernel_rfl) on wn ?_
      refine l_nil (q_then_normal ?_)
      refine c_block ?_
      refine c_loop (σ := Nat) (fun i => i ≤ x.entries.n ∧ mLog x.abs = firstF (logF x.entries.xs) (x.entries.n - i) i) (fun i => x.entries.n - i) (fun i => []) (fun i => ⟨[(3, vI ((i : Nat) : Int)), (1, .p 0 0)], [⟨74, [vI x.base, .v (.slice x.entries.A x.entries.n x.entries.c)]⟩]⟩) 0 ⟨Nat.zero_le _, by unfold mLog; rw [q1, q2, if_neg (by omega), if_neg (by omega)]⟩ (s_start [3, 1] 1 (by kernel_rfl) rfl) ?_
      rintro i ⟨hi, hI⟩
      refine c_seq ?_
      refine c_seq ?_
      refine c_region ?_
      refine JL_run 5 [] [18, 3, 1] 1 ⟨[(18, vB (decide (((i : Nat) : Int) < ((x.entries.n : Nat) : Int)))), (3, vI ((i : Nat) : Int)), (1, .p 0 0)], [⟨74, [vI x.base, .v (.slice x.entries.A x.entries.n x.entries.c)]⟩]⟩ [] [] (by kernel_rfl) on wn ?_
      refine l_nil (q_then_normal ?_)
      cases h3 : decide (((i : Nat) : Int) < ((x.entries.n : Nat) : Int)) with
      | true =>
        have h3 := of_decide_eq_true h3
        refine c_if true rfl ?_
        refine c_skip ?_
        refine q_then_normal ?_
        refine c_seq ?_
        refine c_block ?_
        refine c_seq ?_
        refine c_region ?_
        refine JL_run 5 [(3, .idx x.entries.ad i), (4, .ext [.string (x.entries.at i)])] [26, 3, 1] 1 ⟨[(26, vS (x.entries.at i)), (3, vI ((i : Nat) : Int)), (1, .p 0 0)], [⟨74, [vI x.base, .v (.slice x.entries.A x.entries.n x.entries.c)]⟩]⟩ [x.entries.A = some x.entries.ad, ((i : Nat) : Int) = ((i : Nat) : Int), i < x.entries.n] [(x.entries.ad.add (i * 1), [.string (x.entries.at i)])] (by kernel_rfl) (oc (Sl.ok.own (s := x.entries) (i := i) okx (by omega)) (oc rfl (oc (by omega) on))) (fun w hk hr => ⟨(Sl.rd.all (s := x.entries) (i := i) (Rds.kp hx hk) (by omega) rfl), trivial⟩) ?_
        refine l_pure 36 [] [vS (x.entries.at i)] (.tuple #[.agg #[.int .i64 ((mDecode (x.entries.at i)).1.kind), .int .i64 ((mDecode (x.entries.at i)).1.client), .int .i64 ((mDecode (x.entries.at i)).1.session), .int .i64 ((mDecode (x.entries.at i)).1.seq), .int .i64 ((mDecode (x.entries.at i)).1.acked), .int .i64 ((mDecode (x.entries.at i)).1.op.kind), .string ((mDecode (x.entries.at i)).1.op.a), .string ((mDecode (x.entries.at i)).1.op.b), .int .i64 ((mDecode (x.entries.at i)).1.op.n)], .int .i64 ((mDecode (x.entries.at i)).2)]) Try.call36 rfl rfl rfl rfl (fun bs w hS => ref_CommandOf (x.entries.at i) w (Sl.ok.at (s := x.entries) (i := i) okx (by omega))) ?_
        refine JL_run 6 [] [5, 3, 1] 1 ⟨[(5, vI ((mDecode (x.entries.at i)).2)), (3, vI ((i : Nat) : Int)), (1, .p 0 0)], [⟨74, [vI x.base, .v (.slice x.entries.A x.entries.n x.entries.c)]⟩]⟩ [] [] (by kernel_rfl) on wn ?_
        refine l_nil (q_then_normal ?_)
        refine c_seq ?_
        refine c_region ?_
        refine JL_run 2 [] [31, 5, 3, 1] 1 ⟨[(31, vB (!(decide ((mDecode (x.entries.at i)).2 = 0)))), (5, vI ((mDecode (x.entries.at i)).2)), (3, vI ((i : Nat) : Int)), (1, .p 0 0)], [⟨74, [vI x.base, .v (.slice x.entries.A x.entries.n x.entries.c)]⟩]⟩ [] [] (by kernel_rfl) on wn ?_
        refine l_nil (q_then_normal ?_)
        cases h4 : decide ((mDecode (x.entries.at i)).2 = 0) with
        | true =>
          have h4 := of_decide_eq_true h4
          refine c_if false rfl ?_
          refine c_skip ?_
          refine q_block_normal (q_then_normal ?_)
          refine c_region ?_
          refine JL_run 3 [] [3, 1] 1 ⟨[(3, vI (((i : Nat) : Int) + 1)), (1, .p 0 0)], [⟨74, [vI x.base, .v (.slice x.entries.A x.entries.n x.entries.c)]⟩]⟩ [inR (((i : Nat) : Int) + 1)] [] (by kernel_rfl) (oc (by unfold inR; omega) on) wn ?_
          have hf0 : logF x.entries.xs i = 0 := by unfold logF; rw [hat]; assumption
          refine l_nil (q_loop (x := (i : Nat)) ((i + 1) : Nat) ⟨by omega, by rw [hI]; exact firstF_step (by omega) hf0⟩ (by omega) (s_start [3, 1] 1 (by kernel_rfl) rfl))
        | false =>
          have h4 := of_decide_eq_false h4
          refine c_if true rfl ?_
          refine c_seq ?_
          refine c_region ?_
          refine JL_run 2 [] [2] 0 ⟨[(2, vI ((mDecode (x.entries.at i)).2))], []⟩ [] [] (by kernel_rfl) on wn ?_
          refine l_nil (q_then_normal ?_)
          refine c_ret ?_
          refine q_block_ret (q_then_ret (q_then_ret (q_block_ret (q_then_ret (q_ret (.inl rfl) [vI ((mDecode (x.entries.at i)).2)] rfl (fun bs w hS => ?_))))))
          refine ⟨?_, hS.kp⟩
          simp only [retOf, den, List.map_cons, List.map_nil]
          have hf : logF x.entries.xs i = (mDecode (x.entries.at i)).2 := by unfold logF; rw [hat]
          rw [hI, firstF_here (by omega) hf (by assumption)]
      | false =>
        have h3 := of_decide_eq_false h3
        refine c_if false rfl ?_
        refine c_exit ?_
        refine q_then_exit (q_then_exit (q_block_hit (q_then_normal ?_)))
        refine c_seq ?_
        refine c_region ?_
        refine JL_run 1 [] [2] 0 ⟨[(2, vI 0)], []⟩ [] [] (by kernel_rfl) on wn ?_
        refine l_nil (q_then_normal ?_)
        refine c_ret ?_
        refine q_ret (.inl rfl) [vI 0] rfl (fun bs w hS => ?_)
        refine ⟨?_, hS.kp⟩
        simp only [retOf, den, List.map_cons, List.map_nil]
        rw [hI, firstF_end (by omega)]
  | false =>
    simp only [inB, Bool.and_eq_true, Bool.and_eq_false_iff, decide_eq_true_eq, decide_eq_false_iff_not] at h1
    refine c_if true rfl ?_
    refine c_seq ?_
    refine c_region ?_
    refine JL_run 1 [] [2] 0 ⟨[(2, vI 2)], []⟩ [] [] (by kernel_rfl) on wn ?_
    refine l_nil (q_then_normal ?_)
    refine c_ret ?_
    refine q_then_ret (q_ret (.inl rfl) [vI 2] rfl (fun bs w hS => ?_))
    refine ⟨?_, hS.kp⟩
    simp only [retOf, den, List.map_cons, List.map_nil]
    have hm : mLog x.abs = 2 := by
      unfold mLog; rw [q1, q2]
      first | rw [if_pos (by omega)] | rw [if_neg (by omega), if_pos (by omega)]
    rw [hm]

theorem log_Last {B : Nat → Prop} (x : CLog) (w : World) (hx : Rds.sub B w x) (hb : 0 ≤ x.base ∧ x.base ≤ 1073741424 ∧ x.entries.n ≤ 1048576) : Calls Try.prog 90 #[.agg #[.int .i64 x.base, .slice x.entries.A x.entries.n x.entries.c]] w fun e w' => e = .returned (.int .i64 (x.base + (x.entries.n : Int))) ∧ Kp [] w w' := by
  have okx := Rds.okof hx
  have ncx := Sl.ok.nc okx
  have hnx : x.entries.n = x.entries.xs.length := rfl
  have q1 : x.abs.base = x.base := rfl
  have q2 : x.abs.entries = x.entries.xs := rfl
  have hat : ∀ q, x.entries.xs.getD q default = x.entries.at q := fun _ => rfl
  refine calls_J0 9 Try.func90 rfl rfl [.agg #[.int .i64 x.base, .slice x.entries.A x.entries.n x.entries.c]] rfl ?_
  refine c_seq ?_
  refine c_region ?_
  refine JL_run 2 [] [1] 1 ⟨[(1, .p 0 0)], [⟨74, [vI x.base, .v (.slice x.entries.A x.entries.n x.entries.c)]⟩]⟩ [] [] (by kernel_rfl) on wn ?_
  refine l_nil (q_then_normal ?_)
  refine c_seq ?_
  refine c_region ?_
  refine JL_run 7 [] [2] 0 ⟨[(2, vI (x.base + ((x.entries.n : Nat) : Int)))], []⟩ [inR (x.base + ((x.entries.n : Nat) : Int))] [] (by kernel_rfl) (oc (by unfold inR; omega) on) wn ?_
  refine l_nil (q_then_normal ?_)
  refine c_ret ?_
  refine q_ret (.inl rfl) [vI (x.base + ((x.entries.n : Nat) : Int))] rfl (fun bs w hS => ?_)
  exact ⟨rfl, hS.kp⟩

theorem ref_LastOf {B : Nat → Prop} (x : CLog) (w : World) (hx : Rds.sub B w x) (hb : 0 ≤ x.base ∧ x.base ≤ 1073741424 ∧ x.entries.n ≤ 1048576) : Calls Try.prog 91 #[.agg #[.int .i64 x.base, .slice x.entries.A x.entries.n x.entries.c]] w fun e w' => e = .returned (.int .i64 (x.base + (x.entries.n : Int))) ∧ Kp [] w w' := by
  have okx := Rds.okof hx
  have ncx := Sl.ok.nc okx
  have hnx : x.entries.n = x.entries.xs.length := rfl
  have q1 : x.abs.base = x.base := rfl
  have q2 : x.abs.entries = x.entries.xs := rfl
  have hat : ∀ q, x.entries.xs.getD q default = x.entries.at q := fun _ => rfl
  refine calls_J0 9 Try.func91 rfl rfl [.agg #[.int .i64 x.base, .slice x.entries.A x.entries.n x.entries.c]] rfl ?_
  refine c_seq ?_
  refine c_region ?_
  refine JL_run 2 [] [1] 1 ⟨[(1, .p 0 0)], [⟨74, [vI x.base, .v (.slice x.entries.A x.entries.n x.entries.c)]⟩]⟩ [] [] (by kernel_rfl) on wn ?_
  refine l_nil (q_then_normal ?_)
  refine c_seq ?_
  refine c_region ?_
  refine JL_run 7 [] [2] 0 ⟨[(2, vI (x.base + ((x.entries.n : Nat) : Int)))], []⟩ [inR (x.base + ((x.entries.n : Nat) : Int))] [] (by kernel_rfl) (oc (by unfold inR; omega) on) wn ?_
  refine l_nil (q_then_normal ?_)
  refine c_ret ?_
  refine q_ret (.inl rfl) [vI (x.base + ((x.entries.n : Nat) : Int))] rfl (fun bs w hS => ?_)
  exact ⟨rfl, hS.kp⟩

theorem log_At {B : Nat → Prop} (x : CLog) (n : Int) (w : World) (hx : Rds.sub B w x) : Calls Try.prog 43 #[.agg #[.int .i64 x.base, .slice x.entries.A x.entries.n x.entries.c], .int .i64 n] w fun e w' => e = .returned (.tuple #[.string (mAt x.abs n).1, .int .i64 (mAt x.abs n).2]) ∧ Kp [] w w' := by
  have okx := Rds.okof hx
  have ncx := Sl.ok.nc okx
  have hnx : x.entries.n = x.entries.xs.length := rfl
  have q1 : x.abs.base = x.base := rfl
  have q2 : x.abs.entries = x.entries.xs := rfl
  have hat : ∀ q, x.entries.xs.getD q default = x.entries.at q := fun _ => rfl
  refine calls_J0 31 Try.func43 rfl rfl [.agg #[.int .i64 x.base, .slice x.entries.A x.entries.n x.entries.c], .int .i64 n] rfl ?_
  refine c_seq ?_
  refine c_region ?_
  refine JL_run 3 [] [2, 1] 1 ⟨[(2, .p 0 0), (1, vI n)], [⟨74, [vI x.base, .v (.slice x.entries.A x.entries.n x.entries.c)]⟩]⟩ [] [] (by kernel_rfl) on wn ?_
  refine l_nil (q_then_normal ?_)
  refine c_seq ?_
  refine c_seq ?_
  refine c_region ?_
  refine JL_run 1 [] [7, 2, 1] 1 ⟨[(7, .v (.agg #[.int .i64 x.base, .slice x.entries.A x.entries.n x.entries.c])), (2, .p 0 0), (1, vI n)], [⟨74, [vI x.base, .v (.slice x.entries.A x.entries.n x.entries.c)]⟩]⟩ [] [] (by kernel_rfl) on wn ?_
  refine l_pure 41 [] [.v (.agg #[.int .i64 x.base, .slice x.entries.A x.entries.n x.entries.c])] (.int .i64 (mLog x.abs)) Try.call41 rfl rfl rfl rfl (fun bs w hS => log_Check x w (Rds.kp hx hS.kp)) ?_
  refine JL_run 1 [] [6, 2, 1] 1 ⟨[(6, vI (mLog x.abs)), (2, .p 0 0), (1, vI n)], [⟨74, [vI x.base, .v (.slice x.entries.A x.entries.n x.entries.c)]⟩]⟩ [] [] (by kernel_rfl) on wn ?_
  refine l_nil (q_then_normal ?_)
  refine c_seq ?_
  refine c_region ?_
  refine JL_run 2 [] [10, 6, 2, 1] 1 ⟨[(10, vB (!(decide (mLog x.abs = 0)))), (6, vI (mLog x.abs)), (2, .p 0 0), (1, vI n)], [⟨74, [vI x.base, .v (.slice x.entries.A x.entries.n x.entries.c)]⟩]⟩ [] [] (by kernel_rfl) on wn ?_
  refine l_nil (q_then_normal ?_)
  cases h1 : decide (mLog x.abs = 0) with
  | true =>
    have h1 := of_decide_eq_true h1
    obtain ⟨hb1, hb2, hb3, hb4⟩ := mLog_bd h1
    rw [q1] at hb1 hb2
    rw [q2] at hb3
    refine c_if false rfl ?_
    refine c_skip ?_
    refine q_then_normal ?_
    refine c_seq ?_
    refine c_seq ?_
    refine c_region ?_
    refine JL_run 5 [] [16, 2, 1] 1 ⟨[(16, vB (decide (n ≤ x.base))), (2, .p 0 0), (1, vI n)], [⟨74, [vI x.base, .v (.slice x.entries.A x.entries.n x.entries.c)]⟩]⟩ [] [] (by kernel_rfl) on wn ?_
    cases h2 : decide (n ≤ x.base) with
    | true =>
      have h2 := of_decide_eq_true h2
      refine JL_run 5 [] [21, 2, 1] 1 ⟨[(21, vB true), (2, .p 0 0), (1, vI n)], [⟨74, [vI x.base, .v (.slice x.entries.A x.entries.n x.entries.c)]⟩]⟩ [] [] (by kernel_rfl) on wn ?_
      refine l_nil (q_then_normal ?_)
      refine c_if true rfl ?_
      refine c_seq ?_
      refine c_region ?_
      refine JL_run 2 [] [5, 4] 0 ⟨[(5, vI 6), (4, vS emp)], []⟩ [] [] (by kernel_rfl) on wn ?_
      refine l_nil (q_then_normal ?_)
      refine c_ret ?_
      refine q_then_ret (q_ret (.inl rfl) [vS emp, vI 6] rfl (fun bs w hS => ?_))
      refine ⟨?_, hS.kp⟩
      have hla : mLast x.abs = x.base + (x.entries.n : Int) := rfl
      have hm : mAt x.abs n = (emp, 6) := by
        unfold mAt; rw [if_pos (by assumption), hla, q1, if_neg (by omega)]
      rw [hm]
      rfl
    | false =>
      have h2 := of_decide_eq_false h2
      refine JL_run 2 [] [18, 17, 16, 2, 1] 1 ⟨[(18, .v (.agg #[.int .i64 x.base, .slice x.entries.A x.entries.n x.entries.c])), (17, vI n), (16, vB false), (2, .p 0 0), (1, vI n)], [⟨74, [vI x.base, .v (.slice x.entries.A x.entries.n x.entries.c)]⟩]⟩ [] [] (by kernel_rfl) on wn ?_
      refine l_pure 90 [] [.v (.agg #[.int .i64 x.base, .slice x.entries.A x.entries.n x.entries.c])] (.int .i64 (x.base + (x.entries.n : Int))) Try.call90 rfl rfl rfl rfl (fun bs w hS => log_Last x w (Rds.kp hx hS.kp) (by first | exact ⟨by omega, by omega, by omega⟩ | omega)) ?_
      refine JL_run 2 [] [21, 2, 1] 1 ⟨[(21, vB (decide (x.base + (x.entries.n : Int) < n))), (2, .p 0 0), (1, vI n)], [⟨74, [vI x.base, .v (.slice x.entries.A x.entries.n x.entries.c)]⟩]⟩ [] [] (by kernel_rfl) on wn ?_
      refine l_nil (q_then_normal ?_)
      cases h3 : decide (x.base + (x.entries.n : Int) < n) with
      | true =>
        have h3 := of_decide_eq_true h3
        refine c_if true rfl ?_
        refine c_seq ?_
        refine c_region ?_
        refine JL_run 2 [] [5, 4] 0 ⟨[(5, vI 6), (4, vS emp)], []⟩ [] [] (by kernel_rfl) on wn ?_
        refine l_nil (q_then_normal ?_)
        refine c_ret ?_
        refine q_then_ret (q_ret (.inl rfl) [vS emp, vI 6] rfl (fun bs w hS => ?_))
        refine ⟨?_, hS.kp⟩
        have hla : mLast x.abs = x.base + (x.entries.n : Int) := rfl
        have hm : mAt x.abs n = (emp, 6) := by
          unfold mAt; rw [if_pos (by assumption), hla, q1, if_neg (by omega)]
        rw [hm]
        rfl
      | false =>
        have h3 := of_decide_eq_false h3
        refine c_if false rfl ?_
        refine c_skip ?_
        refine q_then_normal ?_
        refine c_seq ?_
        refine c_region ?_
        refine JL_run 11 [(7, .idx x.entries.ad ((n - x.base) - 1).toNat), (8, .ext [.string (x.entries.at ((n - x.base) - 1).toNat)])] [5, 4] 0 ⟨[(5, vI 0), (4, vS (x.entries.at ((n - x.base) - 1).toNat))], []⟩ [inR (n - x.base), inR ((n - x.base) - 1), x.entries.A = some x.entries.ad, (n - x.base) - 1 = ((((n - x.base) - 1).toNat : Nat) : Int), ((n - x.base) - 1).toNat < x.entries.n] [(x.entries.ad.add (((n - x.base) - 1).toNat * 1), [.string (x.entries.at ((n - x.base) - 1).toNat)])] (by kernel_rfl) (oc (by unfold inR; omega) (oc (by unfold inR; omega) (oc (Sl.ok.own (s := x.entries) (i := ((n - x.base) - 1).toNat) okx (by omega)) (oc (by omega) (oc (by omega) on))))) (fun w hk hr => ⟨(Sl.rd.all (s := x.entries) (i := ((n - x.base) - 1).toNat) (Rds.kp hx hk) (by omega) rfl), trivial⟩) ?_
        refine l_nil (q_then_normal ?_)
        refine c_ret ?_
        refine q_ret (.inl rfl) [vS (x.entries.at ((n - x.base) - 1).toNat), vI 0] rfl (fun bs w hS => ?_)
        refine ⟨?_, hS.kp⟩
        have hla : mLast x.abs = x.base + (x.entries.n : Int) := rfl
        have hm : mAt x.abs n = ((x.entries.at ((n - x.base) - 1).toNat), 0) := by
          unfold mAt; rw [if_pos (by assumption), hla, q1, if_pos (by omega), q2]; rfl
        rw [hm]
        rfl
  | false =>
    have h1 := of_decide_eq_false h1
    refine c_if true rfl ?_
    refine c_seq ?_
    refine c_region ?_
    refine JL_run 3 [] [5, 4] 0 ⟨[(5, vI (mLog x.abs)), (4, vS emp)], []⟩ [] [] (by kernel_rfl) on wn ?_
    refine l_nil (q_then_normal ?_)
    refine c_ret ?_
    refine q_then_ret (q_ret (.inl rfl) [vS emp, vI (mLog x.abs)] rfl (fun bs w hS => ?_))
    refine ⟨?_, hS.kp⟩
    have hla : mLast x.abs = x.base + (x.entries.n : Int) := rfl
    have hm : mAt x.abs n = (emp, mLog x.abs) := by
      unfold mAt; rw [if_neg (by assumption)]
    rw [hm]
    rfl

theorem ref_EntryOf {B : Nat → Prop} (x : CLog) (n : Int) (w : World) (hx : Rds.sub B w x) : Calls Try.prog 44 #[.agg #[.int .i64 x.base, .slice x.entries.A x.entries.n x.entries.c], .int .i64 n] w fun e w' => e = .returned (.tuple #[.string (mAt x.abs n).1, .int .i64 (mAt x.abs n).2]) ∧ Kp [] w w' := by
  have okx := Rds.okof hx
  have ncx := Sl.ok.nc okx
  have hnx : x.entries.n = x.entries.xs.length := rfl
  have q1 : x.abs.base = x.base := rfl
  have q2 : x.abs.entries = x.entries.xs := rfl
  have hat : ∀ q, x.entries.xs.getD q default = x.entries.at q := fun _ => rfl
  refine calls_J0 33 Try.func44 rfl rfl [.agg #[.int .i64 x.base, .slice x.entries.A x.entries.n x.entries.c], .int .i64 n] rfl ?_
  refine c_seq ?_
  refine c_region ?_
  refine JL_run 3 [] [2, 1] 1 ⟨[(2, .p 0 0), (1, vI n)], [⟨74, [vI x.base, .v (.slice x.entries.A x.entries.n x.entries.c)]⟩]⟩ [] [] (by kernel_rfl) on wn ?_
  refine l_nil (q_then_normal ?_)
  refine c_seq ?_
  refine c_region ?_
  refine JL_run 1 [] [7, 2, 1] 1 ⟨[(7, .v (.agg #[.int .i64 x.base, .slice x.entries.A x.entries.n x.entries.c])), (2, .p 0 0), (1, vI n)], [⟨74, [vI x.base, .v (.slice x.entries.A x.entries.n x.entries.c)]⟩]⟩ [] [] (by kernel_rfl) on wn ?_
  refine l_pure 42 [] [.v (.agg #[.int .i64 x.base, .slice x.entries.A x.entries.n x.entries.c])] (.int .i64 (mLog x.abs)) Try.call42 rfl rfl rfl rfl (fun bs w hS => ref_LogFault x w (Rds.kp hx hS.kp)) ?_
  refine JL_run 1 [] [6, 2, 1] 1 ⟨[(6, vI (mLog x.abs)), (2, .p 0 0), (1, vI n)], [⟨74, [vI x.base, .v (.slice x.entries.A x.entries.n x.entries.c)]⟩]⟩ [] [] (by kernel_rfl) on wn ?_
  refine l_nil (q_then_normal ?_)
  refine c_seq ?_
  refine c_seq ?_
  refine c_draw 12 [(0, false), (1, false), (2, false), (3, false), (4, false), (5, false), (6, false), (7, false), (8, true), (9, true), (10, false), (11, false)] [] [] Try_mixed (by kernel_rfl) (pq_then (pq_then pq_body)) (List.Sublist.refl _) ?_
  refine h_quiet [] 3 [(11, vB (decide (mLog x.abs = 0))), (10, vB (decide (mLog x.abs = 0))), (9, vI (mLog x.abs)), (6, vI (mLog x.abs)), (2, .p 0 0), (1, vI n)] [] [] rfl rfl (by kernel_rfl) on wn ?_
  cases h1 : decide (mLog x.abs = 0) with
  | true =>
    have h1 := of_decide_eq_true h1
    obtain ⟨hb1, hb2, hb3, hb4⟩ := mLog_bd h1
    rw [q1] at hb1 hb2
    rw [q2] at hb3
    refine h_quiet [] 5 [(16, .v (.agg #[.int .i64 x.base, .slice x.entries.A x.entries.n x.entries.c])), (15, vI (x.base + 1)), (14, vI x.base), (13, .p 0 0), (12, vI n), (11, vB true), (10, vB true), (9, vI (mLog x.abs)), (6, vI (mLog x.abs)), (2, .p 0 0), (1, vI n)] [inR (x.base + 1)] [] rfl rfl (by kernel_rfl) (oc (by unfold inR; omega) on) wn ?_
    refine h_pure 91 [] [.v (.agg #[.int .i64 x.base, .slice x.entries.A x.entries.n x.entries.c])] (.int .i64 (x.base + (x.entries.n : Int))) rfl Try.call91 rfl rfl rfl rfl (fun bs w hS => ref_LastOf x w (Rds.kp hx hS.kp) (by first | exact ⟨by omega, by omega, by omega⟩ | omega)) (fun bs0 bs w hp hl hS => hS.down hp hl rfl (le_same le_nil) (List.Sublist.refl _)) ?_
    refine h_pure 68 [] [vI n, vI (x.base + 1), vI (x.base + (x.entries.n : Int))] (.bool (inB n (x.base + 1) (x.base + (x.entries.n : Int)))) rfl Try.call68 rfl rfl rfl rfl (fun bs w hS => ref_In _ _ _ w) (fun bs0 bs w hp hl hS => hS.down hp hl rfl (le_same le_nil) (List.Sublist.refl _)) ?_
    refine h_quiet [] 2 [(20, vB (!(inB n (x.base + 1) (x.base + (x.entries.n : Int))))), (19, vB (!(inB n (x.base + 1) (x.base + (x.entries.n : Int))))), (18, vB (inB n (x.base + 1) (x.base + (x.entries.n : Int)))), (17, vI (x.base + (x.entries.n : Int))), (16, .v (.agg #[.int .i64 x.base, .slice x.entries.A x.entries.n x.entries.c])), (15, vI (x.base + 1)), (14, vI x.base), (13, .p 0 0), (12, vI n), (11, vB true), (10, vB true), (9, vI (mLog x.abs)), (6, vI (mLog x.abs)), (2, .p 0 0), (1, vI n)] [] [] rfl rfl (by kernel_rfl) on wn ?_
    refine h_nil ?_
    refine l_nil (q_then_normal ?_)
    cases h2 : inB n (x.base + 1) (x.base + (x.entries.n : Int)) with
    | true =>
      simp only [inB, Bool.and_eq_true, Bool.and_eq_false_iff, decide_eq_true_eq, decide_eq_false_iff_not] at h2
      refine c_if false rfl ?_
      refine c_skip ?_
      refine q_then_normal ?_
      refine c_seq ?_
      refine c_seq ?_
      refine c_region ?_
      refine JL_run 2 [] [22, 6, 2, 1] 1 ⟨[(22, vB (!(decide (mLog x.abs = 0)))), (6, vI (mLog x.abs)), (2, .p 0 0), (1, vI n)], [⟨74, [vI x.base, .v (.slice x.entries.A x.entries.n x.entries.c)]⟩]⟩ [] [] (by kernel_rfl) on wn ?_
      refine l_nil (q_then_normal ?_)
      cases h3 : decide (mLog x.abs = 0) with
      | true =>
        have h3 := of_decide_eq_true h3
        obtain ⟨hb1, hb2, hb3, hb4⟩ := mLog_bd h3
        rw [q1] at hb1 hb2
        rw [q2] at hb3
        refine c_if false rfl ?_
        refine c_skip ?_
        refine q_then_normal ?_
        refine c_seq ?_
        refine c_region ?_
        refine JL_run 11 [(7, .idx x.entries.ad ((n - x.base) - 1).toNat), (8, .ext [.string (x.entries.at ((n - x.base) - 1).toNat)])] [5, 4] 0 ⟨[(5, vI 0), (4, vS (x.entries.at ((n - x.base) - 1).toNat))], []⟩ [inR (n - x.base), inR ((n - x.base) - 1), x.entries.A = some x.entries.ad, (n - x.base) - 1 = ((((n - x.base) - 1).toNat : Nat) : Int), ((n - x.base) - 1).toNat < x.entries.n] [(x.entries.ad.add (((n - x.base) - 1).toNat * 1), [.string (x.entries.at ((n - x.base) - 1).toNat)])] (by kernel_rfl) (oc (by unfold inR; omega) (oc (by unfold inR; omega) (oc (Sl.ok.own (s := x.entries) (i := ((n - x.base) - 1).toNat) okx (by omega)) (oc (by omega) (oc (by omega) on))))) (fun w hk hr => ⟨(Sl.rd.all (s := x.entries) (i := ((n - x.base) - 1).toNat) (Rds.kp hx hk) (by omega) rfl), trivial⟩) ?_
        refine l_nil (q_then_normal ?_)
        refine c_ret ?_
        refine q_ret (.inl rfl) [vS (x.entries.at ((n - x.base) - 1).toNat), vI 0] rfl (fun bs w hS => ?_)
        refine ⟨?_, hS.kp⟩
        have hla : mLast x.abs = x.base + (x.entries.n : Int) := rfl
        have hm : mAt x.abs n = ((x.entries.at ((n - x.base) - 1).toNat), 0) := by
          unfold mAt; rw [if_pos (by assumption), hla, q1, if_pos (by omega), q2]; rfl
        rw [hm]
        rfl
      | false =>
        have h3 := of_decide_eq_false h3
        exact absurd h1 h3
    | false =>
      simp only [inB, Bool.and_eq_true, Bool.and_eq_false_iff, decide_eq_true_eq, decide_eq_false_iff_not] at h2
      refine c_if true rfl ?_
      refine c_region ?_
      refine JL_run 1 [] [6, 2, 1] 1 ⟨[(6, vI 6), (2, .p 0 0), (1, vI n)], [⟨74, [vI x.base, .v (.slice x.entries.A x.entries.n x.entries.c)]⟩]⟩ [] [] (by kernel_rfl) on wn ?_
      refine l_nil (q_then_normal ?_)
      refine c_seq ?_
      refine c_seq ?_
      refine c_region ?_
      refine JL_run 2 [] [22, 6, 2, 1] 1 ⟨[(22, vB true), (6, vI 6), (2, .p 0 0), (1, vI n)], [⟨74, [vI x.base, .v (.slice x.entries.A x.entries.n x.entries.c)]⟩]⟩ [] [] (by kernel_rfl) on wn ?_
      refine l_nil (q_then_normal ?_)
      refine c_if true rfl ?_
      refine c_seq ?_
      refine c_region ?_
      refine JL_run 3 [] [5, 4] 0 ⟨[(5, vI 6), (4, vS emp)], []⟩ [] [] (by kernel_rfl) on wn ?_
      refine l_nil (q_then_normal ?_)
      refine c_ret ?_
      refine q_then_ret (q_ret (.inl rfl) [vS emp, vI 6] rfl (fun bs w hS => ?_))
      refine ⟨?_, hS.kp⟩
      have hla : mLast x.abs = x.base + (x.entries.n : Int) := rfl
      have hm : mAt x.abs n = (emp, 6) := by
        unfold mAt; rw [if_pos (by assumption), hla, q1, if_neg (by omega)]
      rw [hm]
      rfl
  | false =>
    have h1 := of_decide_eq_false h1
    refine h_quiet [] 5 [(16, .v (undef)), (15, .v (undef)), (14, .v (undef)), (13, .v (undef)), (12, .v (undef)), (11, vB false), (10, vB false), (9, vI (mLog x.abs)), (6, vI (mLog x.abs)), (2, .p 0 0), (1, vI n)] [] [] rfl rfl (by kernel_rfl) on wn ?_
    refine h_pass rfl rfl rfl ?_
    refine h_pass rfl rfl rfl ?_
    refine h_quiet [] 2 [(20, vB false), (19, .v (undef)), (18, .v (undef)), (17, .v (undef)), (16, .v (undef)), (15, .v (undef)), (14, .v (undef)), (13, .v (undef)), (12, .v (undef)), (11, vB false), (10, vB false), (9, vI (mLog x.abs)), (6, vI (mLog x.abs)), (2, .p 0 0), (1, vI n)] [] [] rfl rfl (by kernel_rfl) on wn ?_
    refine h_nil ?_
    refine l_nil (q_then_normal ?_)
    refine c_if false rfl ?_
    refine c_skip ?_
    refine q_then_normal ?_
    refine c_seq ?_
    refine c_seq ?_
    refine c_region ?_
    refine JL_run 2 [] [22, 6, 2, 1] 1 ⟨[(22, vB (!(decide (mLog x.abs = 0)))), (6, vI (mLog x.abs)), (2, .p 0 0), (1, vI n)], [⟨74, [vI x.base, .v (.slice x.entries.A x.entries.n x.entries.c)]⟩]⟩ [] [] (by kernel_rfl) on wn ?_
    refine l_nil (q_then_normal ?_)
    cases h4 : decide (mLog x.abs = 0) with
    | true =>
      have h4 := of_decide_eq_true h4
      exact absurd h4 h1
    | false =>
      have h4 := of_decide_eq_false h4
      refine c_if true rfl ?_
      refine c_seq ?_
      refine c_region ?_
      refine JL_run 3 [] [5, 4] 0 ⟨[(5, vI (mLog x.abs)), (4, vS emp)], []⟩ [] [] (by kernel_rfl) on wn ?_
      refine l_nil (q_then_normal ?_)
      refine c_ret ?_
      refine q_then_ret (q_ret (.inl rfl) [vS emp, vI (mLog x.abs)] rfl (fun bs w hS => ?_))
      refine ⟨?_, hS.kp⟩
      have hla : mLast x.abs = x.base + (x.entries.n : Int) := rfl
      have hm : mAt x.abs n = (emp, mLog x.abs) := by
        unfold mAt; rw [if_neg (by assumption)]
      rw [hm]
      rfl

theorem law_LogAts {B : Nat → Prop} (x : CLog) (n : Int) (w : World) (hx : Rds.sub B w x) : Calls Try.prog 14 #[.agg #[.int .i64 x.base, .slice x.entries.A x.entries.n x.entries.c], .int .i64 n] w fun e w' => e = .returned (.bool true) ∧ Kp [] w w' := by
  have okx := Rds.okof hx
  refine calls_J0 29 Try.func14 rfl rfl [.agg #[.int .i64 x.base, .slice x.entries.A x.entries.n x.entries.c], .int .i64 n] rfl ?_
  refine c_seq ?_
  refine c_region ?_
  refine JL_run 2 [] [2, 1] 1 ⟨[(2, .p 0 0), (1, vI n)], [⟨74, [vI x.base, .v (.slice x.entries.A x.entries.n x.entries.c)]⟩]⟩ [] [] (by kernel_rfl) on wn ?_
  refine l_nil (q_then_normal ?_)
  refine c_seq ?_
  refine c_region ?_
  refine JL_run 2 [] [11, 10, 2, 1] 1 ⟨[(11, vI n), (10, .v (.agg #[.int .i64 x.base, .slice x.entries.A x.entries.n x.entries.c])), (2, .p 0 0), (1, vI n)], [⟨74, [vI x.base, .v (.slice x.entries.A x.entries.n x.entries.c)]⟩]⟩ [] [] (by kernel_rfl) on wn ?_
  refine l_pure 43 [] [.v (.agg #[.int .i64 x.base, .slice x.entries.A x.entries.n x.entries.c]), vI n] (.tuple #[.string ((mAt x.abs n).1), .int .i64 ((mAt x.abs n).2)]) Try.call43 rfl rfl rfl rfl (fun bs w hS => log_At x n w (Rds.kp hx hS.kp)) ?_
  refine JL_run 5 [] [6, 5, 2, 1] 1 ⟨[(6, vI ((mAt x.abs n).2)), (5, vS ((mAt x.abs n).1)), (2, .p 0 0), (1, vI n)], [⟨74, [vI x.base, .v (.slice x.entries.A x.entries.n x.entries.c)]⟩]⟩ [] [] (by kernel_rfl) on wn ?_
  refine l_nil (q_then_normal ?_)
  refine c_seq ?_
  refine c_region ?_
  refine JL_run 2 [] [17, 16, 6, 5] 0 ⟨[(17, vI n), (16, .v (.agg #[.int .i64 x.base, .slice x.entries.A x.entries.n x.entries.c])), (6, vI ((mAt x.abs n).2)), (5, vS ((mAt x.abs n).1))], []⟩ [] [] (by kernel_rfl) on wn ?_
  refine l_pure 44 [] [.v (.agg #[.int .i64 x.base, .slice x.entries.A x.entries.n x.entries.c]), vI n] (.tuple #[.string ((mAt x.abs n).1), .int .i64 ((mAt x.abs n).2)]) Try.call44 rfl rfl rfl rfl (fun bs w hS => ref_EntryOf x n w (Rds.kp hx hS.kp)) ?_
  refine JL_run 5 [] [8, 7, 6, 5] 0 ⟨[(8, vI ((mAt x.abs n).2)), (7, vS ((mAt x.abs n).1)), (6, vI ((mAt x.abs n).2)), (5, vS ((mAt x.abs n).1))], []⟩ [] [] (by kernel_rfl) on wn ?_
  refine l_nil (q_then_normal ?_)
  refine c_seq ?_
  refine c_region ?_
  refine JL_run 4 [] [24, 8, 6] 0 ⟨[(24, vB (decide (((mAt x.abs n).1) = ((mAt x.abs n).1)))), (8, vI ((mAt x.abs n).2)), (6, vI ((mAt x.abs n).2))], []⟩ [] [] (by kernel_rfl) on wn ?_
  cases h1 : decide (((mAt x.abs n).1) = ((mAt x.abs n).1)) with
  | true =>
    have h1 := of_decide_eq_true h1
    refine JL_run 5 [] [4] 0 ⟨[(4, vB (decide ((mAt x.abs n).2 = (mAt x.abs n).2)))], []⟩ [] [] (by kernel_rfl) on wn ?_
    refine l_nil (q_then_normal ?_)
    refine c_ret ?_
    refine q_ret (.inl rfl) [vB (decide ((mAt x.abs n).2 = (mAt x.abs n).2))] rfl (fun bs w hS => ?_)
    refine ⟨?_, hS.kp⟩
    simp [retOf, den]
  | false =>
    have h1 := of_decide_eq_false h1
    exact absurd rfl h1

end Go.Proofs.Ytececkgjacccmac.W
