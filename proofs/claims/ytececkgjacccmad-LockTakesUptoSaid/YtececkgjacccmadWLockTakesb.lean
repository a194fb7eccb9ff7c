/-
  The functions that the law LockTakes reaches, walked: each returns what its model says.
  Conditions: those that each theorem states.
-/
import Derived.Test.YtececkgjacccmadWLockTakesa
set_option linter.unusedVariables false
set_option linter.unusedSimpArgs false
set_option maxRecDepth 100000
namespace Go.Proofs.Ytececkgjacccmad.W
open Go.Proofs.Ytececkgjacccmad.Fw Go.RowKit

theorem bs_lock_begin_1 {B : Nat → Prop} (s : Sl CLock) (t : ByteArray) (w : World) (hs : s.rd B w) (hn : s.n ≤ 1048576) : Calls Try.prog 109 #[.slice s.A s.n s.c, .string t, .func (.func 110) #[] #[]] w fun e w' => e = .returned (.tuple #[.int .i64 (mBS (fun x : CLock => cmpS x.name t) s.xs : Nat), .bool (mBSf (fun x : CLock => cmpS x.name t) s.xs)]) ∧ Kp [] w w' := by
  have oks := Sl.rd.ok hs
  have ncs := Sl.ok.nc oks
  have hns : s.n = s.xs.length := rfl
  refine calls_J 49 [] Try.func109 rfl rfl [] [] [] [.v (.slice s.A s.n s.c), vS t, .fn 110 []] [.slice s.A s.n s.c, .string t, .func (.func 110) #[] #[]] rfl rfl (WS.start w) ?_
  refine c_seq ?_
  refine c_region ?_
  refine JL_run 2 [] [0, 1, 2] 0 ⟨[(0, .v (.slice s.A s.n s.c)), (1, vS t), (2, .fn 110 [])], []⟩ [] [] (by kernel_rfl) on wn ?_
  refine l_nil (q_then_normal ?_)
  refine c_seq ?_
  refine c_region ?_
  refine JL_run 3 [] [8, 0, 1, 2] 0 ⟨[(8, vI ((s.n : Nat) : Int)), (0, .v (.slice s.A s.n s.c)), (1, vS t), (2, .fn 110 [])], []⟩ [] [] (by kernel_rfl) on wn ?_
  refine l_nil (q_then_normal ?_)
  refine c_seq ?_
  refine c_region ?_
  refine JL_run 3 [] [10, 9, 8, 0, 1, 2] 0 ⟨[(10, vI ((s.n : Nat) : Int)), (9, vI 0), (8, vI ((s.n : Nat) : Int)), (0, .v (.slice s.A s.n s.c)), (1, vS t), (2, .fn 110 [])], []⟩ [] [] (by kernel_rfl) on wn ?_
  refine l_nil (q_then_normal ?_)
  refine c_seq ?_
  refine c_block ?_
  refine c_loop (σ := Nat × Nat × Nat) (fun ⟨i, j, f⟩ => i ≤ j ∧ j ≤ s.n ∧ j - i ≤ f ∧ mBS (fun x : CLock => cmpS x.name t) s.xs = bsGo (fun j => decide (cmpS (s.at j).name t < 0)) f i j) (fun ⟨i, j, f⟩ => f) (fun ⟨i, j, f⟩ => []) (fun ⟨i, j, f⟩ => ⟨[(10, vI ((j : Nat) : Int)), (9, vI ((i : Nat) : Int)), (8, vI ((s.n : Nat) : Int)), (0, .v (.slice s.A s.n s.c)), (1, vS t), (2, .fn 110 [])], []⟩) ⟨0, s.n, s.n⟩ ⟨Nat.zero_le _, Nat.le_refl _, Nat.le_refl _, rfl⟩ (s_start [10, 9, 8, 0, 1, 2] 0 (by kernel_rfl) rfl) ?_
  rintro ⟨i, j, f⟩ ⟨h1, h2, h3, hI⟩
  have hdiv : ((i : Int) + (j : Int)) / 2 = (((i + j) / 2 : Nat) : Int) := by omega
  refine c_seq ?_
  refine c_seq ?_
  refine c_region ?_
  refine JL_run 3 [] [17, 10, 9, 8, 0, 1, 2] 0 ⟨[(17, vB (decide (((i : Nat) : Int) < ((j : Nat) : Int)))), (10, vI ((j : Nat) : Int)), (9, vI ((i : Nat) : Int)), (8, vI ((s.n : Nat) : Int)), (0, .v (.slice s.A s.n s.c)), (1, vS t), (2, .fn 110 [])], []⟩ [] [] (by kernel_rfl) on wn ?_
  refine l_nil (q_then_normal ?_)
  cases h1 : decide (((i : Nat) : Int) < ((j : Nat) : Int)) with
  | true =>
    have h1 := of_decide_eq_true h1
    refine c_if true rfl ?_
    refine c_skip ?_
    refine q_then_normal ?_
    refine c_block ?_
    refine c_seq ?_
    refine c_region ?_
    refine JL_run 7 [(3, .val (.int .u64 (((i : Nat) : Int) + ((j : Nat) : Int)))), (4, .val (.int .u64 ((((i : Nat) : Int) + ((j : Nat) : Int)) / 2))), (5, .val (.int .i64 ((((i : Nat) : Int) + ((j : Nat) : Int)) / 2)))] [11, 10, 9, 8, 0, 1, 2] 0 ⟨[(11, vI ((((i : Nat) : Int) + ((j : Nat) : Int)) / 2)), (10, vI ((j : Nat) : Int)), (9, vI ((i : Nat) : Int)), (8, vI ((s.n : Nat) : Int)), (0, .v (.slice s.A s.n s.c)), (1, vS t), (2, .fn 110 [])], []⟩ [inR (((i : Nat) : Int) + ((j : Nat) : Int)), ∀ w, (convert 3 162 (.int .i64 (((i : Nat) : Int) + ((j : Nat) : Int))) : Sem Value).run Try.prog w = .ok (.int .u64 (((i : Nat) : Int) + ((j : Nat) : Int))) w, ∀ w, (do eqGuard .shr 162 (.tmp 21) (.const (.int .u64 1)) (.int .u64 (((i : Nat) : Int) + ((j : Nat) : Int))) (.int .u64 1); binOp .shr 162 (.int .u64 (((i : Nat) : Int) + ((j : Nat) : Int))) (.int .u64 1) : Sem Value).run Try.prog w = .ok (.int .u64 ((((i : Nat) : Int) + ((j : Nat) : Int)) / 2)) w, ∀ w, (convert 162 3 (.int .u64 ((((i : Nat) : Int) + ((j : Nat) : Int)) / 2)) : Sem Value).run Try.prog w = .ok (.int .i64 ((((i : Nat) : Int) + ((j : Nat) : Int)) / 2)) w] [] (by kernel_rfl) (oc (by unfold inR; omega) (oc (conv_i64_u64 Try.underlying3 Try.underlying162 (by omega) (by omega)) (oc shr_u64 (oc (conv_u64_i64 Try.underlying162 Try.underlying3 (by omega) (by omega)) on)))) wn ?_
    refine l_nil (q_then_normal ?_)
    refine c_seq ?_
    refine c_region ?_
    refine JL_run 6 [(3, .idx s.ad ((((i : Nat) : Int) + ((j : Nat) : Int)) / 2).toNat), (4, .ext [.string (s.at ((((i : Nat) : Int) + ((j : Nat) : Int)) / 2).toNat).name, .int .i64 (s.at ((((i : Nat) : Int) + ((j : Nat) : Int)) / 2).toNat).holder, .int .i64 (s.at ((((i : Nat) : Int) + ((j : Nat) : Int)) / 2).toNat).fence, .slice (s.at ((((i : Nat) : Int) + ((j : Nat) : Int)) / 2).toNat).line.A (s.at ((((i : Nat) : Int) + ((j : Nat) : Int)) / 2).toNat).line.n (s.at ((((i : Nat) : Int) + ((j : Nat) : Int)) / 2).toNat).line.c])] [29, 28, 24, 11, 10, 9, 8, 0, 1, 2] 0 ⟨[(29, vS t), (28, .v (.agg #[.string (s.at ((((i : Nat) : Int) + ((j : Nat) : Int)) / 2).toNat).name, .int .i64 (s.at ((((i : Nat) : Int) + ((j : Nat) : Int)) / 2).toNat).holder, .int .i64 (s.at ((((i : Nat) : Int) + ((j : Nat) : Int)) / 2).toNat).fence, .slice (s.at ((((i : Nat) : Int) + ((j : Nat) : Int)) / 2).toNat).line.A (s.at ((((i : Nat) : Int) + ((j : Nat) : Int)) / 2).toNat).line.n (s.at ((((i : Nat) : Int) + ((j : Nat) : Int)) / 2).toNat).line.c])), (24, .fn 110 []), (11, vI ((((i : Nat) : Int) + ((j : Nat) : Int)) / 2)), (10, vI ((j : Nat) : Int)), (9, vI ((i : Nat) : Int)), (8, vI ((s.n : Nat) : Int)), (0, .v (.slice s.A s.n s.c)), (1, vS t), (2, .fn 110 [])], []⟩ [s.A = some s.ad, (((i : Nat) : Int) + ((j : Nat) : Int)) / 2 = ((((((i : Nat) : Int) + ((j : Nat) : Int)) / 2).toNat : Nat) : Int), ((((i : Nat) : Int) + ((j : Nat) : Int)) / 2).toNat < s.n] [(s.ad.add (((((i : Nat) : Int) + ((j : Nat) : Int)) / 2).toNat * 4), [.string (s.at ((((i : Nat) : Int) + ((j : Nat) : Int)) / 2).toNat).name, .int .i64 (s.at ((((i : Nat) : Int) + ((j : Nat) : Int)) / 2).toNat).holder, .int .i64 (s.at ((((i : Nat) : Int) + ((j : Nat) : Int)) / 2).toNat).fence, .slice (s.at ((((i : Nat) : Int) + ((j : Nat) : Int)) / 2).toNat).line.A (s.at ((((i : Nat) : Int) + ((j : Nat) : Int)) / 2).toNat).line.n (s.at ((((i : Nat) : Int) + ((j : Nat) : Int)) / 2).toNat).line.c])] (by kernel_rfl) (oc (Sl.ok.own (s := s) (i := ((((i : Nat) : Int) + ((j : Nat) : Int)) / 2).toNat) oks (by omega)) (oc (by omega) (oc (by omega) on))) (fun w hk hr => ⟨(Sl.rd.all (s := s) (i := ((((i : Nat) : Int) + ((j : Nat) : Int)) / 2).toNat) (Sl.rd.kp hs hk) (by omega) rfl), trivial⟩) ?_
    refine l_pure 110 [] [.v (.agg #[.string (s.at ((((i : Nat) : Int) + ((j : Nat) : Int)) / 2).toNat).name, .int .i64 (s.at ((((i : Nat) : Int) + ((j : Nat) : Int)) / 2).toNat).holder, .int .i64 (s.at ((((i : Nat) : Int) + ((j : Nat) : Int)) / 2).toNat).fence, .slice (s.at ((((i : Nat) : Int) + ((j : Nat) : Int)) / 2).toNat).line.A (s.at ((((i : Nat) : Int) + ((j : Nat) : Int)) / 2).toNat).line.n (s.at ((((i : Nat) : Int) + ((j : Nat) : Int)) / 2).toNat).line.c]), vS t] (.int .i64 (cmpS (s.at ((((i : Nat) : Int) + ((j : Nat) : Int)) / 2).toNat).name t)) Try.call110 rfl rfl rfl rfl (fun bs w hS => lock_begin_1 (s.at ((((i : Nat) : Int) + ((j : Nat) : Int)) / 2).toNat) t w) ?_
    refine JL_run 1 [] [31, 11, 10, 9, 8, 0, 1, 2] 0 ⟨[(31, vB (decide (cmpS (s.at ((((i : Nat) : Int) + ((j : Nat) : Int)) / 2).toNat).name t < 0))), (11, vI ((((i : Nat) : Int) + ((j : Nat) : Int)) / 2)), (10, vI ((j : Nat) : Int)), (9, vI ((i : Nat) : Int)), (8, vI ((s.n : Nat) : Int)), (0, .v (.slice s.A s.n s.c)), (1, vS t), (2, .fn 110 [])], []⟩ [] [] (by kernel_rfl) on wn ?_
    refine l_nil (q_then_normal ?_)
    cases h2 : decide (cmpS (s.at ((((i : Nat) : Int) + ((j : Nat) : Int)) / 2).toNat).name t < 0) with
    | true =>
      have h2 := of_decide_eq_true h2
      refine c_if true rfl ?_
      refine c_region ?_
      refine JL_run 3 [] [9, 10, 8, 0, 1, 2] 0 ⟨[(9, vI (((((i : Nat) : Int) + ((j : Nat) : Int)) / 2) + 1)), (10, vI ((j : Nat) : Int)), (8, vI ((s.n : Nat) : Int)), (0, .v (.slice s.A s.n s.c)), (1, vS t), (2, .fn 110 [])], []⟩ [inR (((((i : Nat) : Int) + ((j : Nat) : Int)) / 2) + 1)] [] (by kernel_rfl) (oc (by unfold inR; omega) on) wn ?_
      have hf1 : f = (f - 1) + 1 := by omega
      rw [hf1] at hI
      have hI2 := hI.trans (bsGo_up (by omega) (decide_eq_true (by assumption)))
      refine l_nil (q_block_normal (q_loop (x := (⟨i, j, f⟩ : Nat × Nat × Nat)) (⟨(i + j) / 2 + 1, j, f - 1⟩ : Nat × Nat × Nat) ⟨by omega, by omega, by omega, hI2⟩ (by show f - 1 < f; omega) (s_start [10, 9, 8, 0, 1, 2] 0 (by kernel_rfl) rfl)))
    | false =>
      have h2 := of_decide_eq_false h2
      refine c_if false rfl ?_
      refine c_region ?_
      refine JL_run 2 [] [10, 9, 8, 0, 1, 2] 0 ⟨[(10, vI ((((i : Nat) : Int) + ((j : Nat) : Int)) / 2)), (9, vI ((i : Nat) : Int)), (8, vI ((s.n : Nat) : Int)), (0, .v (.slice s.A s.n s.c)), (1, vS t), (2, .fn 110 [])], []⟩ [] [] (by kernel_rfl) on wn ?_
      have hf1 : f = (f - 1) + 1 := by omega
      rw [hf1] at hI
      have hI2 := hI.trans (bsGo_down (by omega) (decide_eq_false (by assumption)))
      refine l_nil (q_block_normal (q_loop (x := (⟨i, j, f⟩ : Nat × Nat × Nat)) (⟨i, (i + j) / 2, f - 1⟩ : Nat × Nat × Nat) ⟨by omega, by omega, by omega, hI2⟩ (by show f - 1 < f; omega) (s_start [10, 9, 8, 0, 1, 2] 0 (by kernel_rfl) rfl)))
  | false =>
    have h1 := of_decide_eq_false h1
    refine c_if false rfl ?_
    refine c_exit ?_
    refine q_then_exit (q_then_exit (q_block_hit (q_then_normal ?_)))
    refine c_seq ?_
    refine c_region ?_
    refine JL_run 5 [] [39, 35, 9, 0, 1, 2] 0 ⟨[(39, vB (decide (((i : Nat) : Int) < ((s.n : Nat) : Int)))), (35, vI ((i : Nat) : Int)), (9, vI ((i : Nat) : Int)), (0, .v (.slice s.A s.n s.c)), (1, vS t), (2, .fn 110 [])], []⟩ [] [] (by kernel_rfl) on wn ?_
    cases h3 : decide (((i : Nat) : Int) < ((s.n : Nat) : Int)) with
    | true =>
      have h3 := of_decide_eq_true h3
      refine JL_run 6 [(3, .idx s.ad i), (4, .ext [.string (s.at i).name, .int .i64 (s.at i).holder, .int .i64 (s.at i).fence, .slice (s.at i).line.A (s.at i).line.n (s.at i).line.c])] [45, 44, 40, 39, 35] 0 ⟨[(45, vS t), (44, .v (.agg #[.string (s.at i).name, .int .i64 (s.at i).holder, .int .i64 (s.at i).fence, .slice (s.at i).line.A (s.at i).line.n (s.at i).line.c])), (40, .fn 110 []), (39, vB true), (35, vI ((i : Nat) : Int))], []⟩ [s.A = some s.ad, ((i : Nat) : Int) = ((i : Nat) : Int), i < s.n] [(s.ad.add (i * 4), [.string (s.at i).name, .int .i64 (s.at i).holder, .int .i64 (s.at i).fence, .slice (s.at i).line.A (s.at i).line.n (s.at i).line.c])] (by kernel_rfl) (oc (Sl.ok.own (s := s) (i := i) oks (by omega)) (oc rfl (oc (by omega) on))) (fun w hk hr => ⟨(Sl.rd.all (s := s) (i := i) (Sl.rd.kp hs hk) (by omega) rfl), trivial⟩) ?_
      refine l_pure 110 [] [.v (.agg #[.string (s.at i).name, .int .i64 (s.at i).holder, .int .i64 (s.at i).fence, .slice (s.at i).line.A (s.at i).line.n (s.at i).line.c]), vS t] (.int .i64 (cmpS (s.at i).name t)) Try.call110 rfl rfl rfl rfl (fun bs w hS => lock_begin_1 (s.at i) t w) ?_
      refine JL_run 4 [] [7, 6] 0 ⟨[(7, vB (decide (cmpS (s.at i).name t = 0))), (6, vI ((i : Nat) : Int))], []⟩ [] [] (by kernel_rfl) on wn ?_
      refine l_nil (q_then_normal ?_)
      refine c_ret ?_
      refine q_ret (.inl rfl) [vI ((i : Nat) : Int), vB (decide (cmpS (s.at i).name t = 0))] rfl (fun bs w hS => ?_)
      have hij : i = j := by omega
      subst hij
      have hr : mBS (fun x : CLock => cmpS x.name t) s.xs = i := by rw [hI]; exact bsGo_end _ _ _ _ (Nat.le_refl _)
      refine ⟨?_, hS.kp⟩
      have hr2 : mBSf (fun x : CLock => cmpS x.name t) s.xs = (decide (cmpS (s.at i).name t = 0)) := by
        unfold mBSf; rw [hr]
        rw [decide_eq_true (show i < s.xs.length by omega)]; rfl
      rw [hr, hr2]
      rfl
    | false =>
      have h3 := of_decide_eq_false h3
      refine JL_run 11 [] [7, 6] 0 ⟨[(7, vB false), (6, vI ((i : Nat) : Int))], []⟩ [] [] (by kernel_rfl) on wn ?_
      refine l_nil (q_then_normal ?_)
      refine c_ret ?_
      refine q_ret (.inl rfl) [vI ((i : Nat) : Int), vB false] rfl (fun bs w hS => ?_)
      have hij : i = j := by omega
      subst hij
      have hr : mBS (fun x : CLock => cmpS x.name t) s.xs = i := by rw [hI]; exact bsGo_end _ _ _ _ (Nat.le_refl _)
      refine ⟨?_, hS.kp⟩
      have hr2 : mBSf (fun x : CLock => cmpS x.name t) s.xs = false := by
        unfold mBSf; rw [hr]
        rw [decide_eq_false (show ¬ i < s.xs.length by omega)]; rfl
      rw [hr, hr2]
      rfl

theorem tackroomref_lockAt {B : Nat → Prop} (s : Sl CLock) (t : ByteArray) (w : World) (hs : s.rd B w) : Calls Try.prog 55 #[.slice s.A s.n s.c, .string t] w fun e w' => e = .returned (.int .i64 (mIdx (fun x : CLock => decide (x.name = t)) s.xs)) ∧ Kp [] w w' := by
  have oks := Sl.rd.ok hs
  have ncs := Sl.ok.nc oks
  have hns : s.n = s.xs.length := rfl
  refine calls_J0 20 Try.func55 rfl rfl [.slice s.A s.n s.c, .string t] rfl ?_
  refine c_seq ?_
  refine c_region ?_
  refine JL_run 1 [] [0, 1] 0 ⟨[(0, .v (.slice s.A s.n s.c)), (1, vS t)], []⟩ [] [] (by kernel_rfl) on wn ?_
  refine l_nil (q_then_normal ?_)
  refine c_seq ?_
  refine c_seq ?_
  refine c_region ?_
  refine JL_run 1 [] [5, 0, 1] 0 ⟨[(5, vI 0), (0, .v (.slice s.A s.n s.c)), (1, vS t)], []⟩ [] [] (by kernel_rfl) on wn ?_
  refine l_nil (q_then_normal ?_)
  refine c_block ?_
  refine c_loop (σ := Nat) (fun i => i ≤ s.n ∧ ∀ j, j < i → decide ((s.at j).name = t) = false) (fun i => s.n - i) (fun i => []) (fun i => ⟨[(5, vI ((i : Nat) : Int)), (0, .v (.slice s.A s.n s.c)), (1, vS t)], []⟩) 0 ⟨Nat.zero_le _, fun j hj => absurd hj (Nat.not_lt_zero _)⟩ (s_start [5, 0, 1] 0 (by kernel_rfl) rfl) ?_
  rintro i ⟨hi, hI⟩
  refine c_seq ?_
  refine c_seq ?_
  refine c_region ?_
  refine JL_run 4 [] [9, 5, 0, 1] 0 ⟨[(9, vB (decide (((i : Nat) : Int) < ((s.n : Nat) : Int)))), (5, vI ((i : Nat) : Int)), (0, .v (.slice s.A s.n s.c)), (1, vS t)], []⟩ [] [] (by kernel_rfl) on wn ?_
  refine l_nil (q_then_normal ?_)
  cases h1 : decide (((i : Nat) : Int) < ((s.n : Nat) : Int)) with
  | true =>
    have h1 := of_decide_eq_true h1
    refine c_if true rfl ?_
    refine c_skip ?_
    refine q_then_normal ?_
    refine c_seq ?_
    refine c_block ?_
    refine c_seq ?_
    refine c_region ?_
    refine JL_run 7 [(2, .idx s.ad i), (4, .ext [.string (s.at i).name])] [18, 5, 0, 1] 0 ⟨[(18, vB (decide ((s.at i).name = t))), (5, vI ((i : Nat) : Int)), (0, .v (.slice s.A s.n s.c)), (1, vS t)], []⟩ [s.A = some s.ad, ((i : Nat) : Int) = ((i : Nat) : Int), i < s.n] [((s.ad.add (i * 4)).add 0, [.string (s.at i).name])] (by kernel_rfl) (oc (Sl.ok.own (s := s) (i := i) oks (by omega)) (oc rfl (oc (by omega) on))) (fun w hk hr => ⟨(Sl.rd.fld (s := s) (i := i) (Sl.rd.kp hs hk) (by omega) 0 1 rfl), trivial⟩) ?_
    refine l_nil (q_then_normal ?_)
    cases h2 : decide ((s.at i).name = t) with
    | true =>
      have h2 := of_decide_eq_true h2
      refine c_if true rfl ?_
      refine c_seq ?_
      refine c_region ?_
      refine JL_run 2 [] [4] 0 ⟨[(4, vI ((i : Nat) : Int))], []⟩ [] [] (by kernel_rfl) on wn ?_
      refine l_nil (q_then_normal ?_)
      refine c_ret ?_
      refine q_block_ret (q_then_ret (q_then_ret (q_block_ret (q_then_ret (q_ret (.inl rfl) [vI ((i : Nat) : Int)] rfl (fun bs w hS => ?_))))))
      refine ⟨?_, hS.kp⟩
      rw [mIdx_here (p := (fun x : CLock => decide (x.name = t))) (i := i) (by omega) (decide_eq_true (by assumption)) hI]
      rfl
    | false =>
      have h2 := of_decide_eq_false h2
      refine c_if false rfl ?_
      refine c_skip ?_
      refine q_block_normal (q_then_normal ?_)
      refine c_region ?_
      refine JL_run 3 [] [5, 0, 1] 0 ⟨[(5, vI (((i : Nat) : Int) + 1)), (0, .v (.slice s.A s.n s.c)), (1, vS t)], []⟩ [inR (((i : Nat) : Int) + 1)] [] (by kernel_rfl) (oc (by unfold inR; omega) on) wn ?_
      refine l_nil (q_loop (x := (i : Nat)) ((i + 1) : Nat) ⟨by omega, fun j hj => by rcases Nat.lt_succ_iff_lt_or_eq.1 hj with h | h; exact hI j h; subst h; exact decide_eq_false (by assumption)⟩ (by omega) (s_start [5, 0, 1] 0 (by kernel_rfl) rfl))
  | false =>
    have h1 := of_decide_eq_false h1
    refine c_if false rfl ?_
    refine c_exit ?_
    refine q_then_exit (q_then_exit (q_block_hit (q_then_normal ?_)))
    refine c_seq ?_
    refine c_region ?_
    refine JL_run 1 [] [4] 0 ⟨[(4, vI (-1))], []⟩ [] [] (by kernel_rfl) on wn ?_
    refine l_nil (q_then_normal ?_)
    refine c_ret ?_
    refine q_ret (.inl rfl) [vI (-1)] rfl (fun bs w hS => ?_)
    refine ⟨?_, hS.kp⟩
    rw [mIdx_none (p := (fun x : CLock => decide (x.name = t))) fun j hj => hI j (by omega)]
    rfl

theorem ref_asked {B : Nat → Prop} (s : Sl CLock) (t : ByteArray) (who : Int) (w : World) (hs : s.rd B w) (ht : t.size ≤ 9223372036854775807) : Calls Try.prog 54 #[.slice s.A s.n s.c, .string t, .int .i64 who] w fun e w' => e = .returned (.int .i64 (mAsk (s.xs.map CLock.abs) t who)) ∧ Kp [] w w' := by
  have oks := Sl.rd.ok hs
  have ncs := Sl.ok.nc oks
  have hns : s.n = s.xs.length := rfl
  refine calls_J0 25 Try.func54 rfl rfl [.slice s.A s.n s.c, .string t, .int .i64 who] rfl ?_
  refine c_seq ?_
  refine c_region ?_
  refine JL_run 1 [] [0, 1, 2] 0 ⟨[(0, .v (.slice s.A s.n s.c)), (1, vS t), (2, vI who)], []⟩ [] [] (by kernel_rfl) on wn ?_
  refine l_nil (q_then_normal ?_)
  refine c_seq ?_
  refine c_region ?_
  refine JL_run 1 [] [8, 1, 2] 0 ⟨[(8, .v (.slice s.A s.n s.c)), (1, vS t), (2, vI who)], []⟩ [] [] (by kernel_rfl) on wn ?_
  refine l_pure 113 [] [.v (.slice s.A s.n s.c)] (.int .i64 (mLocks (s.xs.map CLock.abs))) Try.call113 rfl rfl rfl rfl (fun bs w hS => ref_LocksFault s w (Sl.rd.kp hs hS.kp)) ?_
  refine JL_run 1 [] [7, 1, 2] 0 ⟨[(7, vI (mLocks (s.xs.map CLock.abs))), (1, vS t), (2, vI who)], []⟩ [] [] (by kernel_rfl) on wn ?_
  refine l_nil (q_then_normal ?_)
  refine c_seq ?_
  refine c_seq ?_
  refine c_region ?_
  refine JL_run 3 [] [12, 7, 1, 2] 0 ⟨[(12, vB (decide (mLocks (s.xs.map CLock.abs) = 0))), (7, vI (mLocks (s.xs.map CLock.abs))), (1, vS t), (2, vI who)], []⟩ [] [] (by kernel_rfl) on wn ?_
  cases h1 : decide (mLocks (s.xs.map CLock.abs) = 0) with
  | true =>
    have h1 := of_decide_eq_true h1
    refine JL_run 1 [] [13, 12, 7, 2] 0 ⟨[(13, vS t), (12, vB true), (7, vI (mLocks (s.xs.map CLock.abs))), (2, vI who)], []⟩ [] [] (by kernel_rfl) on wn ?_
    refine l_pure 95 [] [vS t] (.bool (mName t)) Try.call95 rfl rfl rfl rfl (fun bs w hS => ref_NameMay _ w (by first | assumption | omega | (simp only [emp_size]; omega))) ?_
    refine JL_run 2 [] [16, 7, 2] 0 ⟨[(16, vB (!(mName t))), (7, vI (mLocks (s.xs.map CLock.abs))), (2, vI who)], []⟩ [] [] (by kernel_rfl) on wn ?_
    refine l_nil (q_then_normal ?_)
    cases h2 : mName t with
    | true =>
      refine c_if false rfl ?_
      refine c_skip ?_
      refine q_then_normal ?_
      refine c_seq ?_
      refine c_seq ?_
      refine c_region ?_
      refine JL_run 3 [] [19, 7, 2] 0 ⟨[(19, vB (decide (mLocks (s.xs.map CLock.abs) = 0))), (7, vI (mLocks (s.xs.map CLock.abs))), (2, vI who)], []⟩ [] [] (by kernel_rfl) on wn ?_
      cases h3 : decide (mLocks (s.xs.map CLock.abs) = 0) with
      | true =>
        have h3 := of_decide_eq_true h3
        refine JL_run 1 [] [20, 19, 7] 0 ⟨[(20, vI who), (19, vB true), (7, vI (mLocks (s.xs.map CLock.abs)))], []⟩ [] [] (by kernel_rfl) on wn ?_
        refine l_pure 64 [] [vI who, vI 1, vI 9] (.bool (inB who 1 9)) Try.call64 rfl rfl rfl rfl (fun bs w hS => ref_In _ _ _ w) ?_
        refine JL_run 2 [] [23, 7] 0 ⟨[(23, vB (!(inB who 1 9))), (7, vI (mLocks (s.xs.map CLock.abs)))], []⟩ [] [] (by kernel_rfl) on wn ?_
        refine l_nil (q_then_normal ?_)
        cases h4 : inB who 1 9 with
        | true =>
          simp only [inB, Bool.and_eq_true, Bool.and_eq_false_iff, decide_eq_true_eq, decide_eq_false_iff_not] at h4
          refine c_if false rfl ?_
          refine c_skip ?_
          refine q_then_normal ?_
          refine c_seq ?_
          refine c_region ?_
          refine JL_run 2 [] [6] 0 ⟨[(6, vI (mLocks (s.xs.map CLock.abs)))], []⟩ [] [] (by kernel_rfl) on wn ?_
          refine l_nil (q_then_normal ?_)
          refine c_ret ?_
          refine q_ret (.inl rfl) [vI (mLocks (s.xs.map CLock.abs))] rfl (fun bs w hS => ?_)
          refine ⟨?_, hS.kp⟩
          have hm : mAsk (s.xs.map CLock.abs) t who = mLocks (s.xs.map CLock.abs) := by
            unfold mAsk
            repeat (first | rw [if_pos (by first | assumption | omega)] | rw [if_neg (by first | assumption | omega | (simp_all; done))])
            try rfl
            try omega
          rw [hm] <;> rfl
        | false =>
          simp only [inB, Bool.and_eq_true, Bool.and_eq_false_iff, decide_eq_true_eq, decide_eq_false_iff_not] at h4
          refine c_if true rfl ?_
          refine c_region ?_
          refine JL_run 1 [] [7] 0 ⟨[(7, vI 2)], []⟩ [] [] (by kernel_rfl) on wn ?_
          refine l_nil (q_then_normal ?_)
          refine c_seq ?_
          refine c_region ?_
          refine JL_run 2 [] [6] 0 ⟨[(6, vI 2)], []⟩ [] [] (by kernel_rfl) on wn ?_
          refine l_nil (q_then_normal ?_)
          refine c_ret ?_
          refine q_ret (.inl rfl) [vI 2] rfl (fun bs w hS => ?_)
          refine ⟨?_, hS.kp⟩
          have hm : mAsk (s.xs.map CLock.abs) t who = 2 := by
            unfold mAsk
            repeat (first | rw [if_pos (by first | assumption | omega)] | rw [if_neg (by first | assumption | omega | (simp_all; done))])
            try rfl
            try omega
          rw [hm] <;> rfl
      | false =>
        have h3 := of_decide_eq_false h3
        exact absurd h1 h3
    | false =>
      refine c_if true rfl ?_
      refine c_region ?_
      refine JL_run 1 [] [7, 2] 0 ⟨[(7, vI 4), (2, vI who)], []⟩ [] [] (by kernel_rfl) on wn ?_
      refine l_nil (q_then_normal ?_)
      refine c_seq ?_
      refine c_seq ?_
      refine c_region ?_
      refine JL_run 7 [] [23, 7] 0 ⟨[(23, vB false), (7, vI 4)], []⟩ [] [] (by kernel_rfl) on wn ?_
      refine l_nil (q_then_normal ?_)
      refine c_if false rfl ?_
      refine c_skip ?_
      refine q_then_normal ?_
      refine c_seq ?_
      refine c_region ?_
      refine JL_run 2 [] [6] 0 ⟨[(6, vI 4)], []⟩ [] [] (by kernel_rfl) on wn ?_
      refine l_nil (q_then_normal ?_)
      refine c_ret ?_
      refine q_ret (.inl rfl) [vI 4] rfl (fun bs w hS => ?_)
      refine ⟨?_, hS.kp⟩
      have hm : mAsk (s.xs.map CLock.abs) t who = 4 := by
        unfold mAsk
        repeat (first | rw [if_pos (by first | assumption | omega)] | rw [if_neg (by first | assumption | omega | (simp_all; done))])
        try rfl
        try omega
      rw [hm] <;> rfl
  | false =>
    have h1 := of_decide_eq_false h1
    refine JL_run 4 [] [16, 7, 2] 0 ⟨[(16, vB false), (7, vI (mLocks (s.xs.map CLock.abs))), (2, vI who)], []⟩ [] [] (by kernel_rfl) on wn ?_
    refine l_nil (q_then_normal ?_)
    refine c_if false rfl ?_
    refine c_skip ?_
    refine q_then_normal ?_
    refine c_seq ?_
    refine c_seq ?_
    refine c_region ?_
    refine JL_run 3 [] [19, 7, 2] 0 ⟨[(19, vB (decide (mLocks (s.xs.map CLock.abs) = 0))), (7, vI (mLocks (s.xs.map CLock.abs))), (2, vI who)], []⟩ [] [] (by kernel_rfl) on wn ?_
    cases h5 : decide (mLocks (s.xs.map CLock.abs) = 0) with
    | true =>
      have h5 := of_decide_eq_true h5
      exact absurd h5 h1
    | false =>
      have h5 := of_decide_eq_false h5
      refine JL_run 4 [] [23, 7] 0 ⟨[(23, vB false), (7, vI (mLocks (s.xs.map CLock.abs)))], []⟩ [] [] (by kernel_rfl) on wn ?_
      refine l_nil (q_then_normal ?_)
      refine c_if false rfl ?_
      refine c_skip ?_
      refine q_then_normal ?_
      refine c_seq ?_
      refine c_region ?_
      refine JL_run 2 [] [6] 0 ⟨[(6, vI (mLocks (s.xs.map CLock.abs)))], []⟩ [] [] (by kernel_rfl) on wn ?_
      refine l_nil (q_then_normal ?_)
      refine c_ret ?_
      refine q_ret (.inl rfl) [vI (mLocks (s.xs.map CLock.abs))] rfl (fun bs w hS => ?_)
      refine ⟨?_, hS.kp⟩
      have hm : mAsk (s.xs.map CLock.abs) t who = mLocks (s.xs.map CLock.abs) := by
        unfold mAsk
        repeat (first | rw [if_pos (by first | assumption | omega)] | rw [if_neg (by first | assumption | omega | (simp_all; done))])
        try rfl
        try omega
      rw [hm] <;> rfl

theorem lock_begin {B : Nat → Prop} (s : Sl CLock) (t : ByteArray) (who : Int) (w : World) (hs : s.rd B w) (ht : t.size ≤ 9223372036854775807) : Calls Try.prog 50 #[.slice s.A s.n s.c, .string t, .int .i64 who] w fun e w' => (¬ mAsk (s.xs.map CLock.abs) t who = 0 ∧ e = .returned (.tuple #[.slice none 0 0, .int .i64 0, .bool false, .int .i64 (mAsk (s.xs.map CLock.abs) t who)]) ∧ Kp [] w w') ∨ (mAsk (s.xs.map CLock.abs) t who = 0 ∧ ∃ y : Sl CLock, e = .returned (.tuple #[.slice y.A y.n y.c, .int .i64 ((mBS (fun x : CLock => cmpS x.name t) s.xs : Nat) : Int), .bool (mBSf (fun x : CLock => cmpS x.name t) s.xs), .int .i64 0]) ∧ y.xs.map CLock.abs = s.xs.map CLock.abs ∧ Kp [] w w' ∧ Fresh w w' (locksR 80 3 y)) := by
  have oks := Sl.rd.ok hs
  have ncs := Sl.ok.nc oks
  have hns : s.n = s.xs.length := rfl
  refine calls_J0 34 Try.func50 rfl rfl [.slice s.A s.n s.c, .string t, .int .i64 who] rfl ?_
  refine c_seq ?_
  refine c_region ?_
  refine JL_run 4 [] [0, 1, 2] 0 ⟨[(0, .v (.slice s.A s.n s.c)), (1, vS t), (2, vI who)], []⟩ [] [] (by kernel_rfl) on wn ?_
  refine l_nil (q_then_normal ?_)
  refine c_seq ?_
  refine c_seq ?_
  refine c_region ?_
  refine JL_run 1 [] [13, 0, 1, 2] 0 ⟨[(13, .v (.slice s.A s.n s.c)), (0, .v (.slice s.A s.n s.c)), (1, vS t), (2, vI who)], []⟩ [] [] (by kernel_rfl) on wn ?_
  refine l_pure 107 [] [.v (.slice s.A s.n s.c)] (.int .i64 (mLocks (s.xs.map CLock.abs))) Try.call107 rfl rfl rfl rfl (fun bs w hS => lock_Check s w (Sl.rd.kp hs hS.kp)) ?_
  refine JL_run 1 [] [10, 0, 1, 2] 0 ⟨[(10, vI (mLocks (s.xs.map CLock.abs))), (0, .v (.slice s.A s.n s.c)), (1, vS t), (2, vI who)], []⟩ [] [] (by kernel_rfl) on wn ?_
  refine l_nil (q_then_normal ?_)
  refine c_seq ?_
  refine c_region ?_
  refine JL_run 2 [] [16, 10, 0, 1, 2] 0 ⟨[(16, vB (!(decide (mLocks (s.xs.map CLock.abs) = 0)))), (10, vI (mLocks (s.xs.map CLock.abs))), (0, .v (.slice s.A s.n s.c)), (1, vS t), (2, vI who)], []⟩ [] [] (by kernel_rfl) on wn ?_
  refine l_nil (q_then_normal ?_)
  cases h1 : decide (mLocks (s.xs.map CLock.abs) = 0) with
  | true =>
    have h1 := of_decide_eq_true h1
    have hln := (mLocks_bd h1).1
    have hln2 : s.xs.length ≤ 5 := by simpa using hln
    refine c_if false rfl ?_
    refine c_skip ?_
    refine q_then_normal ?_
    refine c_seq ?_
    refine c_seq ?_
    refine c_region ?_
    refine JL_run 1 [] [18, 0, 1, 2] 0 ⟨[(18, vS t), (0, .v (.slice s.A s.n s.c)), (1, vS t), (2, vI who)], []⟩ [] [] (by kernel_rfl) on wn ?_
    refine l_pure 90 [] [vS t] (.bool (mName t)) Try.call90 rfl rfl rfl rfl (fun bs w hS => lock_Name _ w (by first | assumption | omega | (simp only [emp_size]; omega))) ?_
    refine JL_run 1 [] [20, 0, 1, 2] 0 ⟨[(20, vB (!(mName t))), (0, .v (.slice s.A s.n s.c)), (1, vS t), (2, vI who)], []⟩ [] [] (by kernel_rfl) on wn ?_
    refine l_nil (q_then_normal ?_)
    cases h2 : mName t with
    | true =>
      refine c_if false rfl ?_
      refine c_skip ?_
      refine q_then_normal ?_
      refine c_seq ?_
      refine c_seq ?_
      refine c_region ?_
      refine JL_run 1 [] [21, 0, 1] 0 ⟨[(21, vI who), (0, .v (.slice s.A s.n s.c)), (1, vS t)], []⟩ [] [] (by kernel_rfl) on wn ?_
      refine l_pure 108 [] [vI who] (.bool (inB who 1 9)) Try.call108 rfl rfl rfl rfl (fun bs w hS => lock_client who w) ?_
      refine JL_run 1 [] [23, 0, 1] 0 ⟨[(23, vB (!(inB who 1 9))), (0, .v (.slice s.A s.n s.c)), (1, vS t)], []⟩ [] [] (by kernel_rfl) on wn ?_
      refine l_nil (q_then_normal ?_)
      cases h3 : inB who 1 9 with
      | true =>
        simp only [inB, Bool.and_eq_true, Bool.and_eq_false_iff, decide_eq_true_eq, decide_eq_false_iff_not] at h3
        refine c_if false rfl ?_
        refine c_skip ?_
        refine q_then_normal ?_
        refine c_seq ?_
        refine c_region ?_
        refine JL_run 2 [] [26, 25, 0] 0 ⟨[(26, vS t), (25, .v (.slice s.A s.n s.c)), (0, .v (.slice s.A s.n s.c))], []⟩ [] [] (by kernel_rfl) on wn ?_
        refine l_pure 109 [] [.v (.slice s.A s.n s.c), vS t, .fn 110 []] (.tuple #[.int .i64 ((mBS (fun x : CLock => cmpS x.name t) s.xs : Nat) : Int), .bool (mBSf (fun x : CLock => cmpS x.name t) s.xs)]) Try.call109 rfl rfl rfl rfl (fun bs w hS => bs_lock_begin_1 s t w (Sl.rd.kp hs hS.kp) (show s.xs.length ≤ 1048576 by omega)) ?_
        refine JL_run 5 [] [12, 11, 0] 0 ⟨[(12, vB (mBSf (fun x : CLock => cmpS x.name t) s.xs)), (11, vI ((mBS (fun x : CLock => cmpS x.name t) s.xs : Nat) : Int)), (0, .v (.slice s.A s.n s.c))], []⟩ [] [] (by kernel_rfl) on wn ?_
        refine l_nil (q_then_normal ?_)
        refine c_seq ?_
        refine c_region ?_
        refine JL_run 1 [] [30, 12, 11] 0 ⟨[(30, .v (.slice s.A s.n s.c)), (12, vB (mBSf (fun x : CLock => cmpS x.name t) s.xs)), (11, vI ((mBS (fun x : CLock => cmpS x.name t) s.xs : Nat) : Int))], []⟩ [] [] (by kernel_rfl) on wn ?_
        refine l_freshF (σ := Sl CLock) 112 [] [.v (.slice s.A s.n s.c)] (fun y1 => .slice y1.A y1.n y1.c) (fun y1 => y1.xs.map CLock.abs = s.xs.map CLock.abs) (fun y1 => locksR 80 3 y1) Try.call112 rfl rfl rfl rfl (fun bs w hS => lock_Copy s w (Sl.rd.kp hs hS.kp) (small_locks (by assumption))) ?_
        rintro y1 hF1
        refine JL_run 6 [] [9, 8, 7, 6] 0 ⟨[(9, vI 0), (8, vB (mBSf (fun x : CLock => cmpS x.name t) s.xs)), (7, vI ((mBS (fun x : CLock => cmpS x.name t) s.xs : Nat) : Int)), (6, .v (.slice y1.A y1.n y1.c))], []⟩ [] [] (by kernel_rfl) on wn ?_
        refine l_nil (q_then_normal ?_)
        refine c_ret ?_
        refine q_ret (.inl rfl) [.v (.slice y1.A y1.n y1.c), vI ((mBS (fun x : CLock => cmpS x.name t) s.xs : Nat) : Int), vB (mBSf (fun x : CLock => cmpS x.name t) s.xs), vI 0] rfl (fun bs w hS => ?_)
        have hm : mAsk (s.xs.map CLock.abs) t who = 0 := by
          unfold mAsk
          repeat (first | rw [if_pos (by first | assumption | omega)] | rw [if_neg (by first | assumption | omega | (simp_all; done))])
          try rfl
          try omega
        exact .inr ⟨hm, y1, rfl, hF1, hS.kp, hS.out1⟩
      | false =>
        simp only [inB, Bool.and_eq_true, Bool.and_eq_false_iff, decide_eq_true_eq, decide_eq_false_iff_not] at h3
        refine c_if true rfl ?_
        refine c_seq ?_
        refine c_region ?_
        refine JL_run 4 [] [9, 8, 7, 6] 0 ⟨[(9, vI 2), (8, vB false), (7, vI 0), (6, .v (.slice none 0 0))], []⟩ [] [] (by kernel_rfl) on wn ?_
        refine l_nil (q_then_normal ?_)
        refine c_ret ?_
        refine q_then_ret (q_ret (.inl rfl) [.v (.slice none 0 0), vI 0, vB false, vI 2] rfl (fun bs w hS => ?_))
        have hm : mAsk (s.xs.map CLock.abs) t who = 2 := by
          unfold mAsk
          repeat (first | rw [if_pos (by first | assumption | omega)] | rw [if_neg (by first | assumption | omega | (simp_all; done))])
          try rfl
          try omega
        refine .inl ⟨?_, ?_, hS.kp⟩
        · rw [hm]; first | assumption | omega
        · rw [hm] <;> rfl
    | false =>
      refine c_if true rfl ?_
      refine c_seq ?_
      refine c_region ?_
      refine JL_run 4 [] [9, 8, 7, 6] 0 ⟨[(9, vI 4), (8, vB false), (7, vI 0), (6, .v (.slice none 0 0))], []⟩ [] [] (by kernel_rfl) on wn ?_
      refine l_nil (q_then_normal ?_)
      refine c_ret ?_
      refine q_then_ret (q_ret (.inl rfl) [.v (.slice none 0 0), vI 0, vB false, vI 4] rfl (fun bs w hS => ?_))
      have hm : mAsk (s.xs.map CLock.abs) t who = 4 := by
        unfold mAsk
        repeat (first | rw [if_pos (by first | assumption | omega)] | rw [if_neg (by first | assumption | omega | (simp_all; done))])
        try rfl
        try omega
      refine .inl ⟨?_, ?_, hS.kp⟩
      · rw [hm]; first | assumption | omega
      · rw [hm] <;> rfl
  | false =>
    have h1 := of_decide_eq_false h1
    refine c_if true rfl ?_
    refine c_seq ?_
    refine c_region ?_
    refine JL_run 5 [] [9, 8, 7, 6] 0 ⟨[(9, vI (mLocks (s.xs.map CLock.abs))), (8, vB false), (7, vI 0), (6, .v (.slice none 0 0))], []⟩ [] [] (by kernel_rfl) on wn ?_
    refine l_nil (q_then_normal ?_)
    refine c_ret ?_
    refine q_then_ret (q_ret (.inl rfl) [.v (.slice none 0 0), vI 0, vB false, vI (mLocks (s.xs.map CLock.abs))] rfl (fun bs w hS => ?_))
    have hm : mAsk (s.xs.map CLock.abs) t who = mLocks (s.xs.map CLock.abs) := by
      unfold mAsk
      repeat (first | rw [if_pos (by first | assumption | omega)] | rw [if_neg (by first | assumption | omega | (simp_all; done))])
      try rfl
      try omega
    refine .inl ⟨?_, ?_, hS.kp⟩
    · rw [hm]; first | assumption | omega
    · rw [hm] <;> rfl

theorem ref_withLock {B : Nat → Prop} (s : Sl CLock) (x : CLock) (w : World) (hs : s.rd B w) (hb : s.n ≤ 1048575) : Calls Try.prog 103 #[.slice s.A s.n s.c, .agg #[.string x.name, .int .i64 x.holder, .int .i64 x.fence, .slice x.line.A x.line.n x.line.c]] w fun e w' => ∃ y : Sl CLock, e = .returned y.val ∧ y.xs = mIns (fun z : CLock => Op.bytesLess x.name.toList z.name.toList) x s.xs ∧ Kp [] w w' ∧ Fresh w w' (rowA 80 y.A y.c y.xs) := by
  have oks := Sl.rd.ok hs
  have ncs := Sl.ok.nc oks
  have hns : s.n = s.xs.length := rfl
  refine calls_J0 44 Try.func103 rfl rfl [.slice s.A s.n s.c, .agg #[.string x.name, .int .i64 x.holder, .int .i64 x.fence, .slice x.line.A x.line.n x.line.c]] rfl ?_
  refine c_seq ?_
  refine c_region ?_
  refine JL_run 2 [] [3, 0] 1 ⟨[(3, .p 0 0), (0, .v (.slice s.A s.n s.c))], [⟨80, [vS x.name, vI x.holder, vI x.fence, .v (.slice x.line.A x.line.n x.line.c)]⟩]⟩ [] [] (by kernel_rfl) on wn ?_
  refine l_nil (q_then_normal ?_)
  refine c_seq ?_
  refine c_region ?_
  refine JL_run 1 [] [5, 3, 0] 1 ⟨[(5, .v (.slice none 0 0)), (3, .p 0 0), (0, .v (.slice s.A s.n s.c))], [⟨80, [vS x.name, vI x.holder, vI x.fence, .v (.slice x.line.A x.line.n x.line.c)]⟩]⟩ [] [] (by kernel_rfl) on wn ?_
  refine l_nil (q_then_normal ?_)
  refine c_seq ?_
  refine c_region ?_
  refine JL_run 1 [] [6, 5, 3, 0] 1 ⟨[(6, vB false), (5, .v (.slice none 0 0)), (3, .p 0 0), (0, .v (.slice s.A s.n s.c))], [⟨80, [vS x.name, vI x.holder, vI x.fence, .v (.slice x.line.A x.line.n x.line.c)]⟩]⟩ [] [] (by kernel_rfl) on wn ?_
  refine l_nil (q_then_normal ?_)
  refine c_seq ?_
  refine c_seq ?_
  refine c_region ?_
  refine JL_run 1 [] [7, 6, 5, 3, 0] 1 ⟨[(7, vI 0), (6, vB false), (5, .v (.slice none 0 0)), (3, .p 0 0), (0, .v (.slice s.A s.n s.c))], [⟨80, [vS x.name, vI x.holder, vI x.fence, .v (.slice x.line.A x.line.n x.line.c)]⟩]⟩ [] [] (by kernel_rfl) on wn ?_
  refine l_nil (q_then_normal ?_)
  refine c_block ?_
  refine c_rowA (α := CLock) 80 ?_
  refine c_loop (σ := Nat × Bool × Option Addr × Nat × List CLock) (fun ⟨k, b, A, c, L⟩ => InsI (fun z : CLock => Op.bytesLess x.name.toList z.name.toList) x s.xs k b L) (fun ⟨k, b, A, c, L⟩ => s.xs.length - k) (fun ⟨k, b, A, c, L⟩ => [rowA 80 A c (L : List CLock)]) (fun ⟨k, b, A, c, L⟩ => ⟨[(7, vI ((k : Nat) : Int)), (6, vB b), (5, .v (.slice A L.length c)), (3, .p 0 0), (0, .v (.slice s.A s.n s.c))], [⟨80, [vS x.name, vI x.holder, vI x.fence, .v (.slice x.line.A x.line.n x.line.c)]⟩]⟩) ⟨0, false, none, 0, []⟩ (show InsI (fun z : CLock => Op.bytesLess x.name.toList z.name.toList) x s.xs 0 false [] from InsI.start _ _ _) (s_start [7, 6, 5, 3, 0] 1 (by kernel_rfl) rfl) ?_
  rintro ⟨k, b, A, c, L⟩ hI
  have hIl := hI.len
  have hIk := hI.le
  refine c_seq ?_
  refine c_seq ?_
  refine c_region ?_
  refine JL_run 4 [] [11, 7, 6, 5, 3, 0] 1 ⟨[(11, vB (decide (((k : Nat) : Int) < ((s.n : Nat) : Int)))), (7, vI ((k : Nat) : Int)), (6, vB b), (5, .v (.slice A L.length c)), (3, .p 0 0), (0, .v (.slice s.A s.n s.c))], [⟨80, [vS x.name, vI x.holder, vI x.fence, .v (.slice x.line.A x.line.n x.line.c)]⟩]⟩ [] [] (by kernel_rfl) on wn ?_
  refine l_nil (q_then_normal ?_)
  cases h1 : decide (((k : Nat) : Int) < ((s.n : Nat) : Int)) with
  | true =>
    have h1 := of_decide_eq_true h1
    refine c_if true rfl ?_
    refine c_skip ?_
    refine q_then_normal ?_
    refine c_seq ?_
    refine c_block ?_
    refine c_seq ?_
    refine c_seq ?_
    refine c_draw 12 [] (.p 0 (.p 1 (.p 2 (.p 3 (.p 4 (.p 5 (.p 6 (.q 7 (.p 8 (.q 9 (.p 10 (.p 11 .nil)))))))))))) [] [rowA 80 A c (L : List CLock)] Try_mixed (by kernel_rfl) (pq_then (pq_then (pq_block (pq_then (pq_then (pq_block (pq_then pq_body))))))) (List.Sublist.refl _) ?_
    refine h_quiet [] [(0, true), (1, true), (2, true)] [(16, vB (!b)), (15, vB (!b)), (14, vB b), (11, vB true), (7, vI ((k : Nat) : Int)), (6, vB b), (5, .v (.slice A L.length c)), (3, .p 0 0), (0, .v (.slice s.A s.n s.c))] [] [] rfl (by kernel_rfl) on wn ?_
    cases h2 : b with
    | true =>
      refine h_quiet [] [(3, true), (4, true), (5, true), (6, true), (7, false), (8, true), (9, false), (10, true), (11, true)] [(25, vB false), (24, .v (undef)), (23, .v (undef)), (22, .v (undef)), (21, .v (undef)), (20, .v (undef)), (19, .v (undef)), (18, .v (undef)), (17, .v (undef)), (16, vB false), (15, vB false), (14, vB true), (11, vB true), (7, vI ((k : Nat) : Int)), (6, vB true), (5, .v (.slice A L.length c)), (3, .p 0 0), (0, .v (.slice s.A s.n s.c))] [] [] rfl (by kernel_rfl) on wn ?_
      refine h_nil ?_
      refine l_nil (q_then_normal ?_)
      refine c_if false rfl ?_
      refine c_skip ?_
      refine q_then_normal ?_
      refine c_region ?_
      refine JL_run 6 [(3, .idx s.ad k), (4, .ext [.string (s.at k).name, .int .i64 (s.at k).holder, .int .i64 (s.at k).fence, .slice (s.at k).line.A (s.at k).line.n (s.at k).line.c])] [35, 30, 7, 6, 3, 0] 2 ⟨[(35, .s 1 0 1 1), (30, .v (.slice A L.length c)), (7, vI ((k : Nat) : Int)), (6, vB true), (3, .p 0 0), (0, .v (.slice s.A s.n s.c))], [⟨80, [vS x.name, vI x.holder, vI x.fence, .v (.slice x.line.A x.line.n x.line.c)]⟩, ⟨80, [vS (s.at k).name, vI (s.at k).holder, vI (s.at k).fence, .v (.slice (s.at k).line.A (s.at k).line.n (s.at k).line.c)]⟩]⟩ [s.A = some s.ad, ((k : Nat) : Int) = ((k : Nat) : Int), k < s.n] [(s.ad.add (k * 4), [.string (s.at k).name, .int .i64 (s.at k).holder, .int .i64 (s.at k).fence, .slice (s.at k).line.A (s.at k).line.n (s.at k).line.c])] (by kernel_rfl) (oc (Sl.ok.own (s := s) (i := k) oks (by omega)) (oc rfl (oc (by omega) on))) (fun w hk hr => ⟨(Sl.rd.all (s := s) (i := k) (Sl.rd.kp hs hk) (by omega) rfl), trivial⟩) ?_
      refine l_appendA (α := CLock) 80 56 A c (L) (.s 1 0 1 1) ([(⟨(s.at k).name, (s.at k).holder, (s.at k).fence, (s.at k).line⟩ : CLock)]) Try.underlying22 (by kernel_rfl) rfl rfl rfl (fun bs w hS => by obtain ⟨q1, q2, q3, q4⟩ := src_loc (i := 1) (off := 0) (k := 1) (c := 1) (q := 4) (vs := [.string (s.at k).name, .int .i64 (s.at k).holder, .int .i64 (s.at k).fence, .slice (s.at k).line.A (s.at k).line.n (s.at k).line.c]) hS rfl rfl; exact ⟨some q1, q2, q3, q4⟩) (by first | omega | (simp only [List.length_append, List.length_nil, List.length_cons]; omega)) (by first | omega | (simp only [List.length_append, List.length_nil, List.length_cons]; omega)) ?_
      intro A1 c1
      refine JL_run 1 [] [5, 7, 6, 3, 0] 1 ⟨[(5, .v (.slice A1 (L ++ [(⟨(s.at k).name, (s.at k).holder, (s.at k).fence, (s.at k).line⟩ : CLock)]).length c1)), (7, vI ((k : Nat) : Int)), (6, vB true), (3, .p 0 0), (0, .v (.slice s.A s.n s.c))], [⟨80, [vS x.name, vI x.holder, vI x.fence, .v (.slice x.line.A x.line.n x.line.c)]⟩]⟩ [] [] (by kernel_rfl) on wn ?_
      refine l_nil (q_block_normal (q_then_normal ?_))
      refine c_region ?_
      refine JL_run 3 [] [7, 5, 6, 3, 0] 1 ⟨[(7, vI (((k : Nat) : Int) + 1)), (5, .v (.slice A1 (L ++ [(⟨(s.at k).name, (s.at k).holder, (s.at k).fence, (s.at k).line⟩ : CLock)]).length c1)), (6, vB true), (3, .p 0 0), (0, .v (.slice s.A s.n s.c))], [⟨80, [vS x.name, vI x.holder, vI x.fence, .v (.slice x.line.A x.line.n x.line.c)]⟩]⟩ [inR (((k : Nat) : Int) + 1)] [] (by kernel_rfl) (oc (by unfold inR; omega) on) wn ?_
      refine l_nil (q_loop (x := (⟨k, b, A, c, L⟩ : Nat × Bool × Option Addr × Nat × List CLock)) (⟨k + 1, true, A1, c1, L ++ [(⟨(s.at k).name, (s.at k).holder, (s.at k).fence, (s.at k).line⟩ : CLock)]⟩ : Nat × Bool × Option Addr × Nat × List CLock) (by first | exact hI.more (by assumption) (by omega) | exact hI.hit (by assumption) (by omega) (by assumption) | exact hI.skip (by assumption) (by omega) (by assumption)) (by show s.xs.length - (k + 1) < s.xs.length - k; omega) (s_start [7, 6, 5, 3, 0] 1 (by kernel_rfl) rfl))
    | false =>
      refine h_quiet [(5, .idx s.ad k), (7, .ext [.string (s.at k).name])] [(3, true), (4, true), (5, true), (6, true), (7, false), (8, true), (9, false), (10, true), (11, true)] [(25, vB (!(Op.bytesLess ((s.at k).name).toList (x.name).toList || decide ((s.at k).name = x.name)))), (24, vB (!(Op.bytesLess ((s.at k).name).toList (x.name).toList || decide ((s.at k).name = x.name)))), (23, vS x.name), (22, .p 0 0), (21, vS (s.at k).name), (20, .v (.pointer (some ((s.ad.add (k * 4)).add 0)))), (19, .v (.pointer (some (s.ad.add (k * 4))))), (18, vI ((k : Nat) : Int)), (17, .v (.slice s.A s.n s.c)), (16, vB true), (15, vB true), (14, vB false), (11, vB true), (7, vI ((k : Nat) : Int)), (6, vB false), (5, .v (.slice A L.length c)), (3, .p 0 0), (0, .v (.slice s.A s.n s.c))] [s.A = some s.ad, ((k : Nat) : Int) = ((k : Nat) : Int), k < s.n] [((s.ad.add (k * 4)).add 0, [.string (s.at k).name])] rfl (by kernel_rfl) (oc (Sl.ok.own (s := s) (i := k) oks (by omega)) (oc rfl (oc (by omega) on))) (fun w hk hr => ⟨(Sl.rd.fld (s := s) (i := k) (Sl.rd.kp hs hk) (by omega) 0 1 rfl), trivial⟩) ?_
      refine h_nil ?_
      refine l_nil (q_then_normal ?_)
      cases h3 : Op.bytesLess ((s.at k).name).toList (x.name).toList || decide ((s.at k).name = x.name) with
      | true =>
        rw [bytes_total] at h3
        simp only [Bool.not_eq_true', Bool.not_eq_false', Bool.not_eq_true, Bool.not_eq_false] at h3
        refine c_if false rfl ?_
        refine c_skip ?_
        refine q_then_normal ?_
        refine c_region ?_
        refine JL_run 6 [(3, .idx s.ad k), (4, .ext [.string (s.at k).name, .int .i64 (s.at k).holder, .int .i64 (s.at k).fence, .slice (s.at k).line.A (s.at k).line.n (s.at k).line.c])] [35, 30, 7, 6, 3, 0] 2 ⟨[(35, .s 1 0 1 1), (30, .v (.slice A L.length c)), (7, vI ((k : Nat) : Int)), (6, vB false), (3, .p 0 0), (0, .v (.slice s.A s.n s.c))], [⟨80, [vS x.name, vI x.holder, vI x.fence, .v (.slice x.line.A x.line.n x.line.c)]⟩, ⟨80, [vS (s.at k).name, vI (s.at k).holder, vI (s.at k).fence, .v (.slice (s.at k).line.A (s.at k).line.n (s.at k).line.c)]⟩]⟩ [s.A = some s.ad, ((k : Nat) : Int) = ((k : Nat) : Int), k < s.n] [(s.ad.add (k * 4), [.string (s.at k).name, .int .i64 (s.at k).holder, .int .i64 (s.at k).fence, .slice (s.at k).line.A (s.at k).line.n (s.at k).line.c])] (by kernel_rfl) (oc (Sl.ok.own (s := s) (i := k) oks (by omega)) (oc rfl (oc (by omega) on))) (fun w hk hr => ⟨(Sl.rd.all (s := s) (i := k) (Sl.rd.kp hs hk) (by omega) rfl), trivial⟩) ?_
        refine l_appendA (α := CLock) 80 56 A c (L) (.s 1 0 1 1) ([(⟨(s.at k).name, (s.at k).holder, (s.at k).fence, (s.at k).line⟩ : CLock)]) Try.underlying22 (by kernel_rfl) rfl rfl rfl (fun bs w hS => by obtain ⟨q1, q2, q3, q4⟩ := src_loc (i := 1) (off := 0) (k := 1) (c := 1) (q := 4) (vs := [.string (s.at k).name, .int .i64 (s.at k).holder, .int .i64 (s.at k).fence, .slice (s.at k).line.A (s.at k).line.n (s.at k).line.c]) hS rfl rfl; exact ⟨some q1, q2, q3, q4⟩) (by first | omega | (simp only [List.length_append, List.length_nil, List.length_cons]; omega)) (by first | omega | (simp only [List.length_append, List.length_nil, List.length_cons]; omega)) ?_
        intro A2 c2
        refine JL_run 1 [] [5, 7, 6, 3, 0] 1 ⟨[(5, .v (.slice A2 (L ++ [(⟨(s.at k).name, (s.at k).holder, (s.at k).fence, (s.at k).line⟩ : CLock)]).length c2)), (7, vI ((k : Nat) : Int)), (6, vB false), (3, .p 0 0), (0, .v (.slice s.A s.n s.c))], [⟨80, [vS x.name, vI x.holder, vI x.fence, .v (.slice x.line.A x.line.n x.line.c)]⟩]⟩ [] [] (by kernel_rfl) on wn ?_
        refine l_nil (q_block_normal (q_then_normal ?_))
        refine c_region ?_
        refine JL_run 3 [] [7, 5, 6, 3, 0] 1 ⟨[(7, vI (((k : Nat) : Int) + 1)), (5, .v (.slice A2 (L ++ [(⟨(s.at k).name, (s.at k).holder, (s.at k).fence, (s.at k).line⟩ : CLock)]).length c2)), (6, vB false), (3, .p 0 0), (0, .v (.slice s.A s.n s.c))], [⟨80, [vS x.name, vI x.holder, vI x.fence, .v (.slice x.line.A x.line.n x.line.c)]⟩]⟩ [inR (((k : Nat) : Int) + 1)] [] (by kernel_rfl) (oc (by unfold inR; omega) on) wn ?_
        refine l_nil (q_loop (x := (⟨k, b, A, c, L⟩ : Nat × Bool × Option Addr × Nat × List CLock)) (⟨k + 1, false, A2, c2, L ++ [(⟨(s.at k).name, (s.at k).holder, (s.at k).fence, (s.at k).line⟩ : CLock)]⟩ : Nat × Bool × Option Addr × Nat × List CLock) (by first | exact hI.more (by assumption) (by omega) | exact hI.hit (by assumption) (by omega) (by assumption) | exact hI.skip (by assumption) (by omega) (by assumption)) (by show s.xs.length - (k + 1) < s.xs.length - k; omega) (s_start [7, 6, 5, 3, 0] 1 (by kernel_rfl) rfl))
      | false =>
        rw [bytes_total] at h3
        simp only [Bool.not_eq_true', Bool.not_eq_false', Bool.not_eq_true, Bool.not_eq_false] at h3
        refine c_if true rfl ?_
        refine c_seq ?_
        refine c_region ?_
        refine JL_run 3 [] [28, 26, 7, 3, 0] 2 ⟨[(28, .s 1 0 1 1), (26, .v (.slice A L.length c)), (7, vI ((k : Nat) : Int)), (3, .p 0 0), (0, .v (.slice s.A s.n s.c))], [⟨80, [vS x.name, vI x.holder, vI x.fence, .v (.slice x.line.A x.line.n x.line.c)]⟩, ⟨80, [vS x.name, vI x.holder, vI x.fence, .v (.slice x.line.A x.line.n x.line.c)]⟩]⟩ [] [] (by kernel_rfl) on wn ?_
        refine l_appendA (α := CLock) 80 56 A c (L) (.s 1 0 1 1) ([(⟨x.name, x.holder, x.fence, x.line⟩ : CLock)]) Try.underlying22 (by kernel_rfl) rfl rfl rfl (fun bs w hS => by obtain ⟨q1, q2, q3, q4⟩ := src_loc (i := 1) (off := 0) (k := 1) (c := 1) (q := 4) (vs := [.string x.name, .int .i64 x.holder, .int .i64 x.fence, .slice x.line.A x.line.n x.line.c]) hS rfl rfl; exact ⟨some q1, q2, q3, q4⟩) (by first | omega | (simp only [List.length_append, List.length_nil, List.length_cons]; omega)) (by first | omega | (simp only [List.length_append, List.length_nil, List.length_cons]; omega)) ?_
        intro A3 c3
        refine JL_run 1 [] [5, 7, 3, 0] 1 ⟨[(5, .v (.slice A3 (L ++ [(⟨x.name, x.holder, x.fence, x.line⟩ : CLock)]).length c3)), (7, vI ((k : Nat) : Int)), (3, .p 0 0), (0, .v (.slice s.A s.n s.c))], [⟨80, [vS x.name, vI x.holder, vI x.fence, .v (.slice x.line.A x.line.n x.line.c)]⟩]⟩ [] [] (by kernel_rfl) on wn ?_
        refine l_nil (q_then_normal ?_)
        refine c_region ?_
        refine JL_run 1 [] [6, 5, 7, 3, 0] 1 ⟨[(6, vB true), (5, .v (.slice A3 (L ++ [(⟨x.name, x.holder, x.fence, x.line⟩ : CLock)]).length c3)), (7, vI ((k : Nat) : Int)), (3, .p 0 0), (0, .v (.slice s.A s.n s.c))], [⟨80, [vS x.name, vI x.holder, vI x.fence, .v (.slice x.line.A x.line.n x.line.c)]⟩]⟩ [] [] (by kernel_rfl) on wn ?_
        refine l_nil (q_then_normal ?_)
        refine c_region ?_
        refine JL_run 6 [(3, .idx s.ad k), (4, .ext [.string (s.at k).name, .int .i64 (s.at k).holder, .int .i64 (s.at k).fence, .slice (s.at k).line.A (s.at k).line.n (s.at k).line.c])] [35, 30, 6, 7, 3, 0] 2 ⟨[(35, .s 1 0 1 1), (30, .v (.slice A3 (L ++ [(⟨x.name, x.holder, x.fence, x.line⟩ : CLock)]).length c3)), (6, vB true), (7, vI ((k : Nat) : Int)), (3, .p 0 0), (0, .v (.slice s.A s.n s.c))], [⟨80, [vS x.name, vI x.holder, vI x.fence, .v (.slice x.line.A x.line.n x.line.c)]⟩, ⟨80, [vS (s.at k).name, vI (s.at k).holder, vI (s.at k).fence, .v (.slice (s.at k).line.A (s.at k).line.n (s.at k).line.c)]⟩]⟩ [s.A = some s.ad, ((k : Nat) : Int) = ((k : Nat) : Int), k < s.n] [(s.ad.add (k * 4), [.string (s.at k).name, .int .i64 (s.at k).holder, .int .i64 (s.at k).fence, .slice (s.at k).line.A (s.at k).line.n (s.at k).line.c])] (by kernel_rfl) (oc (Sl.ok.own (s := s) (i := k) oks (by omega)) (oc rfl (oc (by omega) on))) (fun w hk hr => ⟨(Sl.rd.all (s := s) (i := k) (Sl.rd.kp hs hk) (by omega) rfl), trivial⟩) ?_
        refine l_appendA (α := CLock) 80 56 A3 c3 (L ++ [(⟨x.name, x.holder, x.fence, x.line⟩ : CLock)]) (.s 1 0 1 1) ([(⟨(s.at k).name, (s.at k).holder, (s.at k).fence, (s.at k).line⟩ : CLock)]) Try.underlying22 (by kernel_rfl) rfl rfl rfl (fun bs w hS => by obtain ⟨q1, q2, q3, q4⟩ := src_loc (i := 1) (off := 0) (k := 1) (c := 1) (q := 4) (vs := [.string (s.at k).name, .int .i64 (s.at k).holder, .int .i64 (s.at k).fence, .slice (s.at k).line.A (s.at k).line.n (s.at k).line.c]) hS rfl rfl; exact ⟨some q1, q2, q3, q4⟩) (by first | omega | (simp only [List.length_append, List.length_nil, List.length_cons]; omega)) (by first | omega | (simp only [List.length_append, List.length_nil, List.length_cons]; omega)) ?_
        intro A4 c4
        refine JL_run 1 [] [5, 6, 7, 3, 0] 1 ⟨[(5, .v (.slice A4 (L ++ [(⟨x.name, x.holder, x.fence, x.line⟩ : CLock)] ++ [(⟨(s.at k).name, (s.at k).holder, (s.at k).fence, (s.at k).line⟩ : CLock)]).length c4)), (6, vB true), (7, vI ((k : Nat) : Int)), (3, .p 0 0), (0, .v (.slice s.A s.n s.c))], [⟨80, [vS x.name, vI x.holder, vI x.fence, .v (.slice x.line.A x.line.n x.line.c)]⟩]⟩ [] [] (by kernel_rfl) on wn ?_
        refine l_nil (q_block_normal (q_then_normal ?_))
        refine c_region ?_
        refine JL_run 3 [] [7, 5, 6, 3, 0] 1 ⟨[(7, vI (((k : Nat) : Int) + 1)), (5, .v (.slice A4 (L ++ [(⟨x.name, x.holder, x.fence, x.line⟩ : CLock)] ++ [(⟨(s.at k).name, (s.at k).holder, (s.at k).fence, (s.at k).line⟩ : CLock)]).length c4)), (6, vB true), (3, .p 0 0), (0, .v (.slice s.A s.n s.c))], [⟨80, [vS x.name, vI x.holder, vI x.fence, .v (.slice x.line.A x.line.n x.line.c)]⟩]⟩ [inR (((k : Nat) : Int) + 1)] [] (by kernel_rfl) (oc (by unfold inR; omega) on) wn ?_
        refine l_nil (q_loop (x := (⟨k, b, A, c, L⟩ : Nat × Bool × Option Addr × Nat × List CLock)) (⟨k + 1, true, A4, c4, L ++ [(⟨x.name, x.holder, x.fence, x.line⟩ : CLock)] ++ [(⟨(s.at k).name, (s.at k).holder, (s.at k).fence, (s.at k).line⟩ : CLock)]⟩ : Nat × Bool × Option Addr × Nat × List CLock) (by first | exact hI.more (by assumption) (by omega) | exact hI.hit (by assumption) (by omega) (by assumption) | exact hI.skip (by assumption) (by omega) (by assumption)) (by show s.xs.length - (k + 1) < s.xs.length - k; omega) (s_start [7, 6, 5, 3, 0] 1 (by kernel_rfl) rfl))
  | false =>
    have h1 := of_decide_eq_false h1
    refine c_if false rfl ?_
    refine c_exit ?_
    refine q_then_exit (q_then_exit (q_block_hit (q_then_normal ?_)))
    refine c_seq ?_
    refine c_seq ?_
    refine c_region ?_
    refine JL_run 2 [] [38, 5, 3] 1 ⟨[(38, vB (!b)), (5, .v (.slice A L.length c)), (3, .p 0 0)], [⟨80, [vS x.name, vI x.holder, vI x.fence, .v (.slice x.line.A x.line.n x.line.c)]⟩]⟩ [] [] (by kernel_rfl) on wn ?_
    refine l_nil (q_then_normal ?_)
    cases h4 : b with
    | true =>
      refine c_if false rfl ?_
      refine c_skip ?_
      refine q_then_normal ?_
      refine c_seq ?_
      refine c_region ?_
      refine JL_run 2 [] [4] 0 ⟨[(4, .v (.slice A L.length c))], []⟩ [] [] (by kernel_rfl) on wn ?_
      refine l_nil (q_then_normal ?_)
      refine c_ret ?_
      refine q_ret (.inl rfl) [.v (.slice A L.length c)] rfl (fun bs w hS => ?_)
      exact ⟨⟨A, c, L⟩, rfl, (hI.fin1 (by assumption) (by omega)), hS.kp, hS.out1⟩
    | false =>
      refine c_if true rfl ?_
      refine c_region ?_
      refine JL_run 3 [] [41, 39] 2 ⟨[(41, .s 1 0 1 1), (39, .v (.slice A L.length c))], [⟨80, [vS x.name, vI x.holder, vI x.fence, .v (.slice x.line.A x.line.n x.line.c)]⟩, ⟨80, [vS x.name, vI x.holder, vI x.fence, .v (.slice x.line.A x.line.n x.line.c)]⟩]⟩ [] [] (by kernel_rfl) on wn ?_
      refine l_appendA (α := CLock) 80 56 A c (L) (.s 1 0 1 1) ([(⟨x.name, x.holder, x.fence, x.line⟩ : CLock)]) Try.underlying22 (by kernel_rfl) rfl rfl rfl (fun bs w hS => by obtain ⟨q1, q2, q3, q4⟩ := src_loc (i := 1) (off := 0) (k := 1) (c := 1) (q := 4) (vs := [.string x.name, .int .i64 x.holder, .int .i64 x.fence, .slice x.line.A x.line.n x.line.c]) hS rfl rfl; exact ⟨some q1, q2, q3, q4⟩) (by first | omega | (simp only [List.length_append, List.length_nil, List.length_cons]; omega)) (by first | omega | (simp only [List.length_append, List.length_nil, List.length_cons]; omega)) ?_
      intro A5 c5
      refine JL_run 1 [] [5] 0 ⟨[(5, .v (.slice A5 (L ++ [(⟨x.name, x.holder, x.fence, x.line⟩ : CLock)]).length c5))], []⟩ [] [] (by kernel_rfl) on wn ?_
      refine l_nil (q_then_normal ?_)
      refine c_seq ?_
      refine c_region ?_
      refine JL_run 2 [] [4] 0 ⟨[(4, .v (.slice A5 (L ++ [(⟨x.name, x.holder, x.fence, x.line⟩ : CLock)]).length c5))], []⟩ [] [] (by kernel_rfl) on wn ?_
      refine l_nil (q_then_normal ?_)
      refine c_ret ?_
      refine q_ret (.inl rfl) [.v (.slice A5 (L ++ [(⟨x.name, x.holder, x.fence, x.line⟩ : CLock)]).length c5)] rfl (fun bs w hS => ?_)
      exact ⟨⟨A5, c5, L ++ [(⟨x.name, x.holder, x.fence, x.line⟩ : CLock)]⟩, rfl, (hI.fin0 (by assumption) (by omega)), hS.kp, hS.out1⟩

theorem lock_Take {B : Nat → Prop} (s : Sl CLock) (t : ByteArray) (who : Int) (wait : Bool) (w : World) (hs : s.rd B w) (ht : t.size ≤ 9223372036854775807) : Calls Try.prog 42 #[.slice s.A s.n s.c, .string t, .int .i64 who, .bool wait] w fun e w' => ∃ y : Sl CLock, e = .returned (.tuple #[.slice y.A y.n y.c, .agg #[.int .i64 ((mTake (s.xs.map CLock.abs) t who wait).2.1).code, .int .i64 ((mTake (s.xs.map CLock.abs) t who wait).2.1).n, .string ((mTake (s.xs.map CLock.abs) t who wait).2.1).text], .int .i64 ((mTake (s.xs.map CLock.abs) t who wait).2.2)]) ∧ y.xs.map CLock.abs = (mTake (s.xs.map CLock.abs) t who wait).1 ∧ FreshS w w' y := by
  have oks := Sl.rd.ok hs
  have ncs := Sl.ok.nc oks
  have hns : s.n = s.xs.length := rfl
  refine calls_J0 147 Try.func42 rfl rfl [.slice s.A s.n s.c, .string t, .int .i64 who, .bool wait] rfl ?_
  refine c_seq ?_
  refine c_region ?_
  refine JL_run 3 [] [9, 0, 1, 2, 3] 1 ⟨[(9, .p 0 0), (0, .v (.slice s.A s.n s.c)), (1, vS t), (2, vI who), (3, vB wait)], [⟨26, [vI 0, vI 0, vS emp]⟩]⟩ [] [] (by kernel_rfl) on wn ?_
  refine l_nil (q_then_normal ?_)
  refine c_seq ?_
  refine c_region ?_
  refine JL_run 3 [] [18, 17, 16, 9, 1, 2, 3] 1 ⟨[(18, vI who), (17, vS t), (16, .v (.slice s.A s.n s.c)), (9, .p 0 0), (1, vS t), (2, vI who), (3, vB wait)], [⟨26, [vI 0, vI 0, vS emp]⟩]⟩ [] [] (by kernel_rfl) on wn ?_
  cases h1 : decide (mAsk (s.xs.map CLock.abs) t who = 0) with
  | true =>
    have h1 := of_decide_eq_true h1
    refine l_freshF (σ := Sl CLock) 50 [] [.v (.slice s.A s.n s.c), vS t, vI who] (fun y1 => .tuple #[.slice y1.A y1.n y1.c, .int .i64 ((mBS (fun x : CLock => cmpS x.name t) s.xs : Nat) : Int), .bool (mBSf (fun x : CLock => cmpS x.name t) s.xs), .int .i64 0]) (fun y1 => y1.xs.map CLock.abs = s.xs.map CLock.abs) (fun y1 => locksR 80 3 y1) Try.call50 rfl rfl rfl rfl (fun bs w hS => (lock_begin s t who w (Sl.rd.kp hs hS.kp) (by first | assumption | omega | (simp only [emp_size]; omega))).mono (fun e w' h => (h.resolve_left (fun h9 => h9.1 h1)).2)) ?_
    rintro y1 hF1
    refine l_split2 ?_
    obtain ⟨A1, c1, S1⟩ := y1
    have hF1 : S1.map CLock.abs = s.xs.map CLock.abs := hF1
    refine l_perm (R' := [ownL (lineR 3) S1, rowA 80 A1 c1 (S1 : List CLock)]) (List.Perm.refl _) ?_
    have hnm1 := locks_names (y := (⟨A1, c1, S1⟩ : Sl CLock)) hs hF1
    have hlen1 : S1.length = s.xs.length := by simpa using congrArg List.length hF1
    refine l_know (F := ∀ i, i < S1.length → Rds.ok (S1.getD i default)) (fun bs w hS i hi => Rds.okof (B := anyB) (w := w) (own_eltL (hS.res _ (.head _)) hnm1 (mem_of_getD hi))) fun okown1 => ?_
    refine l_know (F := RowOk A1 c1 (S1 : List CLock)) (fun bs w hS => rowA_rok (hS.res _ (.tail _ (.head _)))) fun hrow1 => ?_
    have nchrow1 := hrow1.2
    have hask := mAsk_ok h1
    have hm1 : mLocks (S1.map CLock.abs) = 0 := by rw [hF1]; exact hask.1
    have hw1 := hask.2.2.1
    have hw2 := hask.2.2.2
    have hln5 : S1.length ≤ 5 := by have h9 := (mLocks_bd hm1).1; simpa using h9
    have hbsS : mBS (fun x : CLock => cmpS x.name t) s.xs = mBS (fun x : CLock => cmpS x.name t) S1 := mBS_abs (L := s.xs) (L2 := S1) (f := CLock.abs) (c := fun x : DLock => cmpS x.name t) rfl hF1.symm
    have hbfS : mBSf (fun x : CLock => cmpS x.name t) s.xs = mBSf (fun x : CLock => cmpS x.name t) S1 := mBSf_abs (L := s.xs) (L2 := S1) (f := CLock.abs) (c := fun x : DLock => cmpS x.name t) rfl hF1.symm
    rw [hbsS, hbfS]
    have hbs := bsf_lock (L := S1) hm1 t
    have hJb := mIdx_bd (fun x : DLock => decide (x.name = t)) (S1.map CLock.abs)
    rw [List.length_map] at hJb
    generalize hJ : mIdx (fun x : DLock => decide (x.name = t)) (S1.map CLock.abs) = J at hbs hJb
    have hkl := mBS_le (fun x : CLock => cmpS x.name t) S1
    generalize hk : mBS (fun x : CLock => cmpS x.name t) S1 = k at hbs hkl ⊢
    generalize hf : mBSf (fun x : CLock => cmpS x.name t) S1 = fb at hbs ⊢
    refine JL_run 9 [] [13, 12, 11, 0, 9, 1, 2, 3] 1 ⟨[(13, vI 0), (12, vB fb), (11, vI ((k : Nat) : Int)), (0, .v (.slice A1 S1.length c1)), (9, .p 0 0), (1, vS t), (2, vI who), (3, vB wait)], [⟨26, [vI 0, vI 0, vS emp]⟩]⟩ [] [] (by kernel_rfl) on wn ?_
    refine l_nil (q_then_normal ?_)
    refine c_seq ?_
    refine c_block ?_
    refine c_seq ?_
    refine c_region ?_
    refine JL_run 3 [] [24, 13, 12, 11, 0, 9, 1, 2, 3] 1 ⟨[(24, vB false), (13, vI 0), (12, vB fb), (11, vI ((k : Nat) : Int)), (0, .v (.slice A1 S1.length c1)), (9, .p 0 0), (1, vS t), (2, vI who), (3, vB wait)], [⟨26, [vI 0, vI 0, vS emp]⟩]⟩ [] [] (by kernel_rfl) on wn ?_
    refine l_nil (q_then_normal ?_)
    refine c_if false rfl ?_
    refine c_seq ?_
    refine c_region ?_
    refine JL_run 3 [] [32, 12, 11, 0, 9, 1, 2, 3] 1 ⟨[(32, vB (!fb)), (12, vB fb), (11, vI ((k : Nat) : Int)), (0, .v (.slice A1 S1.length c1)), (9, .p 0 0), (1, vS t), (2, vI who), (3, vB wait)], [⟨26, [vI 0, vI 0, vS emp]⟩]⟩ [] [] (by kernel_rfl) on wn ?_
    cases h2 : fb with
    | true =>
      have hkJ := hbs.2 h2
      subst hkJ
      have hk5 := lock_all hm1 (k := k) (by omega)
      obtain ⟨hk51, hk52, hk53, hk54, hk55, hk56⟩ := hk5
      have hk7 : (S1.getD k default).line.n = (S1.getD k default).line.xs.length := rfl
      refine JL_run 5 [] [29, 12, 11, 0, 9, 1, 2, 3] 1 ⟨[(29, vB false), (12, vB true), (11, vI ((k : Nat) : Int)), (0, .v (.slice A1 S1.length c1)), (9, .p 0 0), (1, vS t), (2, vI who), (3, vB wait)], [⟨26, [vI 0, vI 0, vS emp]⟩]⟩ [] [] (by kernel_rfl) on wn ?_
      refine l_nil (q_then_normal ?_)
      refine c_if false rfl ?_
      refine c_seq ?_
      refine c_region ?_
      refine JL_run 3 [] [39, 11, 0, 9, 1, 2, 3] 1 ⟨[(39, vB false), (11, vI ((k : Nat) : Int)), (0, .v (.slice A1 S1.length c1)), (9, .p 0 0), (1, vS t), (2, vI who), (3, vB wait)], [⟨26, [vI 0, vI 0, vS emp]⟩]⟩ [] [] (by kernel_rfl) on wn ?_
      refine l_nil (q_then_normal ?_)
      refine c_if false rfl ?_
      refine c_skip ?_
      refine q_block_normal (q_then_normal ?_)
      refine c_seq ?_
      refine c_region ?_
      refine JL_run 4 [(2, .idx (oad A1) k)] [14, 0, 9, 2, 3] 1 ⟨[(14, .v (.pointer (some ((oad A1).add (k * 4))))), (0, .v (.slice A1 S1.length c1)), (9, .p 0 0), (2, vI who), (3, vB wait)], [⟨26, [vI 0, vI 0, vS emp]⟩]⟩ [A1 = some (oad A1), ((k : Nat) : Int) = ((k : Nat) : Int), k < S1.length] [] (by kernel_rfl) (oc (hrow1.1 k (by omega)) (oc rfl (oc (by omega) on))) wn ?_
      refine l_nil (q_then_normal ?_)
      refine c_seq ?_
      refine c_block ?_
      refine c_seq ?_
      refine c_region ?_
      refine JL_run 7 [(3, .ext [.int .i64 (S1.getD k default).holder])] [53, 14, 0, 9, 2, 3] 1 ⟨[(53, vB (decide ((S1.getD k default).holder = who))), (14, .v (.pointer (some ((oad A1).add (k * 4))))), (0, .v (.slice A1 S1.length c1)), (9, .p 0 0), (2, vI who), (3, vB wait)], [⟨26, [vI 0, vI 0, vS emp]⟩]⟩ [] [(((oad A1).add (k * 4)).add 1, [.int .i64 (S1.getD k default).holder])] (by kernel_rfl) on (fun w hk hr => ⟨(rowA_fld (i := k) (hr _ (.tail _ (.head _))) (by omega) 1 1 rfl), trivial⟩) ?_
      refine l_nil (q_then_normal ?_)
      cases h3 : decide ((S1.getD k default).holder = who) with
      | true =>
        have h3 := of_decide_eq_true h3
        refine c_if true rfl ?_
        refine c_seq ?_
        refine c_draw 9 [] (.p 0 (.p 1 (.p 2 (.p 3 (.q 4 (.p 5 (.p 6 (.b 7 (.p 8 .nil) .z)))))))) [0] [ownL (lineR 3) S1, rowA 80 A1 c1 (S1 : List CLock)] Try_mixed (by kernel_rfl) (pq_then (pq_block (pq_then pq_body))) (List.Sublist.refl _) ?_
        refine h_quiet [(4, .ext [.int .i64 (S1.getD k default).fence])] [(0, true), (1, true), (2, true), (3, true), (4, false), (5, true), (6, true)] [(8, .v (.slice A1 S1.length c1)), (65, .v (.agg #[.int .i64 0, .int .i64 (S1.getD k default).fence, .string emp])), (64, vI (S1.getD k default).fence), (63, .v (.pointer (some (((oad A1).add (k * 4)).add 2)))), (62, .v (.pointer (some ((oad A1).add (k * 4))))), (61, .v (.pointer (some ((oad A1).add (k * 4))))), (60, .v (.slice A1 S1.length c1)), (53, vB true), (14, .v (.pointer (some ((oad A1).add (k * 4))))), (0, .v (.slice A1 S1.length c1)), (9, .p 0 0), (2, vI who), (3, vB wait)] [] [(((oad A1).add (k * 4)).add 2, [.int .i64 (S1.getD k default).fence])] rfl (by kernel_rfl) on (fun w hk hr => ⟨(rowA_fld (i := k) (hr _ (.tail _ (.head _))) (by omega) 2 1 rfl), trivial⟩) ?_
        refine h_local ⟨[(8, .v (.slice A1 S1.length c1)), (65, .v (.agg #[.int .i64 0, .int .i64 (S1.getD k default).fence, .string emp])), (64, vI (S1.getD k default).fence), (63, .v (.pointer (some (((oad A1).add (k * 4)).add 2)))), (62, .v (.pointer (some ((oad A1).add (k * 4))))), (61, .v (.pointer (some ((oad A1).add (k * 4))))), (60, .v (.slice A1 S1.length c1)), (53, vB true), (14, .v (.pointer (some ((oad A1).add (k * 4))))), (0, .v (.slice A1 S1.length c1)), (9, .p 0 0), (2, vI who), (3, vB wait)], [⟨26, [vI 0, vI (S1.getD k default).fence, vS emp]⟩]⟩ (by kernel_rfl) (fun bs0 bs w hp hl hS => hS.down hp hl rfl (le_mask le_nil) (List.Sublist.refl _)) ?_
        refine h_quiet [] [(8, true)] [(10, vI 0), (8, .v (.slice A1 S1.length c1)), (65, .v (.agg #[.int .i64 0, .int .i64 (S1.getD k default).fence, .string emp])), (64, vI (S1.getD k default).fence), (63, .v (.pointer (some (((oad A1).add (k * 4)).add 2)))), (62, .v (.pointer (some ((oad A1).add (k * 4))))), (61, .v (.pointer (some ((oad A1).add (k * 4))))), (60, .v (.slice A1 S1.length c1)), (53, vB true), (14, .v (.pointer (some ((oad A1).add (k * 4))))), (0, .v (.slice A1 S1.length c1)), (9, .p 0 0), (2, vI who), (3, vB wait)] [] [] rfl (by kernel_rfl) on wn ?_
        refine h_nil ?_
        refine l_nil (q_then_normal ?_)
        refine c_ret ?_
        refine q_block_ret (q_then_ret (q_ret (.inl rfl) [.v (.slice A1 S1.length c1), .v (.agg #[.int .i64 0, .int .i64 (S1.getD k default).fence, .string emp]), vI 0] rfl (fun bs w hS => ?_)))
        have hask0 : mAsk (S1.map CLock.abs) t who = 0 := by rw [hF1]; assumption
        rw [← hF1]
        have hq1 : (S1.getD k default).abs.holder = (S1.getD k default).holder := rfl
        have hq2 : (S1.getD k default).abs.fence = (S1.getD k default).fence := rfl
        have hq3 : (S1.getD k default).abs.line = (S1.getD k default).line.xs := rfl
        have hq4 : (S1.getD k default).abs.name = (S1.getD k default).name := rfl
        have hlt : lTake (S1.getD k default).abs who wait = ((S1.getD k default).abs, ⟨0, (S1.getD k default).fence, emp⟩) := by
          unfold lTake
          simp only [hq1, hq2, hq3, hq4]
          repeat (first | rw [if_pos (by first | assumption | omega | exact .inl (by assumption) | exact .inr (by assumption))] | rw [if_neg (by first | assumption | omega | (rintro (h8 | h8) <;> simp_all; done))])
          all_goals rfl
        have hm : mTake (S1.map CLock.abs) t who wait = (S1.map CLock.abs, ⟨0, (S1.getD k default).fence, emp⟩, 0) := by
          unfold mTake lIdx
          simp only [hJ, Int.toNat_natCast, lgetD, List.length_map]
          rw [hlt]
          repeat (first | rw [if_pos (by first | assumption | omega)] | rw [if_neg (by first | assumption | omega | (intro h0; first | exact absurd h0 (by assumption) | (simp_all; done)))])
          all_goals (show ((S1.map CLock.abs).set k (S1.getD k default).abs, _, _) = _; rw [← lgetD, set_getD (by rw [List.length_map]; omega)])
        refine ⟨⟨A1, c1, S1⟩, ?_, ?_, hS.outS (y := (⟨A1, c1, S1⟩ : Sl CLock)) (out_locksG (.tail _ (.head _)) hS.res (fun x hx => ?_))⟩
        · rw [hm] <;> rfl
        · exact (congrArg Prod.fst hm).symm
        · exact ⟨hnm1 x hx, own_inL (.head _) hS.res hx⟩
      | false =>
        have h3 := of_decide_eq_false h3
        refine c_if false rfl ?_
        refine c_seq ?_
        refine c_region ?_
        refine JL_run 6 [(3, .ext [.int .i64 (S1.getD k default).holder])] [72, 14, 0, 9, 2, 3] 1 ⟨[(72, vB (decide ((S1.getD k default).holder = 0))), (14, .v (.pointer (some ((oad A1).add (k * 4))))), (0, .v (.slice A1 S1.length c1)), (9, .p 0 0), (2, vI who), (3, vB wait)], [⟨26, [vI 0, vI 0, vS emp]⟩]⟩ [] [(((oad A1).add (k * 4)).add 1, [.int .i64 (S1.getD k default).holder])] (by kernel_rfl) on (fun w hk hr => ⟨(rowA_fld (i := k) (hr _ (.tail _ (.head _))) (by omega) 1 1 rfl), trivial⟩) ?_
        cases h4 : decide ((S1.getD k default).holder = 0) with
        | true =>
          have h4 := of_decide_eq_true h4
          refine JL_run 7 [(3, .ext [.int .i64 (S1.getD k default).fence])] [66, 14, 0, 9, 2, 3] 1 ⟨[(66, vB (decide ((S1.getD k default).fence = 1073741824))), (14, .v (.pointer (some ((oad A1).add (k * 4))))), (0, .v (.slice A1 S1.length c1)), (9, .p 0 0), (2, vI who), (3, vB wait)], [⟨26, [vI 0, vI 0, vS emp]⟩]⟩ [] [(((oad A1).add (k * 4)).add 2, [.int .i64 (S1.getD k default).fence])] (by kernel_rfl) on (fun w hk hr => ⟨(rowA_fld (i := k) (hr _ (.tail _ (.head _))) (by omega) 2 1 rfl), trivial⟩) ?_
          refine l_nil (q_then_normal ?_)
          cases h5 : decide ((S1.getD k default).fence = 1073741824) with
          | true =>
            have h5 := of_decide_eq_true h5
            refine c_if true rfl ?_
            refine c_seq ?_
            refine c_region ?_
            refine JL_run 5 [] [10, 8, 9] 1 ⟨[(10, vI 0), (8, .v (.slice A1 S1.length c1)), (9, .p 0 0)], [⟨26, [vI 8, vI 0, vS emp]⟩]⟩ [] [] (by kernel_rfl) on wn ?_
            refine l_nil (q_then_normal ?_)
            refine c_ret ?_
            refine q_block_ret (q_then_ret (q_ret (.inl rfl) [.v (.slice A1 S1.length c1), .v (.agg #[.int .i64 8, .int .i64 0, .string emp]), vI 0] rfl (fun bs w hS => ?_)))
            have hask0 : mAsk (S1.map CLock.abs) t who = 0 := by rw [hF1]; assumption
            rw [← hF1]
            have hq1 : (S1.getD k default).abs.holder = (S1.getD k default).holder := rfl
            have hq2 : (S1.getD k default).abs.fence = (S1.getD k default).fence := rfl
            have hq3 : (S1.getD k default).abs.line = (S1.getD k default).line.xs := rfl
            have hq4 : (S1.getD k default).abs.name = (S1.getD k default).name := rfl
            have hlt : lTake (S1.getD k default).abs who wait = ((S1.getD k default).abs, ⟨8, 0, emp⟩) := by
              unfold lTake
              simp only [hq1, hq2, hq3, hq4]
              repeat (first | rw [if_pos (by first | assumption | omega | exact .inl (by assumption) | exact .inr (by assumption))] | rw [if_neg (by first | assumption | omega | (rintro (h8 | h8) <;> simp_all; done))])
              all_goals rfl
            have hm : mTake (S1.map CLock.abs) t who wait = (S1.map CLock.abs, ⟨8, 0, emp⟩, 0) := by
              unfold mTake lIdx
              simp only [hJ, Int.toNat_natCast, lgetD, List.length_map]
              rw [hlt]
              repeat (first | rw [if_pos (by first | assumption | omega)] | rw [if_neg (by first | assumption | omega | (intro h0; first | exact absurd h0 (by assumption) | (simp_all; done)))])
              all_goals (show ((S1.map CLock.abs).set k (S1.getD k default).abs, _, _) = _; rw [← lgetD, set_getD (by rw [List.length_map]; omega)])
            refine ⟨⟨A1, c1, S1⟩, ?_, ?_, hS.outS (y := (⟨A1, c1, S1⟩ : Sl CLock)) (out_locksG (.tail _ (.head _)) hS.res (fun x hx => ?_))⟩
            · rw [hm] <;> rfl
            · exact (congrArg Prod.fst hm).symm
            · exact ⟨hnm1 x hx, own_inL (.head _) hS.res hx⟩
          | false =>
            have h5 := of_decide_eq_false h5
            refine c_if false rfl ?_
            refine c_seq ?_
            refine c_region ?_
            refine JL_run 6 [(3, .ext [.int .i64 (S1.getD k default).holder])] [81, 14, 0, 9, 2, 3] 1 ⟨[(81, vB (decide ((S1.getD k default).holder = 0))), (14, .v (.pointer (some ((oad A1).add (k * 4))))), (0, .v (.slice A1 S1.length c1)), (9, .p 0 0), (2, vI who), (3, vB wait)], [⟨26, [vI 0, vI 0, vS emp]⟩]⟩ [] [(((oad A1).add (k * 4)).add 1, [.int .i64 (S1.getD k default).holder])] (by kernel_rfl) on (fun w hk hr => ⟨(rowA_fld (i := k) (hr _ (.tail _ (.head _))) (by omega) 1 1 rfl), trivial⟩) ?_
            refine l_nil (q_then_normal ?_)
            cases h6 : decide ((S1.getD k default).holder = 0) with
            | true =>
              have h6 := of_decide_eq_true h6
              refine c_if true rfl ?_
              refine c_seq ?_
              refine c_region ?_
              refine JL_run 10 [(6, .ext [.int .i64 (S1.getD k default).fence])] [96, 94, 89, 88, 14, 0, 9] 1 ⟨[(96, .v (.pointer (some (((oad A1).add (k * 4)).add 1)))), (94, vI ((S1.getD k default).fence + 1)), (89, vI who), (88, .v (.pointer (some ((oad A1).add (k * 4))))), (14, .v (.pointer (some ((oad A1).add (k * 4))))), (0, .v (.slice A1 S1.length c1)), (9, .p 0 0)], [⟨26, [vI 0, vI 0, vS emp]⟩]⟩ [inR ((S1.getD k default).fence + 1)] [(((oad A1).add (k * 4)).add 2, [.int .i64 (S1.getD k default).fence])] (by kernel_rfl) (oc (by unfold inR; omega) on) (fun w hk hr => ⟨(rowA_fld (i := k) (hr _ (.tail _ (.head _))) (by omega) 2 1 rfl), trivial⟩) ?_
              refine l_perm (R' := [rowA 80 A1 c1 (S1 : List CLock), ownL (lineR 3) S1]) (permfront 1 rfl) ?_
              refine l_storeA (α := CLock) 80 A1 c1 S1 k 1 (((oad A1).add (k * 4)).add 1) (vI who) [vI who] [.int .i64 who] (⟨(S1.getD k default).name, who, (S1.getD k default).fence, (S1.getD k default).line⟩ : CLock) rfl rfl rfl rfl rfl (by kernel_rfl) (by kernel_rfl) rfl (by omega) (by kernel_rfl) rfl rfl rfl ?_
              intro L3 hL3 hlL3
              have hgL3 : L3.getD k default = (⟨(S1.getD k default).name, who, (S1.getD k default).fence, (S1.getD k default).line⟩ : CLock) := by rw [hL3]; exact getD_set (by omega)
              have hbL3 : L3 = List.set S1 k (⟨(S1.getD k default).name, who, (S1.getD k default).fence, (S1.getD k default).line⟩ : CLock) := by rw [hL3]
              refine JL_run 2 [] [98, 94, 14, 0, 9] 1 ⟨[(98, .v (.pointer (some (((oad A1).add (k * 4)).add 2)))), (94, vI ((S1.getD k default).fence + 1)), (14, .v (.pointer (some ((oad A1).add (k * 4))))), (0, .v (.slice A1 S1.length c1)), (9, .p 0 0)], [⟨26, [vI 0, vI 0, vS emp]⟩]⟩ [] [] (by kernel_rfl) on wn ?_
              refine l_storeA (α := CLock) 80 A1 c1 L3 k 2 (((oad A1).add (k * 4)).add 2) (vI ((S1.getD k default).fence + 1)) [vI ((S1.getD k default).fence + 1)] [.int .i64 ((S1.getD k default).fence + 1)] (⟨(S1.getD k default).name, who, (S1.getD k default).fence + 1, (S1.getD k default).line⟩ : CLock) rfl rfl rfl rfl rfl (by kernel_rfl) (by kernel_rfl) rfl (by omega) (by kernel_rfl) (by rw [hgL3]; rfl) rfl rfl ?_
              intro L4 hL4 hlL4
              have hgL4 : L4.getD k default = (⟨(S1.getD k default).name, who, (S1.getD k default).fence + 1, (S1.getD k default).line⟩ : CLock) := by rw [hL4]; exact getD_set (by omega)
              have hbL4 : L4 = List.set S1 k (⟨(S1.getD k default).name, who, (S1.getD k default).fence + 1, (S1.getD k default).line⟩ : CLock) := by rw [hL4, hbL3, List.set_set]
              refine l_nil (q_then_normal ?_)
              refine c_seq ?_
              refine c_draw 9 [] (.p 0 (.p 1 (.p 2 (.p 3 (.q 4 (.p 5 (.p 6 (.b 7 (.p 8 .nil) .z)))))))) [0] [rowA 80 A1 c1 (L4 : List CLock), ownL (lineR 3) S1] Try_mixed (by kernel_rfl) (pq_then (pq_block (pq_then pq_body))) (List.Sublist.refl _) ?_
              refine h_quiet [(4, .ext [.int .i64 ((S1.getD k default).fence + 1)])] [(0, true), (1, true), (2, true), (3, true), (4, false), (5, true), (6, true)] [(8, .v (.slice A1 S1.length c1)), (104, .v (.agg #[.int .i64 0, .int .i64 ((S1.getD k default).fence + 1), .string emp])), (103, vI ((S1.getD k default).fence + 1)), (102, .v (.pointer (some (((oad A1).add (k * 4)).add 2)))), (101, .v (.pointer (some ((oad A1).add (k * 4))))), (100, .v (.pointer (some ((oad A1).add (k * 4))))), (99, .v (.slice A1 S1.length c1)), (98, .v (.pointer (some (((oad A1).add (k * 4)).add 2)))), (94, vI ((S1.getD k default).fence + 1)), (14, .v (.pointer (some ((oad A1).add (k * 4))))), (0, .v (.slice A1 S1.length c1)), (9, .p 0 0)] [] [(((oad A1).add (k * 4)).add 2, [.int .i64 ((S1.getD k default).fence + 1)])] rfl (by kernel_rfl) on (fun w hk hr => ⟨(rowA_fld (i := k) (hr _ (.head _)) (by omega) 2 1 (by rw [hgL4]; rfl)), trivial⟩) ?_
              refine h_local ⟨[(8, .v (.slice A1 S1.length c1)), (104, .v (.agg #[.int .i64 0, .int .i64 ((S1.getD k default).fence + 1), .string emp])), (103, vI ((S1.getD k default).fence + 1)), (102, .v (.pointer (some (((oad A1).add (k * 4)).add 2)))), (101, .v (.pointer (some ((oad A1).add (k * 4))))), (100, .v (.pointer (some ((oad A1).add (k * 4))))), (99, .v (.slice A1 S1.length c1)), (98, .v (.pointer (some (((oad A1).add (k * 4)).add 2)))), (94, vI ((S1.getD k default).fence + 1)), (14, .v (.pointer (some ((oad A1).add (k * 4))))), (0, .v (.slice A1 S1.length c1)), (9, .p 0 0)], [⟨26, [vI 0, vI ((S1.getD k default).fence + 1), vS emp]⟩]⟩ (by kernel_rfl) (fun bs0 bs w hp hl hS => hS.down hp hl rfl (le_mask le_nil) (List.Sublist.refl _)) ?_
              refine h_quiet [] [(8, true)] [(10, vI 0), (8, .v (.slice A1 S1.length c1)), (104, .v (.agg #[.int .i64 0, .int .i64 ((S1.getD k default).fence + 1), .string emp])), (103, vI ((S1.getD k default).fence + 1)), (102, .v (.pointer (some (((oad A1).add (k * 4)).add 2)))), (101, .v (.pointer (some ((oad A1).add (k * 4))))), (100, .v (.pointer (some ((oad A1).add (k * 4))))), (99, .v (.slice A1 S1.length c1)), (98, .v (.pointer (some (((oad A1).add (k * 4)).add 2)))), (94, vI ((S1.getD k default).fence + 1)), (14, .v (.pointer (some ((oad A1).add (k * 4))))), (0, .v (.slice A1 S1.length c1)), (9, .p 0 0)] [] [] rfl (by kernel_rfl) on wn ?_
              refine h_nil ?_
              refine l_nil (q_then_normal ?_)
              refine c_ret ?_
              refine q_block_ret (q_then_ret (q_ret (.inl rfl) [.v (.slice A1 S1.length c1), .v (.agg #[.int .i64 0, .int .i64 ((S1.getD k default).fence + 1), .string emp]), vI 0] rfl (fun bs w hS => ?_)))
              have hask0 : mAsk (S1.map CLock.abs) t who = 0 := by rw [hF1]; assumption
              rw [← hF1]
              have hq1 : (S1.getD k default).abs.holder = (S1.getD k default).holder := rfl
              have hq2 : (S1.getD k default).abs.fence = (S1.getD k default).fence := rfl
              have hq3 : (S1.getD k default).abs.line = (S1.getD k default).line.xs := rfl
              have hq4 : (S1.getD k default).abs.name = (S1.getD k default).name := rfl
              have hvx := setL_map hbL4
              have hlt : lTake (S1.getD k default).abs who wait = (((⟨(S1.getD k default).name, who, (S1.getD k default).fence + 1, (S1.getD k default).line⟩ : CLock)).abs, ⟨0, (S1.getD k default).fence + 1, emp⟩) := by
                unfold lTake
                simp only [hq1, hq2, hq3, hq4]
                repeat (first | rw [if_pos (by first | assumption | omega | exact .inl (by assumption) | exact .inr (by assumption))] | rw [if_neg (by first | assumption | omega | (rintro (h8 | h8) <;> simp_all; done))])
                all_goals rfl
              have hm : mTake (S1.map CLock.abs) t who wait = ((S1.map CLock.abs).set k ((⟨(S1.getD k default).name, who, (S1.getD k default).fence + 1, (S1.getD k default).line⟩ : CLock)).abs, ⟨0, (S1.getD k default).fence + 1, emp⟩, 0) := by
                unfold mTake lIdx
                simp only [hJ, Int.toNat_natCast, lgetD, List.length_map]
                rw [hlt]
                repeat (first | rw [if_pos (by first | assumption | omega)] | rw [if_neg (by first | assumption | omega | (intro h0; first | exact absurd h0 (by assumption) | (simp_all; done)))])
                all_goals rfl
              refine ⟨⟨A1, c1, L4⟩, ?_, ?_, hS.outS (y := (⟨A1, c1, L4⟩ : Sl CLock)) (out_locksG (.head _) hS.res (fun x hx => ?_))⟩
              · have hll : S1.length = L4.length := by rw [hbL4, List.length_set]
                rw [hm]
                exact congrArg (fun q => Ending.returned (.tuple #[.slice A1 q c1, .agg #[.int .i64 0, .int .i64 ((S1.getD k default).fence + 1), .string emp], .int .i64 0])) hll
              · exact Eq.trans hvx (congrArg Prod.fst hm).symm
              · rw [hbL4] at hx
                rcases mem_set hx with hx | hx
                · subst hx; exact ⟨hnm1 (S1.getD k default) (mem_of_getD (L := S1) (i := k) (by omega)), own_inL (x := (S1.getD k default)) (.tail _ (.head _)) hS.res (mem_of_getD (L := S1) (i := k) (by omega))⟩
                · exact ⟨hnm1 x hx, own_inL (.tail _ (.head _)) hS.res hx⟩
            | false =>
              have h6 := of_decide_eq_false h6
              exact absurd h4 h6
        | false =>
          have h4 := of_decide_eq_false h4
          refine JL_run 7 [] [66, 14, 0, 9, 2, 3] 1 ⟨[(66, vB false), (14, .v (.pointer (some ((oad A1).add (k * 4))))), (0, .v (.slice A1 S1.length c1)), (9, .p 0 0), (2, vI who), (3, vB wait)], [⟨26, [vI 0, vI 0, vS emp]⟩]⟩ [] [] (by kernel_rfl) on wn ?_
          refine l_nil (q_then_normal ?_)
          refine c_if false rfl ?_
          refine c_seq ?_
          refine c_region ?_
          refine JL_run 6 [(3, .ext [.int .i64 (S1.getD k default).holder])] [81, 14, 0, 9, 2, 3] 1 ⟨[(81, vB (decide ((S1.getD k default).holder = 0))), (14, .v (.pointer (some ((oad A1).add (k * 4))))), (0, .v (.slice A1 S1.length c1)), (9, .p 0 0), (2, vI who), (3, vB wait)], [⟨26, [vI 0, vI 0, vS emp]⟩]⟩ [] [(((oad A1).add (k * 4)).add 1, [.int .i64 (S1.getD k default).holder])] (by kernel_rfl) on (fun w hk hr => ⟨(rowA_fld (i := k) (hr _ (.tail _ (.head _))) (by omega) 1 1 rfl), trivial⟩) ?_
          refine l_nil (q_then_normal ?_)
          cases h7 : decide ((S1.getD k default).holder = 0) with
          | true =>
            have h7 := of_decide_eq_true h7
            exact absurd h7 h4
          | false =>
            have h7 := of_decide_eq_false h7
            refine c_if false rfl ?_
            refine c_seq ?_
            refine c_region ?_
            refine JL_run 3 [] [108, 14, 0, 9, 2] 1 ⟨[(108, vB (!wait)), (14, .v (.pointer (some ((oad A1).add (k * 4))))), (0, .v (.slice A1 S1.length c1)), (9, .p 0 0), (2, vI who)], [⟨26, [vI 0, vI 0, vS emp]⟩]⟩ [] [] (by kernel_rfl) on wn ?_
            cases h8 : wait with
            | true =>
              refine JL_run 5 [(3, .ext [.slice (S1.getD k default).line.A (S1.getD k default).line.n (S1.getD k default).line.c])] [113, 112, 108, 14, 0, 9, 2] 1 ⟨[(113, vI who), (112, .v (.slice (S1.getD k default).line.A (S1.getD k default).line.n (S1.getD k default).line.c)), (108, vB false), (14, .v (.pointer (some ((oad A1).add (k * 4))))), (0, .v (.slice A1 S1.length c1)), (9, .p 0 0), (2, vI who)], [⟨26, [vI 0, vI 0, vS emp]⟩]⟩ [] [(((oad A1).add (k * 4)).add 3, [.slice (S1.getD k default).line.A (S1.getD k default).line.n (S1.getD k default).line.c])] (by kernel_rfl) on (fun w hk hr => ⟨(rowA_fld (i := k) (hr _ (.tail _ (.head _))) (by omega) 3 1 rfl), trivial⟩) ?_
              refine l_pure 102 [] [.v (.slice (S1.getD k default).line.A (S1.getD k default).line.n (S1.getD k default).line.c), vI who] (.bool (((S1.getD k default).line.xs.take (S1.getD k default).line.n).any fun z => decide (z = who))) Try.call102 rfl rfl rfl rfl (fun bs w hS => has_ints (S1.getD k default).line (S1.getD k default).line.n who w (And.right (own_eltL (hS.res _ (.head _)) hnm1 (mem_of_getD (i := k) (by omega)))) (by omega)) ?_
              have hlh : (((S1.getD k default).line.xs.take (S1.getD k default).line.n).any fun z => decide (z = who)) = lHas (S1.getD k default).abs who := by rw [take_all (Nat.le_refl _)]; rfl
              rw [hlh]
              refine JL_run 2 [] [105, 14, 0, 9, 2] 1 ⟨[(105, vB (lHas (S1.getD k default).abs who)), (14, .v (.pointer (some ((oad A1).add (k * 4))))), (0, .v (.slice A1 S1.length c1)), (9, .p 0 0), (2, vI who)], [⟨26, [vI 0, vI 0, vS emp]⟩]⟩ [] [] (by kernel_rfl) on wn ?_
              refine l_nil (q_then_normal ?_)
              cases h9 : lHas (S1.getD k default).abs who with
              | true =>
                refine c_if true rfl ?_
                refine c_seq ?_
                refine c_draw 9 [] (.p 0 (.p 1 (.p 2 (.p 3 (.q 4 (.p 5 (.p 6 (.b 7 (.p 8 .nil) .z)))))))) [0] [ownL (lineR 3) S1, rowA 80 A1 c1 (S1 : List CLock)] Try_mixed (by kernel_rfl) (pq_then (pq_block (pq_then pq_body))) (List.Sublist.refl _) ?_
                refine h_quiet [(4, .ext [.int .i64 (S1.getD k default).holder])] [(0, true), (1, true), (2, true), (3, true), (4, false), (5, true), (6, true)] [(8, .v (.slice A1 S1.length c1)), (121, .v (.agg #[.int .i64 10, .int .i64 (S1.getD k default).holder, .string emp])), (120, vI (S1.getD k default).holder), (119, .v (.pointer (some (((oad A1).add (k * 4)).add 1)))), (118, .v (.pointer (some ((oad A1).add (k * 4))))), (117, .v (.pointer (some ((oad A1).add (k * 4))))), (116, .v (.slice A1 S1.length c1)), (105, vB true), (14, .v (.pointer (some ((oad A1).add (k * 4))))), (0, .v (.slice A1 S1.length c1)), (9, .p 0 0), (2, vI who)] [] [(((oad A1).add (k * 4)).add 1, [.int .i64 (S1.getD k default).holder])] rfl (by kernel_rfl) on (fun w hk hr => ⟨(rowA_fld (i := k) (hr _ (.tail _ (.head _))) (by omega) 1 1 rfl), trivial⟩) ?_
                refine h_local ⟨[(8, .v (.slice A1 S1.length c1)), (121, .v (.agg #[.int .i64 10, .int .i64 (S1.getD k default).holder, .string emp])), (120, vI (S1.getD k default).holder), (119, .v (.pointer (some (((oad A1).add (k * 4)).add 1)))), (118, .v (.pointer (some ((oad A1).add (k * 4))))), (117, .v (.pointer (some ((oad A1).add (k * 4))))), (116, .v (.slice A1 S1.length c1)), (105, vB true), (14, .v (.pointer (some ((oad A1).add (k * 4))))), (0, .v (.slice A1 S1.length c1)), (9, .p 0 0), (2, vI who)], [⟨26, [vI 10, vI (S1.getD k default).holder, vS emp]⟩]⟩ (by kernel_rfl) (fun bs0 bs w hp hl hS => hS.down hp hl rfl (le_mask le_nil) (List.Sublist.refl _)) ?_
                refine h_quiet [] [(8, true)] [(10, vI 0), (8, .v (.slice A1 S1.length c1)), (121, .v (.agg #[.int .i64 10, .int .i64 (S1.getD k default).holder, .string emp])), (120, vI (S1.getD k default).holder), (119, .v (.pointer (some (((oad A1).add (k * 4)).add 1)))), (118, .v (.pointer (some ((oad A1).add (k * 4))))), (117, .v (.pointer (some ((oad A1).add (k * 4))))), (116, .v (.slice A1 S1.length c1)), (105, vB true), (14, .v (.pointer (some ((oad A1).add (k * 4))))), (0, .v (.slice A1 S1.length c1)), (9, .p 0 0), (2, vI who)] [] [] rfl (by kernel_rfl) on wn ?_
                refine h_nil ?_
                refine l_nil (q_then_normal ?_)
                refine c_ret ?_
                refine q_block_ret (q_then_ret (q_ret (.inl rfl) [.v (.slice A1 S1.length c1), .v (.agg #[.int .i64 10, .int .i64 (S1.getD k default).holder, .string emp]), vI 0] rfl (fun bs w hS => ?_)))
                have hask0 : mAsk (S1.map CLock.abs) t who = 0 := by rw [hF1]; assumption
                rw [← hF1]
                have hq1 : (S1.getD k default).abs.holder = (S1.getD k default).holder := rfl
                have hq2 : (S1.getD k default).abs.fence = (S1.getD k default).fence := rfl
                have hq3 : (S1.getD k default).abs.line = (S1.getD k default).line.xs := rfl
                have hq4 : (S1.getD k default).abs.name = (S1.getD k default).name := rfl
                have hlt : lTake (S1.getD k default).abs who wait = ((S1.getD k default).abs, ⟨10, (S1.getD k default).holder, emp⟩) := by
                  unfold lTake
                  simp only [hq1, hq2, hq3, hq4]
                  repeat (first | rw [if_pos (by first | assumption | omega | exact .inl (by assumption) | exact .inr (by assumption))] | rw [if_neg (by first | assumption | omega | (rintro (h8 | h8) <;> simp_all; done))])
                  all_goals rfl
                have hm : mTake (S1.map CLock.abs) t who wait = (S1.map CLock.abs, ⟨10, (S1.getD k default).holder, emp⟩, 0) := by
                  unfold mTake lIdx
                  simp only [hJ, Int.toNat_natCast, lgetD, List.length_map]
                  rw [hlt]
                  repeat (first | rw [if_pos (by first | assumption | omega)] | rw [if_neg (by first | assumption | omega | (intro h0; first | exact absurd h0 (by assumption) | (simp_all; done)))])
                  all_goals (show ((S1.map CLock.abs).set k (S1.getD k default).abs, _, _) = _; rw [← lgetD, set_getD (by rw [List.length_map]; omega)])
                rw [h8] at hm
                refine ⟨⟨A1, c1, S1⟩, ?_, ?_, hS.outS (y := (⟨A1, c1, S1⟩ : Sl CLock)) (out_locksG (.tail _ (.head _)) hS.res (fun x hx => ?_))⟩
                · rw [hm] <;> rfl
                · exact (congrArg Prod.fst hm).symm
                · exact ⟨hnm1 x hx, own_inL (.head _) hS.res hx⟩
              | false =>
                refine c_if false rfl ?_
                refine c_seq ?_
                refine c_region ?_
                refine JL_run 7 [(3, .ext [.slice (S1.getD k default).line.A (S1.getD k default).line.n (S1.getD k default).line.c])] [122, 14, 0, 9, 2] 1 ⟨[(122, vB (decide ((((S1.getD k default).line.n : Nat) : Int) = 3))), (14, .v (.pointer (some ((oad A1).add (k * 4))))), (0, .v (.slice A1 S1.length c1)), (9, .p 0 0), (2, vI who)], [⟨26, [vI 0, vI 0, vS emp]⟩]⟩ [] [(((oad A1).add (k * 4)).add 3, [.slice (S1.getD k default).line.A (S1.getD k default).line.n (S1.getD k default).line.c])] (by kernel_rfl) on (fun w hk hr => ⟨(rowA_fld (i := k) (hr _ (.tail _ (.head _))) (by omega) 3 1 rfl), trivial⟩) ?_
                refine l_nil (q_then_normal ?_)
                cases h10 : decide ((((S1.getD k default).line.n : Nat) : Int) = 3) with
                | true =>
                  have h10 := of_decide_eq_true h10
                  refine c_if true rfl ?_
                  refine c_seq ?_
                  refine c_region ?_
                  refine JL_run 5 [] [10, 8, 9] 1 ⟨[(10, vI 0), (8, .v (.slice A1 S1.length c1)), (9, .p 0 0)], [⟨26, [vI 8, vI 0, vS emp]⟩]⟩ [] [] (by kernel_rfl) on wn ?_
                  refine l_nil (q_then_normal ?_)
                  refine c_ret ?_
                  refine q_block_ret (q_then_ret (q_ret (.inl rfl) [.v (.slice A1 S1.length c1), .v (.agg #[.int .i64 8, .int .i64 0, .string emp]), vI 0] rfl (fun bs w hS => ?_)))
                  have hask0 : mAsk (S1.map CLock.abs) t who = 0 := by rw [hF1]; assumption
                  rw [← hF1]
                  have hq1 : (S1.getD k default).abs.holder = (S1.getD k default).holder := rfl
                  have hq2 : (S1.getD k default).abs.fence = (S1.getD k default).fence := rfl
                  have hq3 : (S1.getD k default).abs.line = (S1.getD k default).line.xs := rfl
                  have hq4 : (S1.getD k default).abs.name = (S1.getD k default).name := rfl
                  have hlt : lTake (S1.getD k default).abs who wait = ((S1.getD k default).abs, ⟨8, 0, emp⟩) := by
                    unfold lTake
                    simp only [hq1, hq2, hq3, hq4]
                    repeat (first | rw [if_pos (by first | assumption | omega | exact .inl (by assumption) | exact .inr (by assumption))] | rw [if_neg (by first | assumption | omega | (rintro (h8 | h8) <;> simp_all; done))])
                    all_goals rfl
                  have hm : mTake (S1.map CLock.abs) t who wait = (S1.map CLock.abs, ⟨8, 0, emp⟩, 0) := by
                    unfold mTake lIdx
                    simp only [hJ, Int.toNat_natCast, lgetD, List.length_map]
                    rw [hlt]
                    repeat (first | rw [if_pos (by first | assumption | omega)] | rw [if_neg (by first | assumption | omega | (intro h0; first | exact absurd h0 (by assumption) | (simp_all; done)))])
                    all_goals (show ((S1.map CLock.abs).set k (S1.getD k default).abs, _, _) = _; rw [← lgetD, set_getD (by rw [List.length_map]; omega)])
                  rw [h8] at hm
                  refine ⟨⟨A1, c1, S1⟩, ?_, ?_, hS.outS (y := (⟨A1, c1, S1⟩ : Sl CLock)) (out_locksG (.tail _ (.head _)) hS.res (fun x hx => ?_))⟩
                  · rw [hm] <;> rfl
                  · exact (congrArg Prod.fst hm).symm
                  · exact ⟨hnm1 x hx, own_inL (.head _) hS.res hx⟩
                | false =>
                  have h10 := of_decide_eq_false h10
                  refine c_if false rfl ?_
                  refine c_skip ?_
                  refine q_block_normal (q_then_normal ?_)
                  refine c_seq ?_
                  refine c_part2 (rowA 3 (S1.getD k default).line.A (S1.getD k default).line.c ((S1.getD k default).line.xs : List Int)) (ownL (lineR 3) (List.eraseIdx S1 k)) (ownL_get_fp (lineR 3) (i := k) (by omega)) (fun w h => ownL_get_p (lineR 3) (i := k) (by omega) w h) ?_
                  refine c_region ?_
                  refine JL_run 7 [(4, .ext [.slice (S1.getD k default).line.A (S1.getD k default).line.n (S1.getD k default).line.c])] [137, 135, 131, 14, 0, 9] 2 ⟨[(137, .s 1 0 1 1), (135, .v (.slice (S1.getD k default).line.A (S1.getD k default).line.n (S1.getD k default).line.c)), (131, .v (.pointer (some ((oad A1).add (k * 4))))), (14, .v (.pointer (some ((oad A1).add (k * 4))))), (0, .v (.slice A1 S1.length c1)), (9, .p 0 0)], [⟨26, [vI 0, vI 0, vS emp]⟩, ⟨3, [vI who]⟩]⟩ [] [(((oad A1).add (k * 4)).add 3, [.slice (S1.getD k default).line.A (S1.getD k default).line.n (S1.getD k default).line.c])] (by kernel_rfl) on (fun w hk hr => ⟨(rowA_fld (i := k) (hr _ (.tail _ (.tail _ (.head _)))) (by omega) 3 1 rfl), trivial⟩) ?_
                  refine l_appendA (α := Int) 3 8 (S1.getD k default).line.A (S1.getD k default).line.c ((S1.getD k default).line.xs) (.s 1 0 1 1) ([who]) Try.underlying78 (by kernel_rfl) rfl rfl rfl (fun bs w hS => by obtain ⟨q1, q2, q3, q4⟩ := src_loc (i := 1) (off := 0) (k := 1) (c := 1) (q := 1) (vs := [.int .i64 who]) hS rfl rfl; exact ⟨some q1, q2, q3, q4⟩) (by first | omega | (simp only [List.length_append, List.length_nil, List.length_cons]; omega)) (by first | omega | (simp only [List.length_append, List.length_nil, List.length_cons]; omega)) ?_
                  intro A5 c5
                  refine JL_run 2 [] [140, 138, 14, 0, 9] 1 ⟨[(140, .v (.pointer (some (((oad A1).add (k * 4)).add 3)))), (138, .v (.slice A5 ((S1.getD k default).line.xs ++ [who]).length c5)), (14, .v (.pointer (some ((oad A1).add (k * 4))))), (0, .v (.slice A1 S1.length c1)), (9, .p 0 0)], [⟨26, [vI 0, vI 0, vS emp]⟩]⟩ [] [] (by kernel_rfl) on wn ?_
                  refine l_perm (R' := [rowA 80 A1 c1 (S1 : List CLock), rowA 3 A5 c5 ((S1.getD k default).line.xs ++ [who] : List Int), ownL (lineR 3) (List.eraseIdx S1 k)]) (permfront 2 rfl) ?_
                  refine l_storeA (α := CLock) 80 A1 c1 S1 k 3 (((oad A1).add (k * 4)).add 3) (.v (.slice A5 ((S1.getD k default).line.xs ++ [who]).length c5)) [.v (.slice A5 ((S1.getD k default).line.xs ++ [who]).length c5)] [.slice A5 ((S1.getD k default).line.xs ++ [who]).length c5] (⟨(S1.getD k default).name, (S1.getD k default).holder, (S1.getD k default).fence, ⟨A5, c5, (S1.getD k default).line.xs ++ [who]⟩⟩ : CLock) rfl rfl rfl rfl rfl (by kernel_rfl) (by kernel_rfl) rfl (by omega) (by kernel_rfl) rfl rfl rfl ?_
                  intro L6 hL6 hlL6
                  have hgL6 : L6.getD k default = (⟨(S1.getD k default).name, (S1.getD k default).holder, (S1.getD k default).fence, ⟨A5, c5, (S1.getD k default).line.xs ++ [who]⟩⟩ : CLock) := by rw [hL6]; exact getD_set (by omega)
                  have hbL6 : L6 = List.set S1 k (⟨(S1.getD k default).name, (S1.getD k default).holder, (S1.getD k default).fence, ⟨A5, c5, (S1.getD k default).line.xs ++ [who]⟩⟩ : CLock) := by rw [hL6]
                  refine l_nil (q_then_normal ?_)
                  refine c_seq ?_
                  refine c_draw 9 [] (.p 0 (.p 1 (.p 2 (.p 3 (.q 4 (.p 5 (.p 6 (.b 7 (.p 8 .nil) .z)))))))) [0] [rowA 80 A1 c1 (L6 : List CLock), rowA 3 A5 c5 ((S1.getD k default).line.xs ++ [who] : List Int), ownL (lineR 3) (List.eraseIdx S1 k)] Try_mixed (by kernel_rfl) (pq_then pq_body) (List.Sublist.refl _) ?_
                  refine h_quiet [(4, .ext [.int .i64 (S1.getD k default).holder])] [(0, true), (1, true), (2, true), (3, true), (4, false), (5, true), (6, true)] [(8, .v (.slice A1 S1.length c1)), (146, .v (.agg #[.int .i64 10, .int .i64 (S1.getD k default).holder, .string emp])), (145, vI (S1.getD k default).holder), (144, .v (.pointer (some (((oad A1).add (k * 4)).add 1)))), (143, .v (.pointer (some ((oad A1).add (k * 4))))), (142, .v (.pointer (some ((oad A1).add (k * 4))))), (141, .v (.slice A1 S1.length c1)), (140, .v (.pointer (some (((oad A1).add (k * 4)).add 3)))), (138, .v (.slice A5 ((S1.getD k default).line.xs ++ [who]).length c5)), (14, .v (.pointer (some ((oad A1).add (k * 4))))), (0, .v (.slice A1 S1.length c1)), (9, .p 0 0)] [] [(((oad A1).add (k * 4)).add 1, [.int .i64 (S1.getD k default).holder])] rfl (by kernel_rfl) on (fun w hk hr => ⟨(rowA_fld (i := k) (hr _ (.head _)) (by omega) 1 1 (by rw [hgL6]; rfl)), trivial⟩) ?_
                  refine h_local ⟨[(8, .v (.slice A1 S1.length c1)), (146, .v (.agg #[.int .i64 10, .int .i64 (S1.getD k default).holder, .string emp])), (145, vI (S1.getD k default).holder), (144, .v (.pointer (some (((oad A1).add (k * 4)).add 1)))), (143, .v (.pointer (some ((oad A1).add (k * 4))))), (142, .v (.pointer (some ((oad A1).add (k * 4))))), (141, .v (.slice A1 S1.length c1)), (140, .v (.pointer (some (((oad A1).add (k * 4)).add 3)))), (138, .v (.slice A5 ((S1.getD k default).line.xs ++ [who]).length c5)), (14, .v (.pointer (some ((oad A1).add (k * 4))))), (0, .v (.slice A1 S1.length c1)), (9, .p 0 0)], [⟨26, [vI 10, vI (S1.getD k default).holder, vS emp]⟩]⟩ (by kernel_rfl) (fun bs0 bs w hp hl hS => hS.down hp hl rfl (le_mask le_nil) (List.Sublist.refl _)) ?_
                  refine h_quiet [] [(8, true)] [(10, vI 0), (8, .v (.slice A1 S1.length c1)), (146, .v (.agg #[.int .i64 10, .int .i64 (S1.getD k default).holder, .string emp])), (145, vI (S1.getD k default).holder), (144, .v (.pointer (some (((oad A1).add (k * 4)).add 1)))), (143, .v (.pointer (some ((oad A1).add (k * 4))))), (142, .v (.pointer (some ((oad A1).add (k * 4))))), (141, .v (.slice A1 S1.length c1)), (140, .v (.pointer (some (((oad A1).add (k * 4)).add 3)))), (138, .v (.slice A5 ((S1.getD k default).line.xs ++ [who]).length c5)), (14, .v (.pointer (some ((oad A1).add (k * 4))))), (0, .v (.slice A1 S1.length c1)), (9, .p 0 0)] [] [] rfl (by kernel_rfl) on wn ?_
                  refine h_nil ?_
                  refine l_nil (q_then_normal ?_)
                  refine c_ret ?_
                  refine q_ret (.inl rfl) [.v (.slice A1 S1.length c1), .v (.agg #[.int .i64 10, .int .i64 (S1.getD k default).holder, .string emp]), vI 0] rfl (fun bs w hS => ?_)
                  have hask0 : mAsk (S1.map CLock.abs) t who = 0 := by rw [hF1]; assumption
                  rw [← hF1]
                  have hq1 : (S1.getD k default).abs.holder = (S1.getD k default).holder := rfl
                  have hq2 : (S1.getD k default).abs.fence = (S1.getD k default).fence := rfl
                  have hq3 : (S1.getD k default).abs.line = (S1.getD k default).line.xs := rfl
                  have hq4 : (S1.getD k default).abs.name = (S1.getD k default).name := rfl
                  have hvx := setL_map hbL6
                  have hlt : lTake (S1.getD k default).abs who wait = (((⟨(S1.getD k default).name, (S1.getD k default).holder, (S1.getD k default).fence, ⟨A5, c5, (S1.getD k default).line.xs ++ [who]⟩⟩ : CLock)).abs, ⟨10, (S1.getD k default).holder, emp⟩) := by
                    unfold lTake
                    simp only [hq1, hq2, hq3, hq4]
                    repeat (first | rw [if_pos (by first | assumption | omega | exact .inl (by assumption) | exact .inr (by assumption))] | rw [if_neg (by first | assumption | omega | (rintro (h8 | h8) <;> simp_all; done))])
                    all_goals rfl
                  have hm : mTake (S1.map CLock.abs) t who wait = ((S1.map CLock.abs).set k ((⟨(S1.getD k default).name, (S1.getD k default).holder, (S1.getD k default).fence, ⟨A5, c5, (S1.getD k default).line.xs ++ [who]⟩⟩ : CLock)).abs, ⟨10, (S1.getD k default).holder, emp⟩, 0) := by
                    unfold mTake lIdx
                    simp only [hJ, Int.toNat_natCast, lgetD, List.length_map]
                    rw [hlt]
                    repeat (first | rw [if_pos (by first | assumption | omega)] | rw [if_neg (by first | assumption | omega | (intro h0; first | exact absurd h0 (by assumption) | (simp_all; done)))])
                    all_goals rfl
                  rw [h8] at hm
                  refine ⟨⟨A1, c1, L6⟩, ?_, ?_, hS.outS (y := (⟨A1, c1, L6⟩ : Sl CLock)) (out_locksG (.head _) hS.res (fun x hx => ?_))⟩
                  · have hll : S1.length = L6.length := by rw [hbL6, List.length_set]
                    rw [hm]
                    exact congrArg (fun q => Ending.returned (.tuple #[.slice A1 q c1, .agg #[.int .i64 10, .int .i64 (S1.getD k default).holder, .string emp], .int .i64 0])) hll
                  · exact Eq.trans hvx (congrArg Prod.fst hm).symm
                  · rw [hbL6] at hx
                    rcases mem_set_ne hx with hx | hx
                    · subst hx; exact ⟨hnm1 (S1.getD k default) (mem_of_getD (L := S1) (i := k) (by omega)), allR_row (.tail _ (.head _)) (hS.res _ (.tail _ (.head _))) (fun _ _ => trivial)⟩
                    · exact ⟨hnm1 x (List.mem_of_mem_eraseIdx hx), own_inL (.tail _ (.tail _ (.head _))) hS.res hx⟩
            | false =>
              refine JL_run 8 [] [105, 14, 0, 9, 2] 1 ⟨[(105, vB true), (14, .v (.pointer (some ((oad A1).add (k * 4))))), (0, .v (.slice A1 S1.length c1)), (9, .p 0 0), (2, vI who)], [⟨26, [vI 0, vI 0, vS emp]⟩]⟩ [] [] (by kernel_rfl) on wn ?_
              refine l_nil (q_then_normal ?_)
              refine c_if true rfl ?_
              refine c_seq ?_
              refine c_draw 9 [] (.p 0 (.p 1 (.p 2 (.p 3 (.q 4 (.p 5 (.p 6 (.b 7 (.p 8 .nil) .z)))))))) [0] [ownL (lineR 3) S1, rowA 80 A1 c1 (S1 : List CLock)] Try_mixed (by kernel_rfl) (pq_then (pq_block (pq_then pq_body))) (List.Sublist.refl _) ?_
              refine h_quiet [(4, .ext [.int .i64 (S1.getD k default).holder])] [(0, true), (1, true), (2, true), (3, true), (4, false), (5, true), (6, true)] [(8, .v (.slice A1 S1.length c1)), (121, .v (.agg #[.int .i64 10, .int .i64 (S1.getD k default).holder, .string emp])), (120, vI (S1.getD k default).holder), (119, .v (.pointer (some (((oad A1).add (k * 4)).add 1)))), (118, .v (.pointer (some ((oad A1).add (k * 4))))), (117, .v (.pointer (some ((oad A1).add (k * 4))))), (116, .v (.slice A1 S1.length c1)), (105, vB true), (14, .v (.pointer (some ((oad A1).add (k * 4))))), (0, .v (.slice A1 S1.length c1)), (9, .p 0 0), (2, vI who)] [] [(((oad A1).add (k * 4)).add 1, [.int .i64 (S1.getD k default).holder])] rfl (by kernel_rfl) on (fun w hk hr => ⟨(rowA_fld (i := k) (hr _ (.tail _ (.head _))) (by omega) 1 1 rfl), trivial⟩) ?_
              refine h_local ⟨[(8, .v (.slice A1 S1.length c1)), (121, .v (.agg #[.int .i64 10, .int .i64 (S1.getD k default).holder, .string emp])), (120, vI (S1.getD k default).holder), (119, .v (.pointer (some (((oad A1).add (k * 4)).add 1)))), (118, .v (.pointer (some ((oad A1).add (k * 4))))), (117, .v (.pointer (some ((oad A1).add (k * 4))))), (116, .v (.slice A1 S1.length c1)), (105, vB true), (14, .v (.pointer (some ((oad A1).add (k * 4))))), (0, .v (.slice A1 S1.length c1)), (9, .p 0 0), (2, vI who)], [⟨26, [vI 10, vI (S1.getD k default).holder, vS emp]⟩]⟩ (by kernel_rfl) (fun bs0 bs w hp hl hS => hS.down hp hl rfl (le_mask le_nil) (List.Sublist.refl _)) ?_
              refine h_quiet [] [(8, true)] [(10, vI 0), (8, .v (.slice A1 S1.length c1)), (121, .v (.agg #[.int .i64 10, .int .i64 (S1.getD k default).holder, .string emp])), (120, vI (S1.getD k default).holder), (119, .v (.pointer (some (((oad A1).add (k * 4)).add 1)))), (118, .v (.pointer (some ((oad A1).add (k * 4))))), (117, .v (.pointer (some ((oad A1).add (k * 4))))), (116, .v (.slice A1 S1.length c1)), (105, vB true), (14, .v (.pointer (some ((oad A1).add (k * 4))))), (0, .v (.slice A1 S1.length c1)), (9, .p 0 0), (2, vI who)] [] [] rfl (by kernel_rfl) on wn ?_
              refine h_nil ?_
              refine l_nil (q_then_normal ?_)
              refine c_ret ?_
              refine q_block_ret (q_then_ret (q_ret (.inl rfl) [.v (.slice A1 S1.length c1), .v (.agg #[.int .i64 10, .int .i64 (S1.getD k default).holder, .string emp]), vI 0] rfl (fun bs w hS => ?_)))
              have hask0 : mAsk (S1.map CLock.abs) t who = 0 := by rw [hF1]; assumption
              rw [← hF1]
              have hq1 : (S1.getD k default).abs.holder = (S1.getD k default).holder := rfl
              have hq2 : (S1.getD k default).abs.fence = (S1.getD k default).fence := rfl
              have hq3 : (S1.getD k default).abs.line = (S1.getD k default).line.xs := rfl
              have hq4 : (S1.getD k default).abs.name = (S1.getD k default).name := rfl
              have hlt : lTake (S1.getD k default).abs who wait = ((S1.getD k default).abs, ⟨10, (S1.getD k default).holder, emp⟩) := by
                unfold lTake
                simp only [hq1, hq2, hq3, hq4]
                repeat (first | rw [if_pos (by first | assumption | omega | exact .inl (by assumption) | exact .inr (by assumption))] | rw [if_neg (by first | assumption | omega | (rintro (h8 | h8) <;> simp_all; done))])
                all_goals rfl
              have hm : mTake (S1.map CLock.abs) t who wait = (S1.map CLock.abs, ⟨10, (S1.getD k default).holder, emp⟩, 0) := by
                unfold mTake lIdx
                simp only [hJ, Int.toNat_natCast, lgetD, List.length_map]
                rw [hlt]
                repeat (first | rw [if_pos (by first | assumption | omega)] | rw [if_neg (by first | assumption | omega | (intro h0; first | exact absurd h0 (by assumption) | (simp_all; done)))])
                all_goals (show ((S1.map CLock.abs).set k (S1.getD k default).abs, _, _) = _; rw [← lgetD, set_getD (by rw [List.length_map]; omega)])
              rw [h8] at hm
              refine ⟨⟨A1, c1, S1⟩, ?_, ?_, hS.outS (y := (⟨A1, c1, S1⟩ : Sl CLock)) (out_locksG (.tail _ (.head _)) hS.res (fun x hx => ?_))⟩
              · rw [hm] <;> rfl
              · exact (congrArg Prod.fst hm).symm
              · exact ⟨hnm1 x hx, own_inL (.head _) hS.res hx⟩
    | false =>
      have h0J := of_decide_eq_false (hbs.1.symm.trans h2)
      refine JL_run 5 [] [29, 12, 11, 0, 9, 1, 2, 3] 1 ⟨[(29, vB (decide (((S1.length : Nat) : Int) = 5))), (12, vB false), (11, vI ((k : Nat) : Int)), (0, .v (.slice A1 S1.length c1)), (9, .p 0 0), (1, vS t), (2, vI who), (3, vB wait)], [⟨26, [vI 0, vI 0, vS emp]⟩]⟩ [] [] (by kernel_rfl) on wn ?_
      refine l_nil (q_then_normal ?_)
      cases h11 : decide (((S1.length : Nat) : Int) = 5) with
      | true =>
        have h11 := of_decide_eq_true h11
        refine c_if true rfl ?_
        refine c_seq ?_
        refine c_region ?_
        refine JL_run 5 [] [10, 8, 9] 1 ⟨[(10, vI 0), (8, .v (.slice A1 S1.length c1)), (9, .p 0 0)], [⟨26, [vI 8, vI 0, vS emp]⟩]⟩ [] [] (by kernel_rfl) on wn ?_
        refine l_nil (q_then_normal ?_)
        refine c_ret ?_
        refine q_block_ret (q_then_ret (q_ret (.inl rfl) [.v (.slice A1 S1.length c1), .v (.agg #[.int .i64 8, .int .i64 0, .string emp]), vI 0] rfl (fun bs w hS => ?_)))
        have hask0 : mAsk (S1.map CLock.abs) t who = 0 := by rw [hF1]; assumption
        rw [← hF1]
        have hq1 : (S1.getD k default).abs.holder = (S1.getD k default).holder := rfl
        have hq2 : (S1.getD k default).abs.fence = (S1.getD k default).fence := rfl
        have hq3 : (S1.getD k default).abs.line = (S1.getD k default).line.xs := rfl
        have hq4 : (S1.getD k default).abs.name = (S1.getD k default).name := rfl
        have hm : mTake (S1.map CLock.abs) t who wait = (S1.map CLock.abs, ⟨8, 0, emp⟩, 0) := by
          unfold mTake lIdx
          simp only [hJ, Int.toNat_natCast, lgetD, List.length_map]
          repeat (first | rw [if_pos (by first | assumption | omega)] | rw [if_neg (by first | assumption | omega | (intro h0; first | exact absurd h0 (by assumption) | (simp_all; done)))])
          all_goals rfl
        refine ⟨⟨A1, c1, S1⟩, ?_, ?_, hS.outS (y := (⟨A1, c1, S1⟩ : Sl CLock)) (out_locksG (.tail _ (.head _)) hS.res (fun x hx => ?_))⟩
        · rw [hm] <;> rfl
        · exact (congrArg Prod.fst hm).symm
        · exact ⟨hnm1 x hx, own_inL (.head _) hS.res hx⟩
      | false =>
        have h11 := of_decide_eq_false h11
        refine c_if false rfl ?_
        refine c_seq ?_
        refine c_region ?_
        refine JL_run 3 [] [39, 11, 0, 9, 1, 2, 3] 1 ⟨[(39, vB true), (11, vI ((k : Nat) : Int)), (0, .v (.slice A1 S1.length c1)), (9, .p 0 0), (1, vS t), (2, vI who), (3, vB wait)], [⟨26, [vI 0, vI 0, vS emp]⟩]⟩ [] [] (by kernel_rfl) on wn ?_
        refine l_nil (q_then_normal ?_)
        refine c_if true rfl ?_
        refine c_seq ?_
        refine c_region ?_
        refine JL_run 6 [] [47, 43, 42, 9] 2 ⟨[(47, .s 1 0 1 1), (43, vI ((k : Nat) : Int)), (42, .v (.slice A1 S1.length c1)), (9, .p 0 0)], [⟨26, [vI 0, vI 0, vS emp]⟩, ⟨80, [vS t, vI who, vI 1, .v (.slice none 0 0)]⟩]⟩ [] [] (by kernel_rfl) on wn ?_
        refine l_perm (R' := [rowA 80 A1 c1 (S1 : List CLock), ownL (lineR 3) S1]) (permfront 1 rfl) ?_
        refine l_turn (σ := Option Addr × Nat) 101 [] [.v (.slice A1 S1.length c1), vI ((k : Nat) : Int), .s 1 0 1 1] (fun q7 => .slice q7.1 (S1.take k ++ [(⟨t, who, 1, Sl.nil⟩ : CLock)] ++ S1.drop k).length q7.2) (fun q7 => True) (fun q7 => rowA 80 q7.1 q7.2 (S1.take k ++ [(⟨t, who, 1, Sl.nil⟩ : CLock)] ++ S1.drop k : List CLock)) Try.call101 rfl rfl rfl rfl (fun bs w hS => (insR_Lock A1 c1 S1 k _ (⟨t, who, 1, Sl.nil⟩ : CLock) (bs.getD 1 0) 80 w (hS.res _ (.head _)) hS.head1.2.2 rfl (by omega) (by omega) (hS.loc 1 ⟨80, [vS t, vI who, vI 1, .v (.slice none 0 0)]⟩ rfl (by simp)) (hS.ne_head (i := 1) (b := ⟨80, [vS t, vI who, vI 1, .v (.slice none 0 0)]⟩) rfl)).mono (fun e w' ⟨y, h1, h2⟩ => ⟨y, h1, trivial, h2⟩)) ?_
        rintro q7 _
        refine JL_run 4 [] [10, 8, 9] 1 ⟨[(10, vI 0), (8, .v (.slice q7.1 (S1.take k ++ [(⟨t, who, 1, Sl.nil⟩ : CLock)] ++ S1.drop k).length q7.2)), (9, .p 0 0)], [⟨26, [vI 0, vI 1, vS emp]⟩]⟩ [] [] (by kernel_rfl) on wn ?_
        refine l_nil (q_then_normal ?_)
        refine c_ret ?_
        refine q_block_ret (q_then_ret (q_ret (.inl rfl) [.v (.slice q7.1 (S1.take k ++ [(⟨t, who, 1, Sl.nil⟩ : CLock)] ++ S1.drop k).length q7.2), .v (.agg #[.int .i64 0, .int .i64 1, .string emp]), vI 0] rfl (fun bs w hS => ?_)))
        have hask0 : mAsk (S1.map CLock.abs) t who = 0 := by rw [hF1]; assumption
        rw [← hF1]
        have hq1 : (S1.getD k default).abs.holder = (S1.getD k default).holder := rfl
        have hq2 : (S1.getD k default).abs.fence = (S1.getD k default).fence := rfl
        have hq3 : (S1.getD k default).abs.line = (S1.getD k default).line.xs := rfl
        have hq4 : (S1.getD k default).abs.name = (S1.getD k default).name := rfl
        have hvy : S1.take k ++ [(⟨t, who, 1, Sl.nil⟩ : CLock)] ++ S1.drop k = mIns (fun x : CLock => Op.bytesLess t.toList x.name.toList) (⟨t, who, 1, Sl.nil⟩ : CLock) S1 := ins_at ((ins_lock hm1 (by rw [hJ]; omega)).trans hk)
        have hvx := insL_map hvy
        have hm : mTake (S1.map CLock.abs) t who wait = (mIns (fun x : DLock => Op.bytesLess t.toList x.name.toList) ⟨t, who, 1, []⟩ (S1.map CLock.abs), ⟨0, 1, emp⟩, 0) := by
          unfold mTake lIdx
          simp only [hJ, Int.toNat_natCast, lgetD, List.length_map]
          repeat (first | rw [if_pos (by first | assumption | omega)] | rw [if_neg (by first | assumption | omega | (intro h0; first | exact absurd h0 (by assumption) | (simp_all; done)))])
          all_goals rfl
        refine ⟨⟨q7.1, q7.2, S1.take k ++ [(⟨t, who, 1, Sl.nil⟩ : CLock)] ++ S1.drop k⟩, ?_, ?_, hS.outS (y := (⟨q7.1, q7.2, S1.take k ++ [(⟨t, who, 1, Sl.nil⟩ : CLock)] ++ S1.drop k⟩ : Sl CLock)) (out_locksG (.head _) hS.res (fun x hx => ?_))⟩
        · rw [hm] <;> rfl
        · exact Eq.trans hvx (congrArg Prod.fst hm).symm
        · rw [hvy] at hx
          rcases ins_mem hx with hx | hx
          · subst hx; exact ⟨ht, Sl.rd_nil _ _⟩
          · exact ⟨hnm1 x hx, own_inL (.tail _ (.head _)) hS.res hx⟩
  | false =>
    have h1 := of_decide_eq_false h1
    refine l_pure 50 [] [.v (.slice s.A s.n s.c), vS t, vI who] (.tuple #[.slice none 0 0, .int .i64 0, .bool false, .int .i64 (mAsk (s.xs.map CLock.abs) t who)]) Try.call50 rfl rfl rfl rfl (fun bs w hS => (lock_begin s t who w (Sl.rd.kp hs hS.kp) (by first | assumption | omega | (simp only [emp_size]; omega))).mono (fun e w' h => (h.resolve_right (fun h9 => h1 h9.1)).2)) ?_
    refine JL_run 9 [] [13, 12, 11, 0, 9, 1, 2, 3] 1 ⟨[(13, vI (mAsk (s.xs.map CLock.abs) t who)), (12, vB false), (11, vI 0), (0, .v (.slice none 0 0)), (9, .p 0 0), (1, vS t), (2, vI who), (3, vB wait)], [⟨26, [vI 0, vI 0, vS emp]⟩]⟩ [] [] (by kernel_rfl) on wn ?_
    refine l_nil (q_then_normal ?_)
    refine c_seq ?_
    refine c_block ?_
    refine c_seq ?_
    refine c_region ?_
    refine JL_run 3 [] [24, 13, 12, 11, 0, 9, 1, 2, 3] 1 ⟨[(24, vB (!(decide (mAsk (s.xs.map CLock.abs) t who = 0)))), (13, vI (mAsk (s.xs.map CLock.abs) t who)), (12, vB false), (11, vI 0), (0, .v (.slice none 0 0)), (9, .p 0 0), (1, vS t), (2, vI who), (3, vB wait)], [⟨26, [vI 0, vI 0, vS emp]⟩]⟩ [] [] (by kernel_rfl) on wn ?_
    refine l_nil (q_then_normal ?_)
    cases h12 : decide (mAsk (s.xs.map CLock.abs) t who = 0) with
    | true =>
      have h12 := of_decide_eq_true h12
      exact absurd h12 h1
    | false =>
      have h12 := of_decide_eq_false h12
      refine c_if true rfl ?_
      refine c_seq ?_
      refine c_region ?_
      refine JL_run 5 [] [10, 8, 9] 1 ⟨[(10, vI (mAsk (s.xs.map CLock.abs) t who)), (8, .v (.slice none 0 0)), (9, .p 0 0)], [⟨26, [vI 0, vI 0, vS emp]⟩]⟩ [] [] (by kernel_rfl) on wn ?_
      refine l_nil (q_then_normal ?_)
      refine c_ret ?_
      refine q_block_ret (q_then_ret (q_ret (.inl rfl) [.v (.slice none 0 0), .v (.agg #[.int .i64 0, .int .i64 0, .string emp]), vI (mAsk (s.xs.map CLock.abs) t who)] rfl (fun bs w hS => ?_)))
      have hm : mTake (s.xs.map CLock.abs) t who wait = ([], zRep, mAsk (s.xs.map CLock.abs) t who) := by
        unfold mTake
        repeat (first | rw [if_pos (by first | assumption | omega)] | rw [if_neg (by first | assumption | omega | (intro h0; first | exact absurd h0 (by assumption) | (simp_all; done)))])
        all_goals rfl
      refine ⟨Sl.nil, ?_, ?_, hS.outS (Sl.rd_nil _ _)⟩
      · rw [hm] <;> rfl
      · rw [hm] <;> rfl

theorem ref_TakenOf {B : Nat → Prop} (s : Sl CLock) (t : ByteArray) (who : Int) (wait : Bool) (w : World) (hs : s.rd B w) (ht : t.size ≤ 9223372036854775807) : Calls Try.prog 43 #[.slice s.A s.n s.c, .string t, .int .i64 who, .bool wait] w fun e w' => ∃ y : Sl CLock, e = .returned (.tuple #[.slice y.A y.n y.c, .agg #[.int .i64 ((mTake (s.xs.map CLock.abs) t who wait).2.1).code, .int .i64 ((mTake (s.xs.map CLock.abs) t who wait).2.1).n, .string ((mTake (s.xs.map CLock.abs) t who wait).2.1).text], .int .i64 ((mTake (s.xs.map CLock.abs) t who wait).2.2)]) ∧ y.xs.map CLock.abs = (mTake (s.xs.map CLock.abs) t who wait).1 ∧ FreshS w w' y := by
  have oks := Sl.rd.ok hs
  have ncs := Sl.ok.nc oks
  have hns : s.n = s.xs.length := rfl
  refine calls_J0 122 Try.func43 rfl rfl [.slice s.A s.n s.c, .string t, .int .i64 who, .bool wait] rfl ?_
  refine c_seq ?_
  refine c_region ?_
  refine JL_run 3 [] [9, 0, 1, 2, 3] 1 ⟨[(9, .p 0 0), (0, .v (.slice s.A s.n s.c)), (1, vS t), (2, vI who), (3, vB wait)], [⟨26, [vI 0, vI 0, vS emp]⟩]⟩ [] [] (by kernel_rfl) on wn ?_
  refine l_nil (q_then_normal ?_)
  refine c_seq ?_
  refine c_region ?_
  refine JL_run 3 [] [17, 16, 15, 9, 0, 1, 2, 3] 1 ⟨[(17, vI who), (16, vS t), (15, .v (.slice s.A s.n s.c)), (9, .p 0 0), (0, .v (.slice s.A s.n s.c)), (1, vS t), (2, vI who), (3, vB wait)], [⟨26, [vI 0, vI 0, vS emp]⟩]⟩ [] [] (by kernel_rfl) on wn ?_
  refine l_pure 54 [] [.v (.slice s.A s.n s.c), vS t, vI who] (.int .i64 (mAsk (s.xs.map CLock.abs) t who)) Try.call54 rfl rfl rfl rfl (fun bs w hS => ref_asked s t who w (Sl.rd.kp hs hS.kp) (by first | assumption | omega | (simp only [emp_size]; omega))) ?_
  refine JL_run 1 [] [11, 9, 0, 1, 2, 3] 1 ⟨[(11, vI (mAsk (s.xs.map CLock.abs) t who)), (9, .p 0 0), (0, .v (.slice s.A s.n s.c)), (1, vS t), (2, vI who), (3, vB wait)], [⟨26, [vI 0, vI 0, vS emp]⟩]⟩ [] [] (by kernel_rfl) on wn ?_
  refine l_nil (q_then_normal ?_)
  refine c_seq ?_
  refine c_seq ?_
  refine c_region ?_
  refine JL_run 2 [] [20, 11, 9, 0, 1, 2, 3] 1 ⟨[(20, vB (!(decide (mAsk (s.xs.map CLock.abs) t who = 0)))), (11, vI (mAsk (s.xs.map CLock.abs) t who)), (9, .p 0 0), (0, .v (.slice s.A s.n s.c)), (1, vS t), (2, vI who), (3, vB wait)], [⟨26, [vI 0, vI 0, vS emp]⟩]⟩ [] [] (by kernel_rfl) on wn ?_
  refine l_nil (q_then_normal ?_)
  cases h1 : decide (mAsk (s.xs.map CLock.abs) t who = 0) with
  | true =>
    have h1 := of_decide_eq_true h1
    refine c_if false rfl ?_
    refine c_skip ?_
    refine q_then_normal ?_
    refine c_seq ?_
    refine c_region ?_
    refine JL_run 1 [] [23, 9, 1, 2, 3] 1 ⟨[(23, .v (.slice s.A s.n s.c)), (9, .p 0 0), (1, vS t), (2, vI who), (3, vB wait)], [⟨26, [vI 0, vI 0, vS emp]⟩]⟩ [] [] (by kernel_rfl) on wn ?_
    refine l_freshF (σ := Sl CLock) 15 [] [.v (.slice s.A s.n s.c)] (fun y1 => .slice y1.A y1.n y1.c) (fun y1 => y1.xs.map CLock.abs = s.xs.map CLock.abs) (fun y1 => locksR 80 3 y1) Try.call15 rfl rfl rfl rfl (fun bs w hS => ref_LocksCopy s w (Sl.rd.kp hs hS.kp) (small_locks (mAsk_ok (by assumption)).1)) ?_
    rintro y1 hF1
    refine l_split2 ?_
    obtain ⟨A1, c1, S1⟩ := y1
    have hF1 : S1.map CLock.abs = s.xs.map CLock.abs := hF1
    refine l_perm (R' := [ownL (lineR 3) S1, rowA 80 A1 c1 (S1 : List CLock)]) (List.Perm.refl _) ?_
    have hnm1 := locks_names (y := (⟨A1, c1, S1⟩ : Sl CLock)) (hs) hF1
    have hlen1 : S1.length = s.xs.length := by simpa using congrArg List.length hF1
    refine l_know (F := ∀ i, i < S1.length → Rds.ok (S1.getD i default)) (fun bs w hS i hi => Rds.okof (B := anyB) (w := w) (own_eltL (hS.res _ (.head _)) hnm1 (mem_of_getD hi))) fun okown1 => ?_
    refine l_know (F := RowOk A1 c1 (S1 : List CLock)) (fun bs w hS => rowA_rok (hS.res _ (.tail _ (.head _)))) fun hrow1 => ?_
    have nchrow1 := hrow1.2
    have hask := mAsk_ok h1
    have hm1 : mLocks (S1.map CLock.abs) = 0 := by rw [hF1]; exact hask.1
    have hw1 := hask.2.2.1
    have hw2 := hask.2.2.2
    have hln5 : S1.length ≤ 5 := by have h9 := (mLocks_bd hm1).1; simpa using h9
    refine JL_run 1 [] [12, 9, 1, 2, 3] 1 ⟨[(12, .v (.slice A1 S1.length c1)), (9, .p 0 0), (1, vS t), (2, vI who), (3, vB wait)], [⟨26, [vI 0, vI 0, vS emp]⟩]⟩ [] [] (by kernel_rfl) on wn ?_
    refine l_nil (q_then_normal ?_)
    refine c_seq ?_
    refine c_region ?_
    refine JL_run 2 [] [26, 25, 12, 9, 1, 2, 3] 1 ⟨[(26, vS t), (25, .v (.slice A1 S1.length c1)), (12, .v (.slice A1 S1.length c1)), (9, .p 0 0), (1, vS t), (2, vI who), (3, vB wait)], [⟨26, [vI 0, vI 0, vS emp]⟩]⟩ [] [] (by kernel_rfl) on wn ?_
    refine l_pure 55 [] [.v (.slice A1 S1.length c1), vS t] (.int .i64 (mIdx (fun x : CLock => decide (x.name = t)) S1)) Try.call55 rfl rfl rfl rfl (fun bs w hS => tackroomref_lockAt (⟨A1, c1, S1⟩ : Sl CLock) t w (own_locks (hS.res _ (.head _)) (hS.res _ (.tail _ (.head _))) hnm1)) ?_
    have hJe : mIdx (fun x : CLock => decide (x.name = t)) S1 = mIdx (fun x : DLock => decide (x.name = t)) (S1.map CLock.abs) := mIdx_map CLock.abs (fun x : DLock => decide (x.name = t)) S1
    rw [hJe]
    have hJb := mIdx_bd (fun x : DLock => decide (x.name = t)) (S1.map CLock.abs)
    generalize hJ : mIdx (fun x : DLock => decide (x.name = t)) (S1.map CLock.abs) = J at hJb ⊢
    rw [List.length_map] at hJb
    refine JL_run 1 [] [13, 12, 9, 1, 2, 3] 1 ⟨[(13, vI J), (12, .v (.slice A1 S1.length c1)), (9, .p 0 0), (1, vS t), (2, vI who), (3, vB wait)], [⟨26, [vI 0, vI 0, vS emp]⟩]⟩ [] [] (by kernel_rfl) on wn ?_
    refine l_nil (q_then_normal ?_)
    refine c_seq ?_
    refine c_seq ?_
    refine c_region ?_
    refine JL_run 2 [] [29, 13, 12, 9, 1, 2, 3] 1 ⟨[(29, vB (decide (J < 0))), (13, vI J), (12, .v (.slice A1 S1.length c1)), (9, .p 0 0), (1, vS t), (2, vI who), (3, vB wait)], [⟨26, [vI 0, vI 0, vS emp]⟩]⟩ [] [] (by kernel_rfl) on wn ?_
    refine l_nil (q_then_normal ?_)
    cases h2 : decide (J < 0) with
    | true =>
      have h2 := of_decide_eq_true h2
      have h0J : ¬ 0 ≤ J := by omega
      refine c_if true rfl ?_
      refine c_seq ?_
      refine c_seq ?_
      refine c_region ?_
      refine JL_run 3 [] [32, 12, 9, 1, 2] 1 ⟨[(32, vB (decide ((5 : Int) ≤ ((S1.length : Nat) : Int)))), (12, .v (.slice A1 S1.length c1)), (9, .p 0 0), (1, vS t), (2, vI who)], [⟨26, [vI 0, vI 0, vS emp]⟩]⟩ [] [] (by kernel_rfl) on wn ?_
      refine l_nil (q_then_normal ?_)
      cases h3 : decide ((5 : Int) ≤ ((S1.length : Nat) : Int)) with
      | true =>
        have h3 := of_decide_eq_true h3
        refine c_if true rfl ?_
        refine c_seq ?_
        refine c_region ?_
        refine JL_run 5 [] [10, 8, 9] 1 ⟨[(10, vI 0), (8, .v (.slice A1 S1.length c1)), (9, .p 0 0)], [⟨26, [vI 8, vI 0, vS emp]⟩]⟩ [] [] (by kernel_rfl) on wn ?_
        refine l_nil (q_then_normal ?_)
        refine c_ret ?_
        refine q_then_ret (q_then_ret (q_ret (.inl rfl) [.v (.slice A1 S1.length c1), .v (.agg #[.int .i64 8, .int .i64 0, .string emp]), vI 0] rfl (fun bs w hS => ?_)))
        have hask0 : mAsk (S1.map CLock.abs) t who = 0 := by rw [hF1]; assumption
        rw [← hF1]
        have hq1 : (S1.getD J.toNat default).abs.holder = (S1.getD J.toNat default).holder := rfl
        have hq2 : (S1.getD J.toNat default).abs.fence = (S1.getD J.toNat default).fence := rfl
        have hq3 : (S1.getD J.toNat default).abs.line = (S1.getD J.toNat default).line.xs := rfl
        have hq4 : (S1.getD J.toNat default).abs.name = (S1.getD J.toNat default).name := rfl
        have hm : mTake (S1.map CLock.abs) t who wait = (S1.map CLock.abs, ⟨8, 0, emp⟩, 0) := by
          unfold mTake lIdx
          simp only [hJ, lgetD, List.length_map]
          repeat (first | rw [if_pos (by first | assumption | omega)] | rw [if_neg (by first | assumption | omega | (intro h0; first | exact absurd h0 (by assumption) | (simp_all; done)))])
          all_goals rfl
        refine ⟨⟨A1, c1, S1⟩, ?_, ?_, hS.outS (y := (⟨A1, c1, S1⟩ : Sl CLock)) (out_locksG (.tail _ (.head _)) hS.res (fun x hx => ?_))⟩
        · rw [hm] <;> rfl
        · exact (congrArg Prod.fst hm).symm
        · exact ⟨hnm1 x hx, own_inL (.head _) hS.res hx⟩
      | false =>
        have h3 := of_decide_eq_false h3
        refine c_if false rfl ?_
        refine c_skip ?_
        refine q_then_normal ?_
        refine c_seq ?_
        refine c_region ?_
        refine JL_run 4 [] [38, 35, 9] 1 ⟨[(38, .v (.agg #[.string t, .int .i64 who, .int .i64 1, .slice none 0 0])), (35, .v (.slice A1 S1.length c1)), (9, .p 0 0)], [⟨26, [vI 0, vI 0, vS emp]⟩]⟩ [] [] (by kernel_rfl) on wn ?_
        refine l_freshF (σ := Sl CLock) 103 [] [.v (.slice A1 S1.length c1), .v (.agg #[.string t, .int .i64 who, .int .i64 1, .slice none 0 0])] (fun y3 => .slice y3.A y3.n y3.c) (fun y3 => y3.xs = mIns (fun z : CLock => Op.bytesLess t.toList z.name.toList) (⟨t, who, 1, Sl.nil⟩ : CLock) S1) (fun y3 => rowA 80 y3.A y3.c (y3.xs : List CLock)) Try.call103 rfl rfl rfl rfl (fun bs w hS => ref_withLock (⟨A1, c1, S1⟩ : Sl CLock) (⟨t, who, 1, Sl.nil⟩ : CLock) w (own_locks (hS.res _ (.head _)) (hS.res _ (.tail _ (.head _))) hnm1) (by show S1.length ≤ _; omega)) ?_
        rintro y3 hF3
        obtain ⟨A3, c3, rfl⟩ := Sl.of_xs hF3
        refine l_weak (rowA 80 A3 c3 (mIns (fun z : CLock => Op.bytesLess t.toList z.name.toList) (⟨t, who, 1, Sl.nil⟩ : CLock) S1 : List CLock)) (List.Sublist.refl _) (fun w h => h) ?_
        refine JL_run 4 [] [10, 8, 9] 1 ⟨[(10, vI 0), (8, .v (.slice A3 (mIns (fun z : CLock => Op.bytesLess t.toList z.name.toList) (⟨t, who, 1, Sl.nil⟩ : CLock) S1).length c3)), (9, .p 0 0)], [⟨26, [vI 0, vI 1, vS emp]⟩]⟩ [] [] (by kernel_rfl) on wn ?_
        refine l_nil (q_then_normal ?_)
        refine c_ret ?_
        refine q_then_ret (q_ret (.inl rfl) [.v (.slice A3 (mIns (fun z : CLock => Op.bytesLess t.toList z.name.toList) (⟨t, who, 1, Sl.nil⟩ : CLock) S1).length c3), .v (.agg #[.int .i64 0, .int .i64 1, .string emp]), vI 0] rfl (fun bs w hS => ?_))
        have hask0 : mAsk (S1.map CLock.abs) t who = 0 := by rw [hF1]; assumption
        rw [← hF1]
        have hq1 : (S1.getD J.toNat default).abs.holder = (S1.getD J.toNat default).holder := rfl
        have hq2 : (S1.getD J.toNat default).abs.fence = (S1.getD J.toNat default).fence := rfl
        have hq3 : (S1.getD J.toNat default).abs.line = (S1.getD J.toNat default).line.xs := rfl
        have hq4 : (S1.getD J.toNat default).abs.name = (S1.getD J.toNat default).name := rfl
        have hvy : mIns (fun z : CLock => Op.bytesLess t.toList z.name.toList) (⟨t, who, 1, Sl.nil⟩ : CLock) S1 = mIns (fun x : CLock => Op.bytesLess t.toList x.name.toList) (⟨t, who, 1, Sl.nil⟩ : CLock) S1 := rfl
        have hvx := insL_map hvy
        have hm : mTake (S1.map CLock.abs) t who wait = (mIns (fun x : DLock => Op.bytesLess t.toList x.name.toList) ⟨t, who, 1, []⟩ (S1.map CLock.abs), ⟨0, 1, emp⟩, 0) := by
          unfold mTake lIdx
          simp only [hJ, lgetD, List.length_map]
          repeat (first | rw [if_pos (by first | assumption | omega)] | rw [if_neg (by first | assumption | omega | (intro h0; first | exact absurd h0 (by assumption) | (simp_all; done)))])
          all_goals rfl
        refine ⟨⟨A3, c3, mIns (fun z : CLock => Op.bytesLess t.toList z.name.toList) (⟨t, who, 1, Sl.nil⟩ : CLock) S1⟩, ?_, ?_, hS.outS (y := (⟨A3, c3, mIns (fun z : CLock => Op.bytesLess t.toList z.name.toList) (⟨t, who, 1, Sl.nil⟩ : CLock) S1⟩ : Sl CLock)) (out_locksG (.head _) hS.res (fun x hx => ?_))⟩
        · rw [hm] <;> rfl
        · exact Eq.trans hvx (congrArg Prod.fst hm).symm
        · rw [hvy] at hx
          rcases ins_mem hx with hx | hx
          · subst hx; exact ⟨ht, Sl.rd_nil _ _⟩
          · exact ⟨hnm1 x hx, own_inL (.tail _ (.head _)) hS.res hx⟩
    | false =>
      have h2 := of_decide_eq_false h2
      have h0J : 0 ≤ J := by omega
      have hk5 := lock_all hm1 (k := J.toNat) (by omega)
      obtain ⟨hk51, hk52, hk53, hk54, hk55, hk56⟩ := hk5
      have hk7 : (S1.getD J.toNat default).line.n = (S1.getD J.toNat default).line.xs.length := rfl
      refine c_if false rfl ?_
      refine c_skip ?_
      refine q_then_normal ?_
      refine c_seq ?_
      refine c_seq ?_
      refine c_region ?_
      refine JL_run 6 [(2, .idx (oad A1) J.toNat), (4, .ext [.int .i64 (S1.getD J.toNat default).holder])] [46, 13, 12, 9, 2, 3] 1 ⟨[(46, vB (decide ((S1.getD J.toNat default).holder = 0))), (13, vI J), (12, .v (.slice A1 S1.length c1)), (9, .p 0 0), (2, vI who), (3, vB wait)], [⟨26, [vI 0, vI 0, vS emp]⟩]⟩ [A1 = some (oad A1), J = ((J.toNat : Nat) : Int), J.toNat < S1.length] [(((oad A1).add (J.toNat * 4)).add 1, [.int .i64 (S1.getD J.toNat default).holder])] (by kernel_rfl) (oc (hrow1.1 J.toNat (by omega)) (oc (by omega) (oc (by omega) on))) (fun w hk hr => ⟨(rowA_fld (i := J.toNat) (hr _ (.tail _ (.head _))) (by omega) 1 1 rfl), trivial⟩) ?_
      refine l_nil (q_then_normal ?_)
      cases h4 : decide ((S1.getD J.toNat default).holder = 0) with
      | true =>
        have h4 := of_decide_eq_true h4
        refine c_if true rfl ?_
        refine c_seq ?_
        refine c_seq ?_
        refine c_region ?_
        refine JL_run 6 [(2, .idx (oad A1) J.toNat), (4, .ext [.int .i64 (S1.getD J.toNat default).fence])] [52, 13, 12, 9, 2, 3] 1 ⟨[(52, vB (decide ((1073741824 : Int) ≤ (S1.getD J.toNat default).fence))), (13, vI J), (12, .v (.slice A1 S1.length c1)), (9, .p 0 0), (2, vI who), (3, vB wait)], [⟨26, [vI 0, vI 0, vS emp]⟩]⟩ [A1 = some (oad A1), J = ((J.toNat : Nat) : Int), J.toNat < S1.length] [(((oad A1).add (J.toNat * 4)).add 2, [.int .i64 (S1.getD J.toNat default).fence])] (by kernel_rfl) (oc (hrow1.1 J.toNat (by omega)) (oc (by omega) (oc (by omega) on))) (fun w hk hr => ⟨(rowA_fld (i := J.toNat) (hr _ (.tail _ (.head _))) (by omega) 2 1 rfl), trivial⟩) ?_
        refine l_nil (q_then_normal ?_)
        cases h5 : decide ((1073741824 : Int) ≤ (S1.getD J.toNat default).fence) with
        | true =>
          have h5 := of_decide_eq_true h5
          refine c_if true rfl ?_
          refine c_seq ?_
          refine c_region ?_
          refine JL_run 5 [] [10, 8, 9] 1 ⟨[(10, vI 0), (8, .v (.slice A1 S1.length c1)), (9, .p 0 0)], [⟨26, [vI 8, vI 0, vS emp]⟩]⟩ [] [] (by kernel_rfl) on wn ?_
          refine l_nil (q_then_normal ?_)
          refine c_ret ?_
          refine q_then_ret (q_then_ret (q_ret (.inl rfl) [.v (.slice A1 S1.length c1), .v (.agg #[.int .i64 8, .int .i64 0, .string emp]), vI 0] rfl (fun bs w hS => ?_)))
          have hask0 : mAsk (S1.map CLock.abs) t who = 0 := by rw [hF1]; assumption
          rw [← hF1]
          have hq1 : (S1.getD J.toNat default).abs.holder = (S1.getD J.toNat default).holder := rfl
          have hq2 : (S1.getD J.toNat default).abs.fence = (S1.getD J.toNat default).fence := rfl
          have hq3 : (S1.getD J.toNat default).abs.line = (S1.getD J.toNat default).line.xs := rfl
          have hq4 : (S1.getD J.toNat default).abs.name = (S1.getD J.toNat default).name := rfl
          have hlt : lTake (S1.getD J.toNat default).abs who wait = ((S1.getD J.toNat default).abs, ⟨8, 0, emp⟩) := by
            unfold lTake
            simp only [hq1, hq2, hq3, hq4]
            repeat (first | rw [if_pos (by first | assumption | omega | exact .inl (by assumption) | exact .inr (by assumption))] | rw [if_neg (by first | assumption | omega | (rintro (h8 | h8) <;> simp_all; done))])
            all_goals rfl
          have hm : mTake (S1.map CLock.abs) t who wait = (S1.map CLock.abs, ⟨8, 0, emp⟩, 0) := by
            unfold mTake lIdx
            simp only [hJ, lgetD, List.length_map]
            rw [hlt]
            repeat (first | rw [if_pos (by first | assumption | omega)] | rw [if_neg (by first | assumption | omega | (intro h0; first | exact absurd h0 (by assumption) | (simp_all; done)))])
            all_goals (show ((S1.map CLock.abs).set J.toNat (S1.getD J.toNat default).abs, _, _) = _; rw [← lgetD, set_getD (by rw [List.length_map]; omega)])
          refine ⟨⟨A1, c1, S1⟩, ?_, ?_, hS.outS (y := (⟨A1, c1, S1⟩ : Sl CLock)) (out_locksG (.tail _ (.head _)) hS.res (fun x hx => ?_))⟩
          · rw [hm] <;> rfl
          · exact (congrArg Prod.fst hm).symm
          · exact ⟨hnm1 x hx, own_inL (.head _) hS.res hx⟩
        | false =>
          have h5 := of_decide_eq_false h5
          refine c_if false rfl ?_
          refine c_skip ?_
          refine q_then_normal ?_
          refine c_seq ?_
          refine c_region ?_
          refine JL_run 5 [(3, .idx (oad A1) J.toNat)] [59, 57, 13, 12, 9, 2, 3] 1 ⟨[(59, .v (.pointer (some (((oad A1).add (J.toNat * 4)).add 1)))), (57, vI who), (13, vI J), (12, .v (.slice A1 S1.length c1)), (9, .p 0 0), (2, vI who), (3, vB wait)], [⟨26, [vI 0, vI 0, vS emp]⟩]⟩ [A1 = some (oad A1), J = ((J.toNat : Nat) : Int), J.toNat < S1.length] [] (by kernel_rfl) (oc (hrow1.1 J.toNat (by omega)) (oc (by omega) (oc (by omega) on))) wn ?_
          refine l_perm (R' := [rowA 80 A1 c1 (S1 : List CLock), ownL (lineR 3) S1]) (permfront 1 rfl) ?_
          refine l_storeA (α := CLock) 80 A1 c1 S1 J.toNat 1 (((oad A1).add (J.toNat * 4)).add 1) (vI who) [vI who] [.int .i64 who] (⟨(S1.getD J.toNat default).name, who, (S1.getD J.toNat default).fence, (S1.getD J.toNat default).line⟩ : CLock) rfl rfl rfl rfl rfl (by kernel_rfl) (by kernel_rfl) rfl (by omega) (by kernel_rfl) rfl rfl rfl ?_
          intro L5 hL5 hlL5
          have hgL5 : L5.getD J.toNat default = (⟨(S1.getD J.toNat default).name, who, (S1.getD J.toNat default).fence, (S1.getD J.toNat default).line⟩ : CLock) := by rw [hL5]; exact getD_set (by omega)
          have hbL5 : L5 = List.set S1 J.toNat (⟨(S1.getD J.toNat default).name, who, (S1.getD J.toNat default).fence, (S1.getD J.toNat default).line⟩ : CLock) := by rw [hL5]
          refine l_nil (q_then_normal ?_)
          refine c_region ?_
          refine JL_run 8 [(2, .idx (oad A1) J.toNat), (4, .ext [.int .i64 (S1.getD J.toNat default).fence]), (6, .idx (oad A1) J.toNat)] [67, 65, 13, 12, 9, 2, 3] 1 ⟨[(67, .v (.pointer (some (((oad A1).add (J.toNat * 4)).add 2)))), (65, vI ((S1.getD J.toNat default).fence + 1)), (13, vI J), (12, .v (.slice A1 S1.length c1)), (9, .p 0 0), (2, vI who), (3, vB wait)], [⟨26, [vI 0, vI 0, vS emp]⟩]⟩ [A1 = some (oad A1), J = ((J.toNat : Nat) : Int), J.toNat < S1.length, inR ((S1.getD J.toNat default).fence + 1), A1 = some (oad A1), J = ((J.toNat : Nat) : Int), J.toNat < S1.length] [(((oad A1).add (J.toNat * 4)).add 2, [.int .i64 (S1.getD J.toNat default).fence])] (by kernel_rfl) (oc (hrow1.1 J.toNat (by omega)) (oc (by omega) (oc (by omega) (oc (by unfold inR; omega) (oc (hrow1.1 J.toNat (by omega)) (oc (by omega) (oc (by omega) on))))))) (fun w hk hr => ⟨(rowA_fld (i := J.toNat) (hr _ (.head _)) (by omega) 2 1 (by rw [hgL5]; rfl)), trivial⟩) ?_
          refine l_storeA (α := CLock) 80 A1 c1 L5 J.toNat 2 (((oad A1).add (J.toNat * 4)).add 2) (vI ((S1.getD J.toNat default).fence + 1)) [vI ((S1.getD J.toNat default).fence + 1)] [.int .i64 ((S1.getD J.toNat default).fence + 1)] (⟨(S1.getD J.toNat default).name, who, (S1.getD J.toNat default).fence + 1, (S1.getD J.toNat default).line⟩ : CLock) rfl rfl rfl rfl rfl (by kernel_rfl) (by kernel_rfl) rfl (by omega) (by kernel_rfl) (by rw [hgL5]; rfl) rfl rfl ?_
          intro L6 hL6 hlL6
          have hgL6 : L6.getD J.toNat default = (⟨(S1.getD J.toNat default).name, who, (S1.getD J.toNat default).fence + 1, (S1.getD J.toNat default).line⟩ : CLock) := by rw [hL6]; exact getD_set (by omega)
          have hbL6 : L6 = List.set S1 J.toNat (⟨(S1.getD J.toNat default).name, who, (S1.getD J.toNat default).fence + 1, (S1.getD J.toNat default).line⟩ : CLock) := by rw [hL6, hbL5, List.set_set]
          refine l_nil (q_then_normal ?_)
          refine c_seq ?_
          refine c_seq ?_
          refine c_region ?_
          refine JL_run 7 [(2, .idx (oad A1) J.toNat), (4, .ext [.int .i64 who])] [74, 13, 12, 9, 2, 3] 1 ⟨[(74, vB (decide (who = who))), (13, vI J), (12, .v (.slice A1 S1.length c1)), (9, .p 0 0), (2, vI who), (3, vB wait)], [⟨26, [vI 0, vI 0, vS emp]⟩]⟩ [A1 = some (oad A1), J = ((J.toNat : Nat) : Int), J.toNat < S1.length] [(((oad A1).add (J.toNat * 4)).add 1, [.int .i64 who])] (by kernel_rfl) (oc (hrow1.1 J.toNat (by omega)) (oc (by omega) (oc (by omega) on))) (fun w hk hr => ⟨(rowA_fld (i := J.toNat) (hr _ (.head _)) (by omega) 1 1 (by rw [hgL6]; rfl)), trivial⟩) ?_
          refine l_nil (q_then_normal ?_)
          cases h6 : decide (who = who) with
          | true =>
            have h6 := of_decide_eq_true h6
            refine c_if true rfl ?_
            refine c_seq ?_
            refine c_draw 10 [] (.p 0 (.p 1 (.p 2 (.p 3 (.p 4 (.q 5 (.p 6 (.p 7 (.b 8 (.p 9 .nil) .z))))))))) [0] [rowA 80 A1 c1 (L6 : List CLock), ownL (lineR 3) S1] Try_mixed (by kernel_rfl) (pq_then (pq_then pq_body)) (List.Sublist.refl _) ?_
            refine h_quiet [(3, .idx (oad A1) J.toNat), (5, .ext [.int .i64 ((S1.getD J.toNat default).fence + 1)])] [(0, true), (1, true), (2, true), (3, true), (4, true), (5, false), (6, true), (7, true)] [(8, .v (.slice A1 S1.length c1)), (81, .v (.agg #[.int .i64 0, .int .i64 ((S1.getD J.toNat default).fence + 1), .string emp])), (80, vI ((S1.getD J.toNat default).fence + 1)), (79, .v (.pointer (some (((oad A1).add (J.toNat * 4)).add 2)))), (78, .v (.pointer (some ((oad A1).add (J.toNat * 4))))), (77, vI J), (76, .v (.slice A1 S1.length c1)), (75, .v (.slice A1 S1.length c1)), (74, vB true), (13, vI J), (12, .v (.slice A1 S1.length c1)), (9, .p 0 0), (2, vI who), (3, vB wait)] [A1 = some (oad A1), J = ((J.toNat : Nat) : Int), J.toNat < S1.length] [(((oad A1).add (J.toNat * 4)).add 2, [.int .i64 ((S1.getD J.toNat default).fence + 1)])] rfl (by kernel_rfl) (oc (hrow1.1 J.toNat (by omega)) (oc (by omega) (oc (by omega) on))) (fun w hk hr => ⟨(rowA_fld (i := J.toNat) (hr _ (.head _)) (by omega) 2 1 (by rw [hgL6]; rfl)), trivial⟩) ?_
            refine h_local ⟨[(8, .v (.slice A1 S1.length c1)), (81, .v (.agg #[.int .i64 0, .int .i64 ((S1.getD J.toNat default).fence + 1), .string emp])), (80, vI ((S1.getD J.toNat default).fence + 1)), (79, .v (.pointer (some (((oad A1).add (J.toNat * 4)).add 2)))), (78, .v (.pointer (some ((oad A1).add (J.toNat * 4))))), (77, vI J), (76, .v (.slice A1 S1.length c1)), (75, .v (.slice A1 S1.length c1)), (74, vB true), (13, vI J), (12, .v (.slice A1 S1.length c1)), (9, .p 0 0), (2, vI who), (3, vB wait)], [⟨26, [vI 0, vI ((S1.getD J.toNat default).fence + 1), vS emp]⟩]⟩ (by kernel_rfl) (fun bs0 bs w hp hl hS => hS.down hp hl rfl (le_mask le_nil) (List.Sublist.refl _)) ?_
            refine h_quiet [] [(9, true)] [(10, vI 0), (8, .v (.slice A1 S1.length c1)), (81, .v (.agg #[.int .i64 0, .int .i64 ((S1.getD J.toNat default).fence + 1), .string emp])), (80, vI ((S1.getD J.toNat default).fence + 1)), (79, .v (.pointer (some (((oad A1).add (J.toNat * 4)).add 2)))), (78, .v (.pointer (some ((oad A1).add (J.toNat * 4))))), (77, vI J), (76, .v (.slice A1 S1.length c1)), (75, .v (.slice A1 S1.length c1)), (74, vB true), (13, vI J), (12, .v (.slice A1 S1.length c1)), (9, .p 0 0), (2, vI who), (3, vB wait)] [] [] rfl (by kernel_rfl) on wn ?_
            refine h_nil ?_
            refine l_nil (q_then_normal ?_)
            refine c_ret ?_
            refine q_then_ret (q_ret (.inl rfl) [.v (.slice A1 S1.length c1), .v (.agg #[.int .i64 0, .int .i64 ((S1.getD J.toNat default).fence + 1), .string emp]), vI 0] rfl (fun bs w hS => ?_))
            have hask0 : mAsk (S1.map CLock.abs) t who = 0 := by rw [hF1]; assumption
            rw [← hF1]
            have hq1 : (S1.getD J.toNat default).abs.holder = (S1.getD J.toNat default).holder := rfl
            have hq2 : (S1.getD J.toNat default).abs.fence = (S1.getD J.toNat default).fence := rfl
            have hq3 : (S1.getD J.toNat default).abs.line = (S1.getD J.toNat default).line.xs := rfl
            have hq4 : (S1.getD J.toNat default).abs.name = (S1.getD J.toNat default).name := rfl
            have hvx := setL_map hbL6
            have hlt : lTake (S1.getD J.toNat default).abs who wait = (((⟨(S1.getD J.toNat default).name, who, (S1.getD J.toNat default).fence + 1, (S1.getD J.toNat default).line⟩ : CLock)).abs, ⟨0, (S1.getD J.toNat default).fence + 1, emp⟩) := by
              unfold lTake
              simp only [hq1, hq2, hq3, hq4]
              repeat (first | rw [if_pos (by first | assumption | omega | exact .inl (by assumption) | exact .inr (by assumption))] | rw [if_neg (by first | assumption | omega | (rintro (h8 | h8) <;> simp_all; done))])
              all_goals rfl
            have hm : mTake (S1.map CLock.abs) t who wait = ((S1.map CLock.abs).set J.toNat ((⟨(S1.getD J.toNat default).name, who, (S1.getD J.toNat default).fence + 1, (S1.getD J.toNat default).line⟩ : CLock)).abs, ⟨0, (S1.getD J.toNat default).fence + 1, emp⟩, 0) := by
              unfold mTake lIdx
              simp only [hJ, lgetD, List.length_map]
              rw [hlt]
              repeat (first | rw [if_pos (by first | assumption | omega)] | rw [if_neg (by first | assumption | omega | (intro h0; first | exact absurd h0 (by assumption) | (simp_all; done)))])
              all_goals rfl
            refine ⟨⟨A1, c1, L6⟩, ?_, ?_, hS.outS (y := (⟨A1, c1, L6⟩ : Sl CLock)) (out_locksG (.head _) hS.res (fun x hx => ?_))⟩
            · have hll : S1.length = L6.length := by rw [hbL6, List.length_set]
              rw [hm]
              exact congrArg (fun q => Ending.returned (.tuple #[.slice A1 q c1, .agg #[.int .i64 0, .int .i64 ((S1.getD J.toNat default).fence + 1), .string emp], .int .i64 0])) hll
            · exact Eq.trans hvx (congrArg Prod.fst hm).symm
            · rw [hbL6] at hx
              rcases mem_set hx with hx | hx
              · subst hx; exact ⟨hnm1 (S1.getD J.toNat default) (mem_of_getD (L := S1) (i := J.toNat) (by omega)), own_inL (x := (S1.getD J.toNat default)) (.tail _ (.head _)) hS.res (mem_of_getD (L := S1) (i := J.toNat) (by omega))⟩
              · exact ⟨hnm1 x hx, own_inL (.tail _ (.head _)) hS.res hx⟩
          | false =>
            have h6 := of_decide_eq_false h6
            exact absurd rfl h6
      | false =>
        have h4 := of_decide_eq_false h4
        refine c_if false rfl ?_
        refine c_skip ?_
        refine q_then_normal ?_
        refine c_seq ?_
        refine c_seq ?_
        refine c_region ?_
        refine JL_run 7 [(2, .idx (oad A1) J.toNat), (4, .ext [.int .i64 (S1.getD J.toNat default).holder])] [74, 13, 12, 9, 2, 3] 1 ⟨[(74, vB (decide ((S1.getD J.toNat default).holder = who))), (13, vI J), (12, .v (.slice A1 S1.length c1)), (9, .p 0 0), (2, vI who), (3, vB wait)], [⟨26, [vI 0, vI 0, vS emp]⟩]⟩ [A1 = some (oad A1), J = ((J.toNat : Nat) : Int), J.toNat < S1.length] [(((oad A1).add (J.toNat * 4)).add 1, [.int .i64 (S1.getD J.toNat default).holder])] (by kernel_rfl) (oc (hrow1.1 J.toNat (by omega)) (oc (by omega) (oc (by omega) on))) (fun w hk hr => ⟨(rowA_fld (i := J.toNat) (hr _ (.tail _ (.head _))) (by omega) 1 1 rfl), trivial⟩) ?_
        refine l_nil (q_then_normal ?_)
        cases h7 : decide ((S1.getD J.toNat default).holder = who) with
        | true =>
          have h7 := of_decide_eq_true h7
          refine c_if true rfl ?_
          refine c_seq ?_
          refine c_draw 10 [] (.p 0 (.p 1 (.p 2 (.p 3 (.p 4 (.q 5 (.p 6 (.p 7 (.b 8 (.p 9 .nil) .z))))))))) [0] [ownL (lineR 3) S1, rowA 80 A1 c1 (S1 : List CLock)] Try_mixed (by kernel_rfl) (pq_then (pq_then pq_body)) (List.Sublist.refl _) ?_
          refine h_quiet [(3, .idx (oad A1) J.toNat), (5, .ext [.int .i64 (S1.getD J.toNat default).fence])] [(0, true), (1, true), (2, true), (3, true), (4, true), (5, false), (6, true), (7, true)] [(8, .v (.slice A1 S1.length c1)), (81, .v (.agg #[.int .i64 0, .int .i64 (S1.getD J.toNat default).fence, .string emp])), (80, vI (S1.getD J.toNat default).fence), (79, .v (.pointer (some (((oad A1).add (J.toNat * 4)).add 2)))), (78, .v (.pointer (some ((oad A1).add (J.toNat * 4))))), (77, vI J), (76, .v (.slice A1 S1.length c1)), (75, .v (.slice A1 S1.length c1)), (74, vB true), (13, vI J), (12, .v (.slice A1 S1.length c1)), (9, .p 0 0), (2, vI who), (3, vB wait)] [A1 = some (oad A1), J = ((J.toNat : Nat) : Int), J.toNat < S1.length] [(((oad A1).add (J.toNat * 4)).add 2, [.int .i64 (S1.getD J.toNat default).fence])] rfl (by kernel_rfl) (oc (hrow1.1 J.toNat (by omega)) (oc (by omega) (oc (by omega) on))) (fun w hk hr => ⟨(rowA_fld (i := J.toNat) (hr _ (.tail _ (.head _))) (by omega) 2 1 rfl), trivial⟩) ?_
          refine h_local ⟨[(8, .v (.slice A1 S1.length c1)), (81, .v (.agg #[.int .i64 0, .int .i64 (S1.getD J.toNat default).fence, .string emp])), (80, vI (S1.getD J.toNat default).fence), (79, .v (.pointer (some (((oad A1).add (J.toNat * 4)).add 2)))), (78, .v (.pointer (some ((oad A1).add (J.toNat * 4))))), (77, vI J), (76, .v (.slice A1 S1.length c1)), (75, .v (.slice A1 S1.length c1)), (74, vB true), (13, vI J), (12, .v (.slice A1 S1.length c1)), (9, .p 0 0), (2, vI who), (3, vB wait)], [⟨26, [vI 0, vI (S1.getD J.toNat default).fence, vS emp]⟩]⟩ (by kernel_rfl) (fun bs0 bs w hp hl hS => hS.down hp hl rfl (le_mask le_nil) (List.Sublist.refl _)) ?_
          refine h_quiet [] [(9, true)] [(10, vI 0), (8, .v (.slice A1 S1.length c1)), (81, .v (.agg #[.int .i64 0, .int .i64 (S1.getD J.toNat default).fence, .string emp])), (80, vI (S1.getD J.toNat default).fence), (79, .v (.pointer (some (((oad A1).add (J.toNat * 4)).add 2)))), (78, .v (.pointer (some ((oad A1).add (J.toNat * 4))))), (77, vI J), (76, .v (.slice A1 S1.length c1)), (75, .v (.slice A1 S1.length c1)), (74, vB true), (13, vI J), (12, .v (.slice A1 S1.length c1)), (9, .p 0 0), (2, vI who), (3, vB wait)] [] [] rfl (by kernel_rfl) on wn ?_
          refine h_nil ?_
          refine l_nil (q_then_normal ?_)
          refine c_ret ?_
          refine q_then_ret (q_ret (.inl rfl) [.v (.slice A1 S1.length c1), .v (.agg #[.int .i64 0, .int .i64 (S1.getD J.toNat default).fence, .string emp]), vI 0] rfl (fun bs w hS => ?_))
          have hask0 : mAsk (S1.map CLock.abs) t who = 0 := by rw [hF1]; assumption
          rw [← hF1]
          have hq1 : (S1.getD J.toNat default).abs.holder = (S1.getD J.toNat default).holder := rfl
          have hq2 : (S1.getD J.toNat default).abs.fence = (S1.getD J.toNat default).fence := rfl
          have hq3 : (S1.getD J.toNat default).abs.line = (S1.getD J.toNat default).line.xs := rfl
          have hq4 : (S1.getD J.toNat default).abs.name = (S1.getD J.toNat default).name := rfl
          have hlt : lTake (S1.getD J.toNat default).abs who wait = ((S1.getD J.toNat default).abs, ⟨0, (S1.getD J.toNat default).fence, emp⟩) := by
            unfold lTake
            simp only [hq1, hq2, hq3, hq4]
            repeat (first | rw [if_pos (by first | assumption | omega | exact .inl (by assumption) | exact .inr (by assumption))] | rw [if_neg (by first | assumption | omega | (rintro (h8 | h8) <;> simp_all; done))])
            all_goals rfl
          have hm : mTake (S1.map CLock.abs) t who wait = (S1.map CLock.abs, ⟨0, (S1.getD J.toNat default).fence, emp⟩, 0) := by
            unfold mTake lIdx
            simp only [hJ, lgetD, List.length_map]
            rw [hlt]
            repeat (first | rw [if_pos (by first | assumption | omega)] | rw [if_neg (by first | assumption | omega | (intro h0; first | exact absurd h0 (by assumption) | (simp_all; done)))])
            all_goals (show ((S1.map CLock.abs).set J.toNat (S1.getD J.toNat default).abs, _, _) = _; rw [← lgetD, set_getD (by rw [List.length_map]; omega)])
          refine ⟨⟨A1, c1, S1⟩, ?_, ?_, hS.outS (y := (⟨A1, c1, S1⟩ : Sl CLock)) (out_locksG (.tail _ (.head _)) hS.res (fun x hx => ?_))⟩
          · rw [hm] <;> rfl
          · exact (congrArg Prod.fst hm).symm
          · exact ⟨hnm1 x hx, own_inL (.head _) hS.res hx⟩
        | false =>
          have h7 := of_decide_eq_false h7
          refine c_if false rfl ?_
          refine c_skip ?_
          refine q_then_normal ?_
          refine c_seq ?_
          refine c_region ?_
          refine JL_run 8 [(2, .idx (oad A1) J.toNat), (4, .ext [.int .i64 (S1.getD J.toNat default).holder])] [14, 13, 12, 9, 2, 3] 2 ⟨[(14, .p 1 0), (13, vI J), (12, .v (.slice A1 S1.length c1)), (9, .p 0 0), (2, vI who), (3, vB wait)], [⟨26, [vI 0, vI 0, vS emp]⟩, ⟨26, [vI 10, vI (S1.getD J.toNat default).holder, vS emp]⟩]⟩ [A1 = some (oad A1), J = ((J.toNat : Nat) : Int), J.toNat < S1.length] [(((oad A1).add (J.toNat * 4)).add 1, [.int .i64 (S1.getD J.toNat default).holder])] (by kernel_rfl) (oc (hrow1.1 J.toNat (by omega)) (oc (by omega) (oc (by omega) on))) (fun w hk hr => ⟨(rowA_fld (i := J.toNat) (hr _ (.tail _ (.head _))) (by omega) 1 1 rfl), trivial⟩) ?_
          refine l_nil (q_then_normal ?_)
          refine c_seq ?_
          refine c_seq ?_
          refine c_region ?_
          refine JL_run 2 [] [89, 14, 13, 12, 9, 2] 2 ⟨[(89, vB wait), (14, .p 1 0), (13, vI J), (12, .v (.slice A1 S1.length c1)), (9, .p 0 0), (2, vI who)], [⟨26, [vI 0, vI 0, vS emp]⟩, ⟨26, [vI 10, vI (S1.getD J.toNat default).holder, vS emp]⟩]⟩ [] [] (by kernel_rfl) on wn ?_
          cases h8 : wait with
          | true =>
            refine JL_run 6 [(2, .idx (oad A1) J.toNat), (4, .ext [.slice (S1.getD J.toNat default).line.A (S1.getD J.toNat default).line.n (S1.getD J.toNat default).line.c])] [95, 94, 89, 14, 13, 12, 9, 2] 2 ⟨[(95, vI who), (94, .v (.slice (S1.getD J.toNat default).line.A (S1.getD J.toNat default).line.n (S1.getD J.toNat default).line.c)), (89, vB true), (14, .p 1 0), (13, vI J), (12, .v (.slice A1 S1.length c1)), (9, .p 0 0), (2, vI who)], [⟨26, [vI 0, vI 0, vS emp]⟩, ⟨26, [vI 10, vI (S1.getD J.toNat default).holder, vS emp]⟩]⟩ [A1 = some (oad A1), J = ((J.toNat : Nat) : Int), J.toNat < S1.length] [(((oad A1).add (J.toNat * 4)).add 3, [.slice (S1.getD J.toNat default).line.A (S1.getD J.toNat default).line.n (S1.getD J.toNat default).line.c])] (by kernel_rfl) (oc (hrow1.1 J.toNat (by omega)) (oc (by omega) (oc (by omega) on))) (fun w hk hr => ⟨(rowA_fld (i := J.toNat) (hr _ (.tail _ (.head _))) (by omega) 3 1 rfl), trivial⟩) ?_
            refine l_pure 57 [] [.v (.slice (S1.getD J.toNat default).line.A (S1.getD J.toNat default).line.n (S1.getD J.toNat default).line.c), vI who] (.bool (((S1.getD J.toNat default).line.xs.take (S1.getD J.toNat default).line.n).any fun z => decide (z = who))) Try.call57 rfl rfl rfl rfl (fun bs w hS => ref_has (S1.getD J.toNat default).line (S1.getD J.toNat default).line.n who w (And.right (own_eltL (hS.res _ (.head _)) hnm1 (mem_of_getD (i := J.toNat) (by omega)))) (by omega)) ?_
            have hlh : (((S1.getD J.toNat default).line.xs.take (S1.getD J.toNat default).line.n).any fun z => decide (z = who)) = lHas (S1.getD J.toNat default).abs who := by rw [take_all (Nat.le_refl _)]; rfl
            rw [hlh]
            refine JL_run 2 [] [98, 14, 13, 12, 9, 2] 2 ⟨[(98, vB (!(lHas (S1.getD J.toNat default).abs who))), (14, .p 1 0), (13, vI J), (12, .v (.slice A1 S1.length c1)), (9, .p 0 0), (2, vI who)], [⟨26, [vI 0, vI 0, vS emp]⟩, ⟨26, [vI 10, vI (S1.getD J.toNat default).holder, vS emp]⟩]⟩ [] [] (by kernel_rfl) on wn ?_
            refine l_nil (q_then_normal ?_)
            cases h9 : lHas (S1.getD J.toNat default).abs who with
            | true =>
              refine c_if false rfl ?_
              refine c_skip ?_
              refine q_then_normal ?_
              refine c_seq ?_
              refine c_draw 5 [] (.p 0 (.q 1 (.p 2 (.b 3 (.p 4 .nil) .z)))) [0] [ownL (lineR 3) S1, rowA 80 A1 c1 (S1 : List CLock)] Try_mixed (by kernel_rfl) (pq_then pq_body) (List.Sublist.refl _) ?_
              refine h_quiet [] [(0, true), (1, false), (2, true)] [(8, .v (.slice A1 S1.length c1)), (121, .v (.agg #[.int .i64 10, .int .i64 (S1.getD J.toNat default).holder, .string emp])), (120, .v (.slice A1 S1.length c1)), (98, vB false), (14, .p 1 0), (13, vI J), (12, .v (.slice A1 S1.length c1)), (9, .p 0 0), (2, vI who)] [] [] rfl (by kernel_rfl) on wn ?_
              refine h_local ⟨[(8, .v (.slice A1 S1.length c1)), (121, .v (.agg #[.int .i64 10, .int .i64 (S1.getD J.toNat default).holder, .string emp])), (120, .v (.slice A1 S1.length c1)), (98, vB false), (14, .p 1 0), (13, vI J), (12, .v (.slice A1 S1.length c1)), (9, .p 0 0), (2, vI who)], [⟨26, [vI 10, vI (S1.getD J.toNat default).holder, vS emp]⟩, ⟨26, [vI 10, vI (S1.getD J.toNat default).holder, vS emp]⟩]⟩ (by kernel_rfl) (fun bs0 bs w hp hl hS => hS.down hp hl rfl (le_mask (le_same le_nil)) (List.Sublist.refl _)) ?_
              refine h_quiet [] [(4, true)] [(10, vI 0), (8, .v (.slice A1 S1.length c1)), (121, .v (.agg #[.int .i64 10, .int .i64 (S1.getD J.toNat default).holder, .string emp])), (120, .v (.slice A1 S1.length c1)), (98, vB false), (14, .p 1 0), (13, vI J), (12, .v (.slice A1 S1.length c1)), (9, .p 0 0), (2, vI who)] [] [] rfl (by kernel_rfl) on wn ?_
              refine h_nil ?_
              refine l_nil (q_then_normal ?_)
              refine c_ret ?_
              refine q_ret (.inl rfl) [.v (.slice A1 S1.length c1), .v (.agg #[.int .i64 10, .int .i64 (S1.getD J.toNat default).holder, .string emp]), vI 0] rfl (fun bs w hS => ?_)
              have hask0 : mAsk (S1.map CLock.abs) t who = 0 := by rw [hF1]; assumption
              rw [← hF1]
              have hq1 : (S1.getD J.toNat default).abs.holder = (S1.getD J.toNat default).holder := rfl
              have hq2 : (S1.getD J.toNat default).abs.fence = (S1.getD J.toNat default).fence := rfl
              have hq3 : (S1.getD J.toNat default).abs.line = (S1.getD J.toNat default).line.xs := rfl
              have hq4 : (S1.getD J.toNat default).abs.name = (S1.getD J.toNat default).name := rfl
              have hlt : lTake (S1.getD J.toNat default).abs who wait = ((S1.getD J.toNat default).abs, ⟨10, (S1.getD J.toNat default).holder, emp⟩) := by
                unfold lTake
                simp only [hq1, hq2, hq3, hq4]
                repeat (first | rw [if_pos (by first | assumption | omega | exact .inl (by assumption) | exact .inr (by assumption))] | rw [if_neg (by first | assumption | omega | (rintro (h8 | h8) <;> simp_all; done))])
                all_goals rfl
              have hm : mTake (S1.map CLock.abs) t who wait = (S1.map CLock.abs, ⟨10, (S1.getD J.toNat default).holder, emp⟩, 0) := by
                unfold mTake lIdx
                simp only [hJ, lgetD, List.length_map]
                rw [hlt]
                repeat (first | rw [if_pos (by first | assumption | omega)] | rw [if_neg (by first | assumption | omega | (intro h0; first | exact absurd h0 (by assumption) | (simp_all; done)))])
                all_goals (show ((S1.map CLock.abs).set J.toNat (S1.getD J.toNat default).abs, _, _) = _; rw [← lgetD, set_getD (by rw [List.length_map]; omega)])
              rw [h8] at hm
              refine ⟨⟨A1, c1, S1⟩, ?_, ?_, hS.outS (y := (⟨A1, c1, S1⟩ : Sl CLock)) (out_locksG (.tail _ (.head _)) hS.res (fun x hx => ?_))⟩
              · rw [hm] <;> rfl
              · exact (congrArg Prod.fst hm).symm
              · exact ⟨hnm1 x hx, own_inL (.head _) hS.res hx⟩
            | false =>
              refine c_if true rfl ?_
              refine c_seq ?_
              refine c_seq ?_
              refine c_region ?_
              refine JL_run 7 [(2, .idx (oad A1) J.toNat), (4, .ext [.slice (S1.getD J.toNat default).line.A (S1.getD J.toNat default).line.n (S1.getD J.toNat default).line.c])] [105, 14, 13, 12, 9, 2] 2 ⟨[(105, vB (decide ((3 : Int) ≤ (((S1.getD J.toNat default).line.n : Nat) : Int)))), (14, .p 1 0), (13, vI J), (12, .v (.slice A1 S1.length c1)), (9, .p 0 0), (2, vI who)], [⟨26, [vI 0, vI 0, vS emp]⟩, ⟨26, [vI 10, vI (S1.getD J.toNat default).holder, vS emp]⟩]⟩ [A1 = some (oad A1), J = ((J.toNat : Nat) : Int), J.toNat < S1.length] [(((oad A1).add (J.toNat * 4)).add 3, [.slice (S1.getD J.toNat default).line.A (S1.getD J.toNat default).line.n (S1.getD J.toNat default).line.c])] (by kernel_rfl) (oc (hrow1.1 J.toNat (by omega)) (oc (by omega) (oc (by omega) on))) (fun w hk hr => ⟨(rowA_fld (i := J.toNat) (hr _ (.tail _ (.head _))) (by omega) 3 1 rfl), trivial⟩) ?_
              refine l_nil (q_then_normal ?_)
              cases h10 : decide ((3 : Int) ≤ (((S1.getD J.toNat default).line.n : Nat) : Int)) with
              | true =>
                have h10 := of_decide_eq_true h10
                refine c_if true rfl ?_
                refine c_seq ?_
                refine c_region ?_
                refine JL_run 5 [] [10, 8, 9] 1 ⟨[(10, vI 0), (8, .v (.slice A1 S1.length c1)), (9, .p 0 0)], [⟨26, [vI 8, vI 0, vS emp]⟩]⟩ [] [] (by kernel_rfl) on wn ?_
                refine l_nil (q_then_normal ?_)
                refine c_ret ?_
                refine q_then_ret (q_then_ret (q_ret (.inl rfl) [.v (.slice A1 S1.length c1), .v (.agg #[.int .i64 8, .int .i64 0, .string emp]), vI 0] rfl (fun bs w hS => ?_)))
                have hask0 : mAsk (S1.map CLock.abs) t who = 0 := by rw [hF1]; assumption
                rw [← hF1]
                have hq1 : (S1.getD J.toNat default).abs.holder = (S1.getD J.toNat default).holder := rfl
                have hq2 : (S1.getD J.toNat default).abs.fence = (S1.getD J.toNat default).fence := rfl
                have hq3 : (S1.getD J.toNat default).abs.line = (S1.getD J.toNat default).line.xs := rfl
                have hq4 : (S1.getD J.toNat default).abs.name = (S1.getD J.toNat default).name := rfl
                have hlt : lTake (S1.getD J.toNat default).abs who wait = ((S1.getD J.toNat default).abs, ⟨8, 0, emp⟩) := by
                  unfold lTake
                  simp only [hq1, hq2, hq3, hq4]
                  repeat (first | rw [if_pos (by first | assumption | omega | exact .inl (by assumption) | exact .inr (by assumption))] | rw [if_neg (by first | assumption | omega | (rintro (h8 | h8) <;> simp_all; done))])
                  all_goals rfl
                have hm : mTake (S1.map CLock.abs) t who wait = (S1.map CLock.abs, ⟨8, 0, emp⟩, 0) := by
                  unfold mTake lIdx
                  simp only [hJ, lgetD, List.length_map]
                  rw [hlt]
                  repeat (first | rw [if_pos (by first | assumption | omega)] | rw [if_neg (by first | assumption | omega | (intro h0; first | exact absurd h0 (by assumption) | (simp_all; done)))])
                  all_goals (show ((S1.map CLock.abs).set J.toNat (S1.getD J.toNat default).abs, _, _) = _; rw [← lgetD, set_getD (by rw [List.length_map]; omega)])
                rw [h8] at hm
                refine ⟨⟨A1, c1, S1⟩, ?_, ?_, hS.outS (y := (⟨A1, c1, S1⟩ : Sl CLock)) (out_locksG (.tail _ (.head _)) hS.res (fun x hx => ?_))⟩
                · rw [hm] <;> rfl
                · exact (congrArg Prod.fst hm).symm
                · exact ⟨hnm1 x hx, own_inL (.head _) hS.res hx⟩
              | false =>
                have h10 := of_decide_eq_false h10
                refine c_if false rfl ?_
                refine c_skip ?_
                refine q_then_normal ?_
                refine c_part2 (rowA 3 (S1.getD J.toNat default).line.A (S1.getD J.toNat default).line.c ((S1.getD J.toNat default).line.xs : List Int)) (ownL (lineR 3) (List.eraseIdx S1 J.toNat)) (ownL_get_fp (lineR 3) (i := J.toNat) (by omega)) (fun w h => ownL_get_p (lineR 3) (i := J.toNat) (by omega) w h) ?_
                refine c_region ?_
                refine JL_run 9 [(4, .idx (oad A1) J.toNat), (6, .ext [.slice (S1.getD J.toNat default).line.A (S1.getD J.toNat default).line.n (S1.getD J.toNat default).line.c])] [116, 114, 109, 108, 14, 12, 9] 3 ⟨[(116, .s 2 0 1 1), (114, .v (.slice (S1.getD J.toNat default).line.A (S1.getD J.toNat default).line.n (S1.getD J.toNat default).line.c)), (109, vI J), (108, .v (.slice A1 S1.length c1)), (14, .p 1 0), (12, .v (.slice A1 S1.length c1)), (9, .p 0 0)], [⟨26, [vI 0, vI 0, vS emp]⟩, ⟨26, [vI 10, vI (S1.getD J.toNat default).holder, vS emp]⟩, ⟨3, [vI who]⟩]⟩ [A1 = some (oad A1), J = ((J.toNat : Nat) : Int), J.toNat < S1.length] [(((oad A1).add (J.toNat * 4)).add 3, [.slice (S1.getD J.toNat default).line.A (S1.getD J.toNat default).line.n (S1.getD J.toNat default).line.c])] (by kernel_rfl) (oc (hrow1.1 J.toNat (by omega)) (oc (by omega) (oc (by omega) on))) (fun w hk hr => ⟨(rowA_fld (i := J.toNat) (hr _ (.tail _ (.tail _ (.head _)))) (by omega) 3 1 rfl), trivial⟩) ?_
                refine l_appendA (α := Int) 3 8 (S1.getD J.toNat default).line.A (S1.getD J.toNat default).line.c ((S1.getD J.toNat default).line.xs) (.s 2 0 1 1) ([who]) Try.underlying78 (by kernel_rfl) rfl rfl rfl (fun bs w hS => by obtain ⟨q1, q2, q3, q4⟩ := src_loc (i := 2) (off := 0) (k := 1) (c := 1) (q := 1) (vs := [.int .i64 who]) hS rfl rfl; exact ⟨some q1, q2, q3, q4⟩) (by first | omega | (simp only [List.length_append, List.length_nil, List.length_cons]; omega)) (by first | omega | (simp only [List.length_append, List.length_nil, List.length_cons]; omega)) ?_
                intro A7 c7
                refine JL_run 2 [(0, .idx (oad A1) J.toNat)] [119, 117, 14, 12, 9] 2 ⟨[(119, .v (.pointer (some (((oad A1).add (J.toNat * 4)).add 3)))), (117, .v (.slice A7 ((S1.getD J.toNat default).line.xs ++ [who]).length c7)), (14, .p 1 0), (12, .v (.slice A1 S1.length c1)), (9, .p 0 0)], [⟨26, [vI 0, vI 0, vS emp]⟩, ⟨26, [vI 10, vI (S1.getD J.toNat default).holder, vS emp]⟩]⟩ [A1 = some (oad A1), J = ((J.toNat : Nat) : Int), J.toNat < S1.length] [] (by kernel_rfl) (oc (hrow1.1 J.toNat (by omega)) (oc (by omega) (oc (by omega) on))) wn ?_
                refine l_perm (R' := [rowA 80 A1 c1 (S1 : List CLock), rowA 3 A7 c7 ((S1.getD J.toNat default).line.xs ++ [who] : List Int), ownL (lineR 3) (List.eraseIdx S1 J.toNat)]) (permfront 2 rfl) ?_
                refine l_storeA (α := CLock) 80 A1 c1 S1 J.toNat 3 (((oad A1).add (J.toNat * 4)).add 3) (.v (.slice A7 ((S1.getD J.toNat default).line.xs ++ [who]).length c7)) [.v (.slice A7 ((S1.getD J.toNat default).line.xs ++ [who]).length c7)] [.slice A7 ((S1.getD J.toNat default).line.xs ++ [who]).length c7] (⟨(S1.getD J.toNat default).name, (S1.getD J.toNat default).holder, (S1.getD J.toNat default).fence, ⟨A7, c7, (S1.getD J.toNat default).line.xs ++ [who]⟩⟩ : CLock) rfl rfl rfl rfl rfl (by kernel_rfl) (by kernel_rfl) rfl (by omega) (by kernel_rfl) rfl rfl rfl ?_
                intro L8 hL8 hlL8
                have hgL8 : L8.getD J.toNat default = (⟨(S1.getD J.toNat default).name, (S1.getD J.toNat default).holder, (S1.getD J.toNat default).fence, ⟨A7, c7, (S1.getD J.toNat default).line.xs ++ [who]⟩⟩ : CLock) := by rw [hL8]; exact getD_set (by omega)
                have hbL8 : L8 = List.set S1 J.toNat (⟨(S1.getD J.toNat default).name, (S1.getD J.toNat default).holder, (S1.getD J.toNat default).fence, ⟨A7, c7, (S1.getD J.toNat default).line.xs ++ [who]⟩⟩ : CLock) := by rw [hL8]
                refine l_nil (q_then_normal ?_)
                refine c_seq ?_
                refine c_draw 5 [] (.p 0 (.q 1 (.p 2 (.b 3 (.p 4 .nil) .z)))) [0] [rowA 80 A1 c1 (L8 : List CLock), rowA 3 A7 c7 ((S1.getD J.toNat default).line.xs ++ [who] : List Int), ownL (lineR 3) (List.eraseIdx S1 J.toNat)] Try_mixed (by kernel_rfl) (pq_then pq_body) (List.Sublist.refl _) ?_
                refine h_quiet [] [(0, true), (1, false), (2, true)] [(8, .v (.slice A1 S1.length c1)), (121, .v (.agg #[.int .i64 10, .int .i64 (S1.getD J.toNat default).holder, .string emp])), (120, .v (.slice A1 S1.length c1)), (119, .v (.pointer (some (((oad A1).add (J.toNat * 4)).add 3)))), (117, .v (.slice A7 ((S1.getD J.toNat default).line.xs ++ [who]).length c7)), (14, .p 1 0), (12, .v (.slice A1 S1.length c1)), (9, .p 0 0)] [] [] rfl (by kernel_rfl) on wn ?_
                refine h_local ⟨[(8, .v (.slice A1 S1.length c1)), (121, .v (.agg #[.int .i64 10, .int .i64 (S1.getD J.toNat default).holder, .string emp])), (120, .v (.slice A1 S1.length c1)), (119, .v (.pointer (some (((oad A1).add (J.toNat * 4)).add 3)))), (117, .v (.slice A7 ((S1.getD J.toNat default).line.xs ++ [who]).length c7)), (14, .p 1 0), (12, .v (.slice A1 S1.length c1)), (9, .p 0 0)], [⟨26, [vI 10, vI (S1.getD J.toNat default).holder, vS emp]⟩, ⟨26, [vI 10, vI (S1.getD J.toNat default).holder, vS emp]⟩]⟩ (by kernel_rfl) (fun bs0 bs w hp hl hS => hS.down hp hl rfl (le_mask (le_same le_nil)) (List.Sublist.refl _)) ?_
                refine h_quiet [] [(4, true)] [(10, vI 0), (8, .v (.slice A1 S1.length c1)), (121, .v (.agg #[.int .i64 10, .int .i64 (S1.getD J.toNat default).holder, .string emp])), (120, .v (.slice A1 S1.length c1)), (119, .v (.pointer (some (((oad A1).add (J.toNat * 4)).add 3)))), (117, .v (.slice A7 ((S1.getD J.toNat default).line.xs ++ [who]).length c7)), (14, .p 1 0), (12, .v (.slice A1 S1.length c1)), (9, .p 0 0)] [] [] rfl (by kernel_rfl) on wn ?_
                refine h_nil ?_
                refine l_nil (q_then_normal ?_)
                refine c_ret ?_
                refine q_ret (.inl rfl) [.v (.slice A1 S1.length c1), .v (.agg #[.int .i64 10, .int .i64 (S1.getD J.toNat default).holder, .string emp]), vI 0] rfl (fun bs w hS => ?_)
                have hask0 : mAsk (S1.map CLock.abs) t who = 0 := by rw [hF1]; assumption
                rw [← hF1]
                have hq1 : (S1.getD J.toNat default).abs.holder = (S1.getD J.toNat default).holder := rfl
                have hq2 : (S1.getD J.toNat default).abs.fence = (S1.getD J.toNat default).fence := rfl
                have hq3 : (S1.getD J.toNat default).abs.line = (S1.getD J.toNat default).line.xs := rfl
                have hq4 : (S1.getD J.toNat default).abs.name = (S1.getD J.toNat default).name := rfl
                have hvx := setL_map hbL8
                have hlt : lTake (S1.getD J.toNat default).abs who wait = (((⟨(S1.getD J.toNat default).name, (S1.getD J.toNat default).holder, (S1.getD J.toNat default).fence, ⟨A7, c7, (S1.getD J.toNat default).line.xs ++ [who]⟩⟩ : CLock)).abs, ⟨10, (S1.getD J.toNat default).holder, emp⟩) := by
                  unfold lTake
                  simp only [hq1, hq2, hq3, hq4]
                  repeat (first | rw [if_pos (by first | assumption | omega | exact .inl (by assumption) | exact .inr (by assumption))] | rw [if_neg (by first | assumption | omega | (rintro (h8 | h8) <;> simp_all; done))])
                  all_goals rfl
                have hm : mTake (S1.map CLock.abs) t who wait = ((S1.map CLock.abs).set J.toNat ((⟨(S1.getD J.toNat default).name, (S1.getD J.toNat default).holder, (S1.getD J.toNat default).fence, ⟨A7, c7, (S1.getD J.toNat default).line.xs ++ [who]⟩⟩ : CLock)).abs, ⟨10, (S1.getD J.toNat default).holder, emp⟩, 0) := by
                  unfold mTake lIdx
                  simp only [hJ, lgetD, List.length_map]
                  rw [hlt]
                  repeat (first | rw [if_pos (by first | assumption | omega)] | rw [if_neg (by first | assumption | omega | (intro h0; first | exact absurd h0 (by assumption) | (simp_all; done)))])
                  all_goals rfl
                rw [h8] at hm
                refine ⟨⟨A1, c1, L8⟩, ?_, ?_, hS.outS (y := (⟨A1, c1, L8⟩ : Sl CLock)) (out_locksG (.head _) hS.res (fun x hx => ?_))⟩
                · have hll : S1.length = L8.length := by rw [hbL8, List.length_set]
                  rw [hm]
                  exact congrArg (fun q => Ending.returned (.tuple #[.slice A1 q c1, .agg #[.int .i64 10, .int .i64 (S1.getD J.toNat default).holder, .string emp], .int .i64 0])) hll
                · exact Eq.trans hvx (congrArg Prod.fst hm).symm
                · rw [hbL8] at hx
                  rcases mem_set_ne hx with hx | hx
                  · subst hx; exact ⟨hnm1 (S1.getD J.toNat default) (mem_of_getD (L := S1) (i := J.toNat) (by omega)), allR_row (.tail _ (.head _)) (hS.res _ (.tail _ (.head _))) (fun _ _ => trivial)⟩
                  · exact ⟨hnm1 x (List.mem_of_mem_eraseIdx hx), own_inL (.tail _ (.tail _ (.head _))) hS.res hx⟩
          | false =>
            refine JL_run 9 [] [98, 14, 13, 12, 9, 2] 2 ⟨[(98, vB false), (14, .p 1 0), (13, vI J), (12, .v (.slice A1 S1.length c1)), (9, .p 0 0), (2, vI who)], [⟨26, [vI 0, vI 0, vS emp]⟩, ⟨26, [vI 10, vI (S1.getD J.toNat default).holder, vS emp]⟩]⟩ [] [] (by kernel_rfl) on wn ?_
            refine l_nil (q_then_normal ?_)
            refine c_if false rfl ?_
            refine c_skip ?_
            refine q_then_normal ?_
            refine c_seq ?_
            refine c_draw 5 [] (.p 0 (.q 1 (.p 2 (.b 3 (.p 4 .nil) .z)))) [0] [ownL (lineR 3) S1, rowA 80 A1 c1 (S1 : List CLock)] Try_mixed (by kernel_rfl) (pq_then pq_body) (List.Sublist.refl _) ?_
            refine h_quiet [] [(0, true), (1, false), (2, true)] [(8, .v (.slice A1 S1.length c1)), (121, .v (.agg #[.int .i64 10, .int .i64 (S1.getD J.toNat default).holder, .string emp])), (120, .v (.slice A1 S1.length c1)), (98, vB false), (14, .p 1 0), (13, vI J), (12, .v (.slice A1 S1.length c1)), (9, .p 0 0), (2, vI who)] [] [] rfl (by kernel_rfl) on wn ?_
            refine h_local ⟨[(8, .v (.slice A1 S1.length c1)), (121, .v (.agg #[.int .i64 10, .int .i64 (S1.getD J.toNat default).holder, .string emp])), (120, .v (.slice A1 S1.length c1)), (98, vB false), (14, .p 1 0), (13, vI J), (12, .v (.slice A1 S1.length c1)), (9, .p 0 0), (2, vI who)], [⟨26, [vI 10, vI (S1.getD J.toNat default).holder, vS emp]⟩, ⟨26, [vI 10, vI (S1.getD J.toNat default).holder, vS emp]⟩]⟩ (by kernel_rfl) (fun bs0 bs w hp hl hS => hS.down hp hl rfl (le_mask (le_same le_nil)) (List.Sublist.refl _)) ?_
            refine h_quiet [] [(4, true)] [(10, vI 0), (8, .v (.slice A1 S1.length c1)), (121, .v (.agg #[.int .i64 10, .int .i64 (S1.getD J.toNat default).holder, .string emp])), (120, .v (.slice A1 S1.length c1)), (98, vB false), (14, .p 1 0), (13, vI J), (12, .v (.slice A1 S1.length c1)), (9, .p 0 0), (2, vI who)] [] [] rfl (by kernel_rfl) on wn ?_
            refine h_nil ?_
            refine l_nil (q_then_normal ?_)
            refine c_ret ?_
            refine q_ret (.inl rfl) [.v (.slice A1 S1.length c1), .v (.agg #[.int .i64 10, .int .i64 (S1.getD J.toNat default).holder, .string emp]), vI 0] rfl (fun bs w hS => ?_)
            have hask0 : mAsk (S1.map CLock.abs) t who = 0 := by rw [hF1]; assumption
            rw [← hF1]
            have hq1 : (S1.getD J.toNat default).abs.holder = (S1.getD J.toNat default).holder := rfl
            have hq2 : (S1.getD J.toNat default).abs.fence = (S1.getD J.toNat default).fence := rfl
            have hq3 : (S1.getD J.toNat default).abs.line = (S1.getD J.toNat default).line.xs := rfl
            have hq4 : (S1.getD J.toNat default).abs.name = (S1.getD J.toNat default).name := rfl
            have hlt : lTake (S1.getD J.toNat default).abs who wait = ((S1.getD J.toNat default).abs, ⟨10, (S1.getD J.toNat default).holder, emp⟩) := by
              unfold lTake
              simp only [hq1, hq2, hq3, hq4]
              repeat (first | rw [if_pos (by first | assumption | omega | exact .inl (by assumption) | exact .inr (by assumption))] | rw [if_neg (by first | assumption | omega | (rintro (h8 | h8) <;> simp_all; done))])
              all_goals rfl
            have hm : mTake (S1.map CLock.abs) t who wait = (S1.map CLock.abs, ⟨10, (S1.getD J.toNat default).holder, emp⟩, 0) := by
              unfold mTake lIdx
              simp only [hJ, lgetD, List.length_map]
              rw [hlt]
              repeat (first | rw [if_pos (by first | assumption | omega)] | rw [if_neg (by first | assumption | omega | (intro h0; first | exact absurd h0 (by assumption) | (simp_all; done)))])
              all_goals (show ((S1.map CLock.abs).set J.toNat (S1.getD J.toNat default).abs, _, _) = _; rw [← lgetD, set_getD (by rw [List.length_map]; omega)])
            rw [h8] at hm
            refine ⟨⟨A1, c1, S1⟩, ?_, ?_, hS.outS (y := (⟨A1, c1, S1⟩ : Sl CLock)) (out_locksG (.tail _ (.head _)) hS.res (fun x hx => ?_))⟩
            · rw [hm] <;> rfl
            · exact (congrArg Prod.fst hm).symm
            · exact ⟨hnm1 x hx, own_inL (.head _) hS.res hx⟩
  | false =>
    have h1 := of_decide_eq_false h1
    refine c_if true rfl ?_
    refine c_seq ?_
    refine c_region ?_
    refine JL_run 5 [] [10, 8, 9] 1 ⟨[(10, vI (mAsk (s.xs.map CLock.abs) t who)), (8, .v (.slice none 0 0)), (9, .p 0 0)], [⟨26, [vI 0, vI 0, vS emp]⟩]⟩ [] [] (by kernel_rfl) on wn ?_
    refine l_nil (q_then_normal ?_)
    refine c_ret ?_
    refine q_then_ret (q_ret (.inl rfl) [.v (.slice none 0 0), .v (.agg #[.int .i64 0, .int .i64 0, .string emp]), vI (mAsk (s.xs.map CLock.abs) t who)] rfl (fun bs w hS => ?_))
    have hm : mTake (s.xs.map CLock.abs) t who wait = ([], zRep, mAsk (s.xs.map CLock.abs) t who) := by
      unfold mTake
      repeat (first | rw [if_pos (by first | assumption | omega)] | rw [if_neg (by first | assumption | omega | (intro h0; first | exact absurd h0 (by assumption) | (simp_all; done)))])
      all_goals rfl
    refine ⟨Sl.nil, ?_, ?_, hS.outS (Sl.rd_nil _ _)⟩
    · rw [hm] <;> rfl
    · rw [hm] <;> rfl

theorem law_LockTakes {B : Nat → Prop} (s : Sl CLock) (t : ByteArray) (who : Int) (wait : Bool) (w : World) (hs : s.rd B w) (ht : t.size ≤ 9223372036854775807) (hsm : Rds.small s) : Calls Try.prog 12 #[.slice s.A s.n s.c, .string t, .int .i64 who, .bool wait] w fun e w' => e = .returned (.bool true) ∧ Kp [] w w' := by
  have oks := Sl.rd.ok hs
  have ncs := Sl.ok.nc oks
  have hns : s.n = s.xs.length := rfl
  refine calls_J0 54 Try.func12 rfl rfl [.slice s.A s.n s.c, .string t, .int .i64 who, .bool wait] rfl ?_
  refine c_seq ?_
  refine c_region ?_
  refine JL_run 1 [] [0, 1, 2, 3] 0 ⟨[(0, .v (.slice s.A s.n s.c)), (1, vS t), (2, vI who), (3, vB wait)], []⟩ [] [] (by kernel_rfl) on wn ?_
  refine l_nil (q_then_normal ?_)
  refine c_seq ?_
  refine c_region ?_
  refine JL_run 1 [] [16, 0, 1, 2, 3] 0 ⟨[(16, .v (.slice s.A s.n s.c)), (0, .v (.slice s.A s.n s.c)), (1, vS t), (2, vI who), (3, vB wait)], []⟩ [] [] (by kernel_rfl) on wn ?_
  refine l_sub_call (σ := Sl CLock) 15 [] [.v (.slice s.A s.n s.c)] (fun y1 => .slice y1.A y1.n y1.c) (fun y1 => y1.xs.map CLock.abs = s.xs.map CLock.abs) Try.call15 rfl rfl rfl rfl (fun bs w hS => ref_LocksCopyS s w (Sl.rd.kp hs hS.kp) hsm) ?_
  rintro fp1 y1 hF1 hok1
  refine JL_run 1 [] [9, 0, 1, 2, 3] 0 ⟨[(9, .v (.slice y1.A y1.n y1.c)), (0, .v (.slice s.A s.n s.c)), (1, vS t), (2, vI who), (3, vB wait)], []⟩ [] [] (by kernel_rfl) on wn ?_
  refine l_nil (q_then_normal ?_)
  refine c_seq ?_
  refine c_region ?_
  refine JL_run 4 [] [22, 21, 20, 19, 9, 0, 1, 2, 3] 0 ⟨[(22, vB wait), (21, vI who), (20, vS t), (19, .v (.slice y1.A y1.n y1.c)), (9, .v (.slice y1.A y1.n y1.c)), (0, .v (.slice s.A s.n s.c)), (1, vS t), (2, vI who), (3, vB wait)], []⟩ [] [] (by kernel_rfl) on wn ?_
  refine l_sub_call (σ := Sl CLock) 42 [] [.v (.slice y1.A y1.n y1.c), vS t, vI who, vB wait] (fun y2 => .tuple #[.slice y2.A y2.n y2.c, .agg #[.int .i64 ((mTake (y1.xs.map CLock.abs) t who wait).2.1).code, .int .i64 ((mTake (y1.xs.map CLock.abs) t who wait).2.1).n, .string ((mTake (y1.xs.map CLock.abs) t who wait).2.1).text], .int .i64 ((mTake (y1.xs.map CLock.abs) t who wait).2.2)]) (fun y2 => y2.xs.map CLock.abs = (mTake (y1.xs.map CLock.abs) t who wait).1) Try.call42 rfl rfl rfl rfl (fun bs w hS => lock_Take y1 t who wait w (hS.res _ (.head _)) (by first | assumption | omega | (simp only [emp_size]; omega))) ?_
  rintro fp2 y2 hF2 hok2
  refine JL_run 8 [] [12, 10, 11, 9, 0, 1, 2, 3] 1 ⟨[(12, vI ((mTake (y1.xs.map CLock.abs) t who wait).2.2)), (10, .v (.slice y2.A y2.n y2.c)), (11, .p 0 0), (9, .v (.slice y1.A y1.n y1.c)), (0, .v (.slice s.A s.n s.c)), (1, vS t), (2, vI who), (3, vB wait)], [⟨26, [vI ((mTake (y1.xs.map CLock.abs) t who wait).2.1).code, vI ((mTake (y1.xs.map CLock.abs) t who wait).2.1).n, vS ((mTake (y1.xs.map CLock.abs) t who wait).2.1).text]⟩]⟩ [] [] (by kernel_rfl) on wn ?_
  refine l_nil (q_then_normal ?_)
  refine c_seq ?_
  refine c_region ?_
  refine JL_run 4 [] [31, 30, 29, 28, 12, 10, 11, 9, 0] 1 ⟨[(31, vB wait), (30, vI who), (29, vS t), (28, .v (.slice s.A s.n s.c)), (12, vI ((mTake (y1.xs.map CLock.abs) t who wait).2.2)), (10, .v (.slice y2.A y2.n y2.c)), (11, .p 0 0), (9, .v (.slice y1.A y1.n y1.c)), (0, .v (.slice s.A s.n s.c))], [⟨26, [vI ((mTake (y1.xs.map CLock.abs) t who wait).2.1).code, vI ((mTake (y1.xs.map CLock.abs) t who wait).2.1).n, vS ((mTake (y1.xs.map CLock.abs) t who wait).2.1).text]⟩]⟩ [] [] (by kernel_rfl) on wn ?_
  refine l_sub_call (σ := Sl CLock) 43 [] [.v (.slice s.A s.n s.c), vS t, vI who, vB wait] (fun y3 => .tuple #[.slice y3.A y3.n y3.c, .agg #[.int .i64 ((mTake (s.xs.map CLock.abs) t who wait).2.1).code, .int .i64 ((mTake (s.xs.map CLock.abs) t who wait).2.1).n, .string ((mTake (s.xs.map CLock.abs) t who wait).2.1).text], .int .i64 ((mTake (s.xs.map CLock.abs) t who wait).2.2)]) (fun y3 => y3.xs.map CLock.abs = (mTake (s.xs.map CLock.abs) t who wait).1) Try.call43 rfl rfl rfl rfl (fun bs w hS => ref_TakenOf s t who wait w (Sl.rd.kp hs hS.kp) (by first | assumption | omega | (simp only [emp_size]; omega))) ?_
  rintro fp3 y3 hF3 hok3
  refine JL_run 8 [] [15, 13, 14, 12, 10, 11, 9, 0] 2 ⟨[(15, vI ((mTake (s.xs.map CLock.abs) t who wait).2.2)), (13, .v (.slice y3.A y3.n y3.c)), (14, .p 1 0), (12, vI ((mTake (y1.xs.map CLock.abs) t who wait).2.2)), (10, .v (.slice y2.A y2.n y2.c)), (11, .p 0 0), (9, .v (.slice y1.A y1.n y1.c)), (0, .v (.slice s.A s.n s.c))], [⟨26, [vI ((mTake (y1.xs.map CLock.abs) t who wait).2.1).code, vI ((mTake (y1.xs.map CLock.abs) t who wait).2.1).n, vS ((mTake (y1.xs.map CLock.abs) t who wait).2.1).text]⟩, ⟨26, [vI ((mTake (s.xs.map CLock.abs) t who wait).2.1).code, vI ((mTake (s.xs.map CLock.abs) t who wait).2.1).n, vS ((mTake (s.xs.map CLock.abs) t who wait).2.1).text]⟩]⟩ [] [] (by kernel_rfl) on wn ?_
  refine l_nil (q_then_normal ?_)
  refine c_seq ?_
  refine c_region ?_
  refine JL_run 4 [(2, .val (.bool ((decide (((mTake (y1.xs.map CLock.abs) t who wait).2.1).code = ((mTake (s.xs.map CLock.abs) t who wait).2.1).code)) && ((decide (((mTake (y1.xs.map CLock.abs) t who wait).2.1).n = ((mTake (s.xs.map CLock.abs) t who wait).2.1).n)) && ((decide (((mTake (y1.xs.map CLock.abs) t who wait).2.1).text = ((mTake (s.xs.map CLock.abs) t who wait).2.1).text)) && true)))))] [39, 15, 13, 12, 10, 9, 0] 0 ⟨[(39, vB ((decide (((mTake (y1.xs.map CLock.abs) t who wait).2.1).code = ((mTake (s.xs.map CLock.abs) t who wait).2.1).code)) && ((decide (((mTake (y1.xs.map CLock.abs) t who wait).2.1).n = ((mTake (s.xs.map CLock.abs) t who wait).2.1).n)) && ((decide (((mTake (y1.xs.map CLock.abs) t who wait).2.1).text = ((mTake (s.xs.map CLock.abs) t who wait).2.1).text)) && true)))), (15, vI ((mTake (s.xs.map CLock.abs) t who wait).2.2)), (13, .v (.slice y3.A y3.n y3.c)), (12, vI ((mTake (y1.xs.map CLock.abs) t who wait).2.2)), (10, .v (.slice y2.A y2.n y2.c)), (9, .v (.slice y1.A y1.n y1.c)), (0, .v (.slice s.A s.n s.c))], []⟩ [∀ w, (do eqGuard .eql 26 (.tmp 36) (.tmp 37) (.agg #[.int .i64 ((mTake (y1.xs.map CLock.abs) t who wait).2.1).code, .int .i64 ((mTake (y1.xs.map CLock.abs) t who wait).2.1).n, .string ((mTake (y1.xs.map CLock.abs) t who wait).2.1).text]) (.agg #[.int .i64 ((mTake (s.xs.map CLock.abs) t who wait).2.1).code, .int .i64 ((mTake (s.xs.map CLock.abs) t who wait).2.1).n, .string ((mTake (s.xs.map CLock.abs) t who wait).2.1).text]); binOp .eql 26 (.agg #[.int .i64 ((mTake (y1.xs.map CLock.abs) t who wait).2.1).code, .int .i64 ((mTake (y1.xs.map CLock.abs) t who wait).2.1).n, .string ((mTake (y1.xs.map CLock.abs) t who wait).2.1).text]) (.agg #[.int .i64 ((mTake (s.xs.map CLock.abs) t who wait).2.1).code, .int .i64 ((mTake (s.xs.map CLock.abs) t who wait).2.1).n, .string ((mTake (s.xs.map CLock.abs) t who wait).2.1).text]) : Sem Value).run Try.prog w = .ok (.bool ((decide (((mTake (y1.xs.map CLock.abs) t who wait).2.1).code = ((mTake (s.xs.map CLock.abs) t who wait).2.1).code)) && ((decide (((mTake (y1.xs.map CLock.abs) t who wait).2.1).n = ((mTake (s.xs.map CLock.abs) t who wait).2.1).n)) && ((decide (((mTake (y1.xs.map CLock.abs) t who wait).2.1).text = ((mTake (s.xs.map CLock.abs) t who wait).2.1).text)) && true)))) w] [] (by kernel_rfl) (oc (eq_agg (by kernel_rfl) (by kernel_rfl)) on) wn ?_
  cases h1 : (decide (((mTake (y1.xs.map CLock.abs) t who wait).2.1).code = ((mTake (s.xs.map CLock.abs) t who wait).2.1).code)) && ((decide (((mTake (y1.xs.map CLock.abs) t who wait).2.1).n = ((mTake (s.xs.map CLock.abs) t who wait).2.1).n)) && ((decide (((mTake (y1.xs.map CLock.abs) t who wait).2.1).text = ((mTake (s.xs.map CLock.abs) t who wait).2.1).text)) && true)) with
  | true =>
    refine JL_run 5 [] [44, 13, 10, 9, 0] 0 ⟨[(44, vB (decide ((mTake (y1.xs.map CLock.abs) t who wait).2.2 = (mTake (s.xs.map CLock.abs) t who wait).2.2))), (13, .v (.slice y3.A y3.n y3.c)), (10, .v (.slice y2.A y2.n y2.c)), (9, .v (.slice y1.A y1.n y1.c)), (0, .v (.slice s.A s.n s.c))], []⟩ [] [] (by kernel_rfl) on wn ?_
    cases h2 : decide ((mTake (y1.xs.map CLock.abs) t who wait).2.2 = (mTake (s.xs.map CLock.abs) t who wait).2.2) with
    | true =>
      have h2 := of_decide_eq_true h2
      refine JL_run 2 [] [46, 45, 44, 9, 0] 0 ⟨[(46, .v (.slice y3.A y3.n y3.c)), (45, .v (.slice y2.A y2.n y2.c)), (44, vB true), (9, .v (.slice y1.A y1.n y1.c)), (0, .v (.slice s.A s.n s.c))], []⟩ [] [] (by kernel_rfl) on wn ?_
      refine l_pure 18 [] [.v (.slice y2.A y2.n y2.c), .v (.slice y3.A y3.n y3.c)] (.bool true) Try.call18 rfl rfl rfl rfl (fun bs w hS => same_locks _ _ w (hS.res _ (.tail _ (.head _))) (hS.res _ (.head _)) (by rw [hF2, hF3, hF1])) ?_
      refine JL_run 4 [] [51, 50, 49] 0 ⟨[(51, .v (.slice s.A s.n s.c)), (50, .v (.slice y1.A y1.n y1.c)), (49, vB true)], []⟩ [] [] (by kernel_rfl) on wn ?_
      refine l_pure 18 [] [.v (.slice y1.A y1.n y1.c), .v (.slice s.A s.n s.c)] (.bool true) Try.call18 rfl rfl rfl rfl (fun bs w hS => same_locks _ _ w (hS.res _ (.tail _ (.tail _ (.head _)))) (Sl.rd.kp hs hS.kp) hF1) ?_
      refine JL_run 2 [] [8] 0 ⟨[(8, vB true)], []⟩ [] [] (by kernel_rfl) on wn ?_
      refine l_nil (q_then_normal ?_)
      refine c_ret ?_
      refine q_ret (.inl rfl) [vB true] rfl (fun bs w hS => ?_)
      refine ⟨?_, hS.kp⟩
      simp [retOf, den]
    | false =>
      have h2 := of_decide_eq_false h2
      exfalso; first | (simp at h2; done) | (rw [hF1] at h2; simp at h2; done)
  | false =>
    exfalso; first | (simp at h1; done) | (rw [hF1] at h1; simp at h1; done)

end Go.Proofs.Ytececkgjacccmad.W
