/-
  The functions that the law PairSets reaches, walked: each returns what its model says.
  Conditions: those that each theorem states.
-/
import Derived.Test.YtececkgjacccmadMc
import Derived.Test.YtececkgjacccmadChecked
set_option linter.unusedVariables false
set_option linter.unusedSimpArgs false
set_option maxRecDepth 100000
namespace Go.Proofs.Ytececkgjacccmad.W
open Go.Proofs.Ytececkgjacccmad.Fw Go.RowKit

theorem Try_mixed : Try.prog.follows .mixedOrders = true := by kernel_rfl
theorem laid : laidOutB Try.prog = true := by kernel_rfl

theorem ref_In (n lo hi : Int) (w : World) : Calls Try.prog 64 #[.int .i64 n, .int .i64 lo, .int .i64 hi] w fun e w' => e = .returned (.bool (inB n lo hi)) ∧ Kp [] w w' := by
  refine calls_J0 15 Try.func64 rfl rfl [.int .i64 n, .int .i64 lo, .int .i64 hi] rfl ?_
  refine c_seq ?_
  refine c_region ?_
  refine JL_run 1 [] [0, 1, 2] 0 ⟨[(0, vI n), (1, vI lo), (2, vI hi)], []⟩ [] [] (by kernel_rfl) on wn ?_
  refine l_nil (q_then_normal ?_)
  refine c_seq ?_
  refine c_region ?_
  refine JL_run 4 [] [10, 0, 2] 0 ⟨[(10, vB (decide (lo ≤ n))), (0, vI n), (2, vI hi)], []⟩ [] [] (by kernel_rfl) on wn ?_
  cases h1 : decide (lo ≤ n) with
  | true =>
    have h1 := of_decide_eq_true h1
    refine JL_run 5 [] [6] 0 ⟨[(6, vB (decide (n ≤ hi)))], []⟩ [] [] (by kernel_rfl) on wn ?_
    refine l_nil (q_then_normal ?_)
    refine c_ret ?_
    refine q_ret (.inl rfl) [vB (decide (n ≤ hi))] rfl (fun bs w hS => ?_)
    exact ⟨by simp [retOf, den, inB, h1], hS.kp⟩
  | false =>
    have h1 := of_decide_eq_false h1
    refine JL_run 5 [] [6] 0 ⟨[(6, vB false)], []⟩ [] [] (by kernel_rfl) on wn ?_
    refine l_nil (q_then_normal ?_)
    refine c_ret ?_
    refine q_ret (.inl rfl) [vB false] rfl (fun bs w hS => ?_)
    exact ⟨by simp [retOf, den, inB, h1], hS.kp⟩

theorem lock_Name1 (c : UInt8) (w : World) : Calls Try.prog 131 #[.int .u8 (c.toNat : Int)] w fun e w' => e = .returned (.bool (nameBad c)) ∧ Kp [] w w' := by
  refine calls_J0 9 Try.func131 rfl rfl [.int .u8 (c.toNat : Int)] rfl ?_
  refine c_seq ?_
  refine c_region ?_
  refine JL_run 1 [] [0] 0 ⟨[(0, .v (.int .u8 (c.toNat : Int)))], []⟩ [] [] (by kernel_rfl) on wn ?_
  refine l_nil (q_then_normal ?_)
  refine c_seq ?_
  refine c_region ?_
  refine JL_run 3 [] [5, 0] 0 ⟨[(5, vB (decide ((c.toNat : Int) < 97))), (0, .v (.int .u8 (c.toNat : Int)))], []⟩ [] [] (by kernel_rfl) on wn ?_
  cases h1 : decide ((c.toNat : Int) < 97) with
  | true =>
    have h1 := of_decide_eq_true h1
    refine JL_run 4 [] [2] 0 ⟨[(2, vB true)], []⟩ [] [] (by kernel_rfl) on wn ?_
    refine l_nil (q_then_normal ?_)
    refine c_ret ?_
    refine q_ret (.inl rfl) [vB true] rfl (fun bs w hS => ?_)
    exact ⟨by simp [retOf, den, nameBad, h1], hS.kp⟩
  | false =>
    have h1 := of_decide_eq_false h1
    refine JL_run 4 [] [2] 0 ⟨[(2, vB (decide ((122 : Int) < (c.toNat : Int))))], []⟩ [] [] (by kernel_rfl) on wn ?_
    refine l_nil (q_then_normal ?_)
    refine c_ret ?_
    refine q_ret (.inl rfl) [vB (decide ((122 : Int) < (c.toNat : Int)))] rfl (fun bs w hS => ?_)
    exact ⟨by simp [retOf, den, nameBad, h1], hS.kp⟩

theorem idx_bytes {B : Nat → Prop} (s : Sl UInt8) (w : World) (hs : s.rd B w) : Calls Try.prog 153 #[.slice s.A s.n s.c, .func (.func 131) #[] #[]] w fun e w' => e = .returned (.int .i64 (mIdx nameBad s.xs)) ∧ Kp [] w w' := by
  have oks := Sl.rd.ok hs
  have ncs := Sl.ok.nc oks
  have hns : s.n = s.xs.length := rfl
  refine calls_J 19 [] Try.func153 rfl rfl [] [] [] [.v (.slice s.A s.n s.c), .fn 131 []] [.slice s.A s.n s.c, .func (.func 131) #[] #[]] rfl rfl (WS.start w) ?_
  refine c_seq ?_
  refine c_region ?_
  refine JL_run 1 [] [0, 1] 0 ⟨[(0, .v (.slice s.A s.n s.c)), (1, .fn 131 [])], []⟩ [] [] (by kernel_rfl) on wn ?_
  refine l_nil (q_then_normal ?_)
  refine c_seq ?_
  refine c_seq ?_
  refine c_region ?_
  refine JL_run 3 [] [8, 7, 0, 1] 0 ⟨[(8, vI 0), (7, vI ((s.n : Nat) : Int)), (0, .v (.slice s.A s.n s.c)), (1, .fn 131 [])], []⟩ [] [] (by kernel_rfl) on wn ?_
  refine l_nil (q_then_normal ?_)
  refine c_block ?_
  refine c_loop (σ := Nat) (fun i => i ≤ s.n ∧ ∀ j, j < i → nameBad (s.at j) = false) (fun i => s.n - i) (fun i => []) (fun i => ⟨[(8, vI ((i : Nat) : Int)), (7, vI ((s.n : Nat) : Int)), (0, .v (.slice s.A s.n s.c)), (1, .fn 131 [])], []⟩) 0 ⟨Nat.zero_le _, fun j hj => absurd hj (Nat.not_lt_zero _)⟩ (s_start [8, 7, 0, 1] 0 (by kernel_rfl) rfl) ?_
  rintro i ⟨hi, hI⟩
  refine c_seq ?_
  refine c_region ?_
  refine JL_run 1 [] [9, 8, 7, 0, 1] 0 ⟨[(9, vB (decide (((i : Nat) : Int) < ((s.n : Nat) : Int)))), (8, vI ((i : Nat) : Int)), (7, vI ((s.n : Nat) : Int)), (0, .v (.slice s.A s.n s.c)), (1, .fn 131 [])], []⟩ [] [] (by kernel_rfl) on wn ?_
  refine l_nil (q_then_normal ?_)
  refine c_seq ?_
  cases h1 : decide (((i : Nat) : Int) < ((s.n : Nat) : Int)) with
  | true =>
    have h1 := of_decide_eq_true h1
    refine c_if true rfl ?_
    refine c_skip ?_
    refine q_then_normal ?_
    refine c_seq ?_
    refine c_block ?_
    refine c_seq ?_
    refine c_region ?_
    refine JL_run 2 [] [5, 8, 7, 0, 1] 0 ⟨[(5, vI ((i : Nat) : Int)), (8, vI ((i : Nat) : Int)), (7, vI ((s.n : Nat) : Int)), (0, .v (.slice s.A s.n s.c)), (1, .fn 131 [])], []⟩ [] [] (by kernel_rfl) on wn ?_
    refine l_nil (q_then_normal ?_)
    refine c_seq ?_
    refine c_region ?_
    refine JL_run 5 [(3, .idx s.ad i), (4, .ext [.int .u8 ((s.at i).toNat : Int)])] [15, 11, 5, 8, 7, 0, 1] 0 ⟨[(15, .v (.int .u8 ((s.at i).toNat : Int))), (11, .fn 131 []), (5, vI ((i : Nat) : Int)), (8, vI ((i : Nat) : Int)), (7, vI ((s.n : Nat) : Int)), (0, .v (.slice s.A s.n s.c)), (1, .fn 131 [])], []⟩ [s.A = some s.ad, ((i : Nat) : Int) = ((i : Nat) : Int), i < s.n] [(s.ad.add (i * 1), [.int .u8 ((s.at i).toNat : Int)])] (by kernel_rfl) (oc (Sl.ok.own (s := s) (i := i) oks (by omega)) (oc rfl (oc (by omega) on))) (fun w hk hr => ⟨(Sl.rd.all (s := s) (i := i) (Sl.rd.kp hs hk) (by omega) rfl), trivial⟩) ?_
    refine l_pure 131 [] [.v (.int .u8 ((s.at i).toNat : Int))] (.bool (nameBad (s.at i))) Try.call131 rfl rfl rfl rfl (fun bs w hS => lock_Name1 _ w) ?_
    refine l_nil (q_then_normal ?_)
    cases h2 : nameBad (s.at i) with
    | true =>
      refine c_if true rfl ?_
      refine c_seq ?_
      refine c_region ?_
      refine JL_run 2 [] [4] 0 ⟨[(4, vI ((i : Nat) : Int))], []⟩ [] [] (by kernel_rfl) on wn ?_
      refine l_nil (q_then_normal ?_)
      refine c_ret ?_
      refine q_block_ret (q_then_ret (q_then_ret (q_block_ret (q_then_ret (q_ret (.inl rfl) [vI ((i : Nat) : Int)] rfl (fun bs w hS => ?_))))))
      refine ⟨?_, hS.kp⟩
      rw [mIdx_here (by omega) (by assumption) hI]
      rfl
    | false =>
      refine c_if false rfl ?_
      refine c_skip ?_
      refine q_block_normal (q_then_normal ?_)
      refine c_region ?_
      refine JL_run 2 [] [8, 7, 0, 1] 0 ⟨[(8, vI (((i : Nat) : Int) + 1)), (7, vI ((s.n : Nat) : Int)), (0, .v (.slice s.A s.n s.c)), (1, .fn 131 [])], []⟩ [inR (((i : Nat) : Int) + 1)] [] (by kernel_rfl) (oc (by unfold inR; omega) on) wn ?_
      refine l_nil (q_loop (x := (i : Nat)) ((i + 1) : Nat) ⟨by omega, fun j hj => by rcases Nat.lt_succ_iff_lt_or_eq.1 hj with h | h; exact hI j h; subst h; assumption⟩ (by omega) (s_start [8, 7, 0, 1] 0 (by kernel_rfl) rfl))
  | false =>
    have h1 := of_decide_eq_false h1
    refine c_if false rfl ?_
    refine c_exit ?_
    refine q_then_exit (q_then_exit (q_block_hit (q_then_normal ?_)))
    refine c_seq ?_
    refine c_region ?_
    refine JL_run 1 [] [4] 0 ⟨[(4, vI (-1))], []⟩ [] [] (by kernel_rfl) on wn ?_
    refine l_nil (q_then_normal ?_)
    refine c_ret ?_
    refine q_ret (.inl rfl) [vI (-1)] rfl (fun bs w hS => ?_)
    refine ⟨?_, hS.kp⟩
    rw [mIdx_none fun j hj => hI j (by omega)]
    rfl

theorem has_bytes {B : Nat → Prop} (s : Sl UInt8) (w : World) (hs : s.rd B w) : Calls Try.prog 130 #[.slice s.A s.n s.c, .func (.func 131) #[] #[]] w fun e w' => e = .returned (.bool (s.xs.any nameBad)) ∧ Kp [] w w' := by
  have oks := Sl.rd.ok hs
  have ncs := Sl.ok.nc oks
  have hns : s.n = s.xs.length := rfl
  refine calls_J 9 [] Try.func130 rfl rfl [] [] [] [.v (.slice s.A s.n s.c), .fn 131 []] [.slice s.A s.n s.c, .func (.func 131) #[] #[]] rfl rfl (WS.start w) ?_
  refine c_seq ?_
  refine c_region ?_
  refine JL_run 1 [] [0, 1] 0 ⟨[(0, .v (.slice s.A s.n s.c)), (1, .fn 131 [])], []⟩ [] [] (by kernel_rfl) on wn ?_
  refine l_nil (q_then_normal ?_)
  refine c_seq ?_
  refine c_region ?_
  refine JL_run 2 [] [6, 5] 0 ⟨[(6, .fn 131 []), (5, .v (.slice s.A s.n s.c))], []⟩ [] [] (by kernel_rfl) on wn ?_
  refine l_pure 153 [] [.v (.slice s.A s.n s.c), .fn 131 []] (.int .i64 (mIdx nameBad s.xs)) Try.call153 rfl rfl rfl rfl (fun bs w hS => idx_bytes _ w (Sl.rd.kp hs hS.kp)) ?_
  refine JL_run 2 [] [4] 0 ⟨[(4, vB (decide ((0 : Int) ≤ mIdx nameBad s.xs)))], []⟩ [] [] (by kernel_rfl) on wn ?_
  refine l_nil (q_then_normal ?_)
  refine c_ret ?_
  refine q_ret (.inl rfl) [vB (decide ((0 : Int) ≤ mIdx nameBad s.xs))] rfl (fun bs w hS => ?_)
  refine ⟨?_, hS.kp⟩
  simp only [retOf, den, List.map_cons, List.map_nil, mIdx_nonneg]

theorem lock_Name (s : ByteArray) (w : World) (hs : s.size ≤ 9223372036854775807) : Calls Try.prog 90 #[.string s] w fun e w' => e = .returned (.bool (mName s)) ∧ Kp [] w w' := by
  refine calls_J0 16 Try.func90 rfl rfl [.string s] rfl ?_
  refine c_seq ?_
  refine c_region ?_
  refine JL_run 1 [] [0] 0 ⟨[(0, vS s)], []⟩ [] [] (by kernel_rfl) on wn ?_
  refine l_nil (q_then_normal ?_)
  refine c_seq ?_
  refine c_region ?_
  refine JL_run 3 [] [5, 0] 0 ⟨[(5, vB (!(decide (s = emp)))), (0, vS s)], []⟩ [] [] (by kernel_rfl) on wn ?_
  cases h1 : decide (s = emp) with
  | true =>
    have h1 := of_decide_eq_true h1
    refine JL_run 11 [] [2] 0 ⟨[(2, vB false)], []⟩ [] [] (by kernel_rfl) on wn ?_
    refine l_nil (q_then_normal ?_)
    refine c_ret ?_
    refine q_ret (.inl rfl) [vB false] rfl (fun bs w hS => ?_)
    refine ⟨?_, hS.kp⟩
    simp [retOf, den, mName, *]
  | false =>
    have h1 := of_decide_eq_false h1
    refine JL_run 5 [] [10, 0] 0 ⟨[(10, vB (decide ((s.size : Int) ≤ 6))), (0, vS s)], []⟩ [] [] (by kernel_rfl) on wn ?_
    cases h2 : decide ((s.size : Int) ≤ 6) with
    | true =>
      have h2 := of_decide_eq_true h2
      refine JL_run 1 [] [11, 10] 0 ⟨[(11, vS s), (10, vB true)], []⟩ [] [] (by kernel_rfl) on wn ?_
      refine l_strbytes 5 s Try.underlying9 Try.underlying163 Try.underlying5 (by unfold maxLen; omega) rfl rfl rfl ?_
      rintro fp1 y1 hF1 hok1
      refine l_pure 130 [] [.v (.slice y1.A y1.n y1.c), .fn 131 []] (.bool (y1.xs.any nameBad)) Try.call130 rfl rfl rfl rfl (fun bs w hS => has_bytes _ w (hS.res _ (.head _))) ?_
      refine JL_run 3 [] [2] 0 ⟨[(2, vB (!(y1.xs.any nameBad)))], []⟩ [] [] (by kernel_rfl) on wn ?_
      refine l_nil (q_then_normal ?_)
      refine c_ret ?_
      refine q_ret (.inl rfl) [vB (!(y1.xs.any nameBad))] rfl (fun bs w hS => ?_)
      refine ⟨?_, hS.kp⟩
      simp [retOf, den, mName, *]
    | false =>
      have h2 := of_decide_eq_false h2
      refine JL_run 6 [] [2] 0 ⟨[(2, vB false)], []⟩ [] [] (by kernel_rfl) on wn ?_
      refine l_nil (q_then_normal ?_)
      refine c_ret ?_
      refine q_ret (.inl rfl) [vB false] rfl (fun bs w hS => ?_)
      refine ⟨?_, hS.kp⟩
      simp [retOf, den, mName, *]

theorem ref_NameMay (s : ByteArray) (w : World) (hs : s.size ≤ 9223372036854775807) : Calls Try.prog 95 #[.string s] w fun e w' => e = .returned (.bool (mName s)) ∧ Kp [] w w' := by
  refine calls_J0 19 Try.func95 rfl rfl [.string s] rfl ?_
  refine c_seq ?_
  refine c_region ?_
  refine JL_run 1 [] [0] 0 ⟨[(0, vS s)], []⟩ [] [] (by kernel_rfl) on wn ?_
  refine l_nil (q_then_normal ?_)
  refine c_seq ?_
  refine c_seq ?_
  refine c_region ?_
  refine JL_run 1 [] [3, 0] 0 ⟨[(3, vI 0), (0, vS s)], []⟩ [] [] (by kernel_rfl) on wn ?_
  refine l_nil (q_then_normal ?_)
  refine c_block ?_
  refine c_loop (σ := Nat) (fun i => i ≤ s.size ∧ ∀ j, j < i → nameBad (s.data.getD j 0) = false) (fun i => s.size - i) (fun i => []) (fun i => ⟨[(3, vI ((i : Nat) : Int)), (0, vS s)], []⟩) 0 ⟨Nat.zero_le _, fun j hj => absurd hj (Nat.not_lt_zero _)⟩ (s_start [3, 0] 0 (by kernel_rfl) rfl) ?_
  rintro i ⟨hi, hI⟩
  have hu := (s.data.getD i 0).toNat_lt
  refine c_seq ?_
  refine c_seq ?_
  refine c_region ?_
  refine JL_run 4 [] [7, 3, 0] 0 ⟨[(7, vB (decide (((i : Nat) : Int) < (s.size : Int)))), (3, vI ((i : Nat) : Int)), (0, vS s)], []⟩ [] [] (by kernel_rfl) on wn ?_
  refine l_nil (q_then_normal ?_)
  cases h1 : decide (((i : Nat) : Int) < (s.size : Int)) with
  | true =>
    have h1 := of_decide_eq_true h1
    refine c_if true rfl ?_
    refine c_skip ?_
    refine q_then_normal ?_
    refine c_seq ?_
    refine c_block ?_
    refine c_seq ?_
    refine c_region ?_
    refine JL_run 4 [(2, .sidx i)] [13, 3, 0] 0 ⟨[(13, vI ((s.data.getD i 0).toNat : Int)), (3, vI ((i : Nat) : Int)), (0, vS s)], []⟩ [((i : Nat) : Int) = ((i : Nat) : Int), i < s.size, 0 ≤ ((s.data.getD i 0).toNat : Int), ((s.data.getD i 0).toNat : Int) ≤ 255] [] (by kernel_rfl) (oc rfl (oc (by omega) (oc (by omega) (oc (by omega) on)))) wn ?_
    refine l_pure 64 [] [vI ((s.data.getD i 0).toNat : Int), vI 97, vI 122] (.bool (inB ((s.data.getD i 0).toNat : Int) 97 122)) Try.call64 rfl rfl rfl rfl (fun bs w hS => ref_In _ _ _ w) ?_
    refine JL_run 1 [] [15, 3, 0] 0 ⟨[(15, vB (!(inB ((s.data.getD i 0).toNat : Int) 97 122))), (3, vI ((i : Nat) : Int)), (0, vS s)], []⟩ [] [] (by kernel_rfl) on wn ?_
    refine l_nil (q_then_normal ?_)
    cases h2 : inB ((s.data.getD i 0).toNat : Int) 97 122 with
    | true =>
      refine c_if false rfl ?_
      refine c_skip ?_
      refine q_block_normal (q_then_normal ?_)
      refine c_region ?_
      refine JL_run 3 [] [3, 0] 0 ⟨[(3, vI (((i : Nat) : Int) + 1)), (0, vS s)], []⟩ [inR (((i : Nat) : Int) + 1)] [] (by kernel_rfl) (oc (by unfold inR; omega) on) wn ?_
      refine l_nil (q_loop (x := (i : Nat)) ((i + 1) : Nat) ⟨by omega, fun j hj => by rcases Nat.lt_succ_iff_lt_or_eq.1 hj with h | h; exact hI j h; subst h; simp only [inB, nameBad, Bool.and_eq_true, Bool.or_eq_false_iff, decide_eq_true_eq, decide_eq_false_iff_not] at *; omega⟩ (by omega) (s_start [3, 0] 0 (by kernel_rfl) rfl))
    | false =>
      refine c_if true rfl ?_
      refine c_seq ?_
      refine c_region ?_
      refine JL_run 1 [] [2] 0 ⟨[(2, vB false)], []⟩ [] [] (by kernel_rfl) on wn ?_
      refine l_nil (q_then_normal ?_)
      refine c_ret ?_
      refine q_block_ret (q_then_ret (q_then_ret (q_block_ret (q_then_ret (q_ret (.inl rfl) [vB false] rfl (fun bs w hS => ?_))))))
      refine ⟨?_, hS.kp⟩
      rw [mName_bad (i := i) (by omega) (by simp only [inB, nameBad, Bool.and_eq_false_iff, Bool.or_eq_true, decide_eq_true_eq, decide_eq_false_iff_not] at *; omega)]
      rfl
  | false =>
    have h1 := of_decide_eq_false h1
    refine c_if false rfl ?_
    refine c_exit ?_
    refine q_then_exit (q_then_exit (q_block_hit (q_then_normal ?_)))
    refine c_seq ?_
    refine c_region ?_
    refine JL_run 2 [] [17] 0 ⟨[(17, vI (s.size : Int))], []⟩ [] [] (by kernel_rfl) on wn ?_
    refine l_pure 64 [] [vI (s.size : Int), vI 1, vI 6] (.bool (inB (s.size : Int) 1 6)) Try.call64 rfl rfl rfl rfl (fun bs w hS => ref_In _ _ _ w) ?_
    refine JL_run 1 [] [2] 0 ⟨[(2, vB (inB (s.size : Int) 1 6))], []⟩ [] [] (by kernel_rfl) on wn ?_
    refine l_nil (q_then_normal ?_)
    refine c_ret ?_
    refine q_ret (.inl rfl) [vB (inB (s.size : Int) 1 6)] rfl (fun bs w hS => ?_)
    refine ⟨?_, hS.kp⟩
    simp only [retOf, den, List.map_cons, List.map_nil, mName_good fun j hj => hI j (by omega)]

theorem pair_Check {B : Nat → Prop} (s : Sl DPair) (w : World) (hs : s.rd B w) : Calls Try.prog 89 #[.slice s.A s.n s.c] w fun e w' => e = .returned (.int .i64 (mPairs s.xs)) ∧ Kp [] w w' := by
  have oks := Sl.rd.ok hs
  have ncs := Sl.ok.nc oks
  have hns : s.n = s.xs.length := rfl
  refine calls_J0 45 Try.func89 rfl rfl [.slice s.A s.n s.c] rfl ?_
  refine c_seq ?_
  refine c_region ?_
  refine JL_run 1 [] [0] 0 ⟨[(0, .v (.slice s.A s.n s.c))], []⟩ [] [] (by kernel_rfl) on wn ?_
  refine l_nil (q_then_normal ?_)
  refine c_seq ?_
  refine c_seq ?_
  refine c_region ?_
  refine JL_run 3 [] [7, 0] 0 ⟨[(7, vB (decide ((5 : Int) < ((s.n : Nat) : Int)))), (0, .v (.slice s.A s.n s.c))], []⟩ [] [] (by kernel_rfl) on wn ?_
  refine l_nil (q_then_normal ?_)
  cases h1 : decide ((5 : Int) < ((s.n : Nat) : Int)) with
  | true =>
    have h1 := of_decide_eq_true h1
    refine c_if true rfl ?_
    refine c_seq ?_
    refine c_region ?_
    refine JL_run 1 [] [2] 0 ⟨[(2, vI 1)], []⟩ [] [] (by kernel_rfl) on wn ?_
    refine l_nil (q_then_normal ?_)
    refine c_ret ?_
    refine q_then_ret (q_ret (.inl rfl) [vI 1] rfl (fun bs w hS => ?_))
    refine ⟨?_, hS.kp⟩
    simp only [retOf, den, List.map_cons, List.map_nil]
    have hm : mPairs s.xs = 1 := by
      unfold mPairs; rw [if_pos (by omega)]
    rw [hm]
  | false =>
    have h1 := of_decide_eq_false h1
    refine c_if false rfl ?_
    refine c_skip ?_
    refine q_then_normal ?_
    refine c_seq ?_
    refine c_seq ?_
    refine c_region ?_
    refine JL_run 3 [] [10, 9, 8, 0] 0 ⟨[(10, vI 0), (9, vI ((s.n : Nat) : Int)), (8, .v (.slice s.A s.n s.c)), (0, .v (.slice s.A s.n s.c))], []⟩ [] [] (by kernel_rfl) on wn ?_
    refine l_nil (q_then_normal ?_)
    refine c_block ?_
    refine c_loop (σ := Nat) (fun i => i ≤ s.n ∧ mPairs s.xs = firstF (pairF s.xs) (s.n - i) i) (fun i => s.n - i) (fun i => []) (fun i => ⟨[(10, vI ((i : Nat) : Int)), (9, vI ((s.n : Nat) : Int)), (8, .v (.slice s.A s.n s.c)), (0, .v (.slice s.A s.n s.c))], []⟩) 0 ⟨Nat.zero_le _, by unfold mPairs; rw [if_neg (by omega)]⟩ (s_start [10, 9, 8, 0] 0 (by kernel_rfl) rfl) ?_
    rintro i ⟨hi, hI⟩
    have hlt := hi
    refine c_seq ?_
    refine c_region ?_
    refine JL_run 1 [] [11, 10, 9, 8, 0] 0 ⟨[(11, vB (decide (((i : Nat) : Int) < ((s.n : Nat) : Int)))), (10, vI ((i : Nat) : Int)), (9, vI ((s.n : Nat) : Int)), (8, .v (.slice s.A s.n s.c)), (0, .v (.slice s.A s.n s.c))], []⟩ [] [] (by kernel_rfl) on wn ?_
    refine l_nil (q_then_normal ?_)
    refine c_seq ?_
    cases h2 : decide (((i : Nat) : Int) < ((s.n : Nat) : Int)) with
    | true =>
      have h2 := of_decide_eq_true h2
      refine c_if true rfl ?_
      refine c_skip ?_
      refine q_then_normal ?_
      refine c_seq ?_
      refine c_block ?_
      refine c_seq ?_
      refine c_region ?_
      refine JL_run 6 [(1, .idx s.ad i), (2, .ext [.string (s.at i).name, .string (s.at i).value, .int .i64 (s.at i).version])] [3, 4, 10, 9, 8, 0] 1 ⟨[(3, vI ((i : Nat) : Int)), (4, .p 0 0), (10, vI ((i : Nat) : Int)), (9, vI ((s.n : Nat) : Int)), (8, .v (.slice s.A s.n s.c)), (0, .v (.slice s.A s.n s.c))], [⟨110, [vS (s.at i).name, vS (s.at i).value, vI (s.at i).version]⟩]⟩ [s.A = some s.ad, ((i : Nat) : Int) = ((i : Nat) : Int), i < s.n] [(s.ad.add (i * 3), [.string (s.at i).name, .string (s.at i).value, .int .i64 (s.at i).version])] (by kernel_rfl) (oc (Sl.ok.own (s := s) (i := i) oks (by omega)) (oc rfl (oc (by omega) on))) (fun w hk hr => ⟨(Sl.rd.all (s := s) (i := i) (Sl.rd.kp hs hk) (by omega) rfl), trivial⟩) ?_
      refine l_nil (q_then_normal ?_)
      refine c_seq ?_
      refine c_seq ?_
      refine c_region ?_
      refine JL_run 2 [] [16, 3, 4, 10, 9, 8, 0] 1 ⟨[(16, vS (s.at i).name), (3, vI ((i : Nat) : Int)), (4, .p 0 0), (10, vI ((i : Nat) : Int)), (9, vI ((s.n : Nat) : Int)), (8, .v (.slice s.A s.n s.c)), (0, .v (.slice s.A s.n s.c))], [⟨110, [vS (s.at i).name, vS (s.at i).value, vI (s.at i).version]⟩]⟩ [] [] (by kernel_rfl) on wn ?_
      refine l_pure 90 [] [vS (s.at i).name] (.bool (mName (s.at i).name)) Try.call90 rfl rfl rfl rfl (fun bs w hS => lock_Name _ w (And.left (Sl.ok.at (s := s) (i := i) oks (by omega)))) ?_
      refine JL_run 1 [] [18, 3, 4, 10, 9, 8, 0] 1 ⟨[(18, vB (!(mName (s.at i).name))), (3, vI ((i : Nat) : Int)), (4, .p 0 0), (10, vI ((i : Nat) : Int)), (9, vI ((s.n : Nat) : Int)), (8, .v (.slice s.A s.n s.c)), (0, .v (.slice s.A s.n s.c))], [⟨110, [vS (s.at i).name, vS (s.at i).value, vI (s.at i).version]⟩]⟩ [] [] (by kernel_rfl) on wn ?_
      refine l_nil (q_then_normal ?_)
      cases h3 : mName (s.at i).name with
      | true =>
        refine c_if false rfl ?_
        refine c_skip ?_
        refine q_then_normal ?_
        refine c_seq ?_
        refine c_seq ?_
        refine c_region ?_
        refine JL_run 4 [] [22, 3, 4, 10, 9, 8, 0] 1 ⟨[(22, vB (decide ((12 : Int) < ((s.at i).value.size : Int)))), (3, vI ((i : Nat) : Int)), (4, .p 0 0), (10, vI ((i : Nat) : Int)), (9, vI ((s.n : Nat) : Int)), (8, .v (.slice s.A s.n s.c)), (0, .v (.slice s.A s.n s.c))], [⟨110, [vS (s.at i).name, vS (s.at i).value, vI (s.at i).version]⟩]⟩ [] [] (by kernel_rfl) on wn ?_
        refine l_nil (q_then_normal ?_)
        cases h4 : decide ((12 : Int) < ((s.at i).value.size : Int)) with
        | true =>
          have h4 := of_decide_eq_true h4
          refine c_if true rfl ?_
          refine c_seq ?_
          refine c_region ?_
          refine JL_run 1 [] [2] 0 ⟨[(2, vI 1)], []⟩ [] [] (by kernel_rfl) on wn ?_
          refine l_nil (q_then_normal ?_)
          refine c_ret ?_
          refine q_then_ret (q_block_ret (q_then_ret (q_then_ret (q_block_ret (q_then_ret (q_ret (.inl rfl) [vI 1] rfl (fun bs w hS => ?_)))))))
          refine ⟨?_, hS.kp⟩
          simp only [retOf, den, List.map_cons, List.map_nil]
          have hf : pairF s.xs i = 1 := by
            have hat : ∀ q, s.xs.getD q default = s.at q := fun _ => rfl
            unfold pairF
            simp only [hat]
            try simp only [h1, h2, h3, h4, emp_size, ne_eq, not_true_eq_false, not_false_eq_true, true_or, or_true, false_or, or_false, and_true, true_and, and_false, false_and, and_self, or_self, if_true, if_false, Bool.true_eq_false, Bool.false_eq_true, reduceIte, Classical.not_not, Bool.and_eq_true, decide_eq_true_eq]
            repeat (first | rw [if_pos (by omega)] | rw [if_neg (by omega)])
            all_goals first | rfl | (exfalso; omega)
          rw [hI, firstF_here (by omega) hf (by omega)]
        | false =>
          have h4 := of_decide_eq_false h4
          refine c_if false rfl ?_
          refine c_skip ?_
          refine q_then_normal ?_
          refine c_seq ?_
          refine c_seq ?_
          refine c_region ?_
          refine JL_run 4 [] [26, 3, 4, 10, 9, 8, 0] 1 ⟨[(26, vB (decide ((s.at i).version < 1))), (3, vI ((i : Nat) : Int)), (4, .p 0 0), (10, vI ((i : Nat) : Int)), (9, vI ((s.n : Nat) : Int)), (8, .v (.slice s.A s.n s.c)), (0, .v (.slice s.A s.n s.c))], [⟨110, [vS (s.at i).name, vS (s.at i).value, vI (s.at i).version]⟩]⟩ [] [] (by kernel_rfl) on wn ?_
          cases h5 : decide ((s.at i).version < 1) with
          | true =>
            have h5 := of_decide_eq_true h5
            refine JL_run 4 [] [30, 3, 4, 10, 9, 8, 0] 1 ⟨[(30, vB true), (3, vI ((i : Nat) : Int)), (4, .p 0 0), (10, vI ((i : Nat) : Int)), (9, vI ((s.n : Nat) : Int)), (8, .v (.slice s.A s.n s.c)), (0, .v (.slice s.A s.n s.c))], [⟨110, [vS (s.at i).name, vS (s.at i).value, vI (s.at i).version]⟩]⟩ [] [] (by kernel_rfl) on wn ?_
            refine l_nil (q_then_normal ?_)
            refine c_if true rfl ?_
            refine c_seq ?_
            refine c_region ?_
            refine JL_run 1 [] [2] 0 ⟨[(2, vI 2)], []⟩ [] [] (by kernel_rfl) on wn ?_
            refine l_nil (q_then_normal ?_)
            refine c_ret ?_
            refine q_then_ret (q_block_ret (q_then_ret (q_then_ret (q_block_ret (q_then_ret (q_ret (.inl rfl) [vI 2] rfl (fun bs w hS => ?_)))))))
            refine ⟨?_, hS.kp⟩
            simp only [retOf, den, List.map_cons, List.map_nil]
            have hf : pairF s.xs i = 2 := by
              have hat : ∀ q, s.xs.getD q default = s.at q := fun _ => rfl
              unfold pairF
              simp only [hat]
              try simp only [h1, h2, h3, h4, h5, emp_size, ne_eq, not_true_eq_false, not_false_eq_true, true_or, or_true, false_or, or_false, and_true, true_and, and_false, false_and, and_self, or_self, if_true, if_false, Bool.true_eq_false, Bool.false_eq_true, reduceIte, Classical.not_not, Bool.and_eq_true, decide_eq_true_eq]
              repeat (first | rw [if_pos (by omega)] | rw [if_neg (by omega)])
              all_goals first | rfl | (exfalso; omega)
            rw [hI, firstF_here (by omega) hf (by omega)]
          | false =>
            have h5 := of_decide_eq_false h5
            refine JL_run 4 [] [30, 3, 4, 10, 9, 8, 0] 1 ⟨[(30, vB (decide ((1073741824 : Int) < (s.at i).version))), (3, vI ((i : Nat) : Int)), (4, .p 0 0), (10, vI ((i : Nat) : Int)), (9, vI ((s.n : Nat) : Int)), (8, .v (.slice s.A s.n s.c)), (0, .v (.slice s.A s.n s.c))], [⟨110, [vS (s.at i).name, vS (s.at i).value, vI (s.at i).version]⟩]⟩ [] [] (by kernel_rfl) on wn ?_
            refine l_nil (q_then_normal ?_)
            cases h6 : decide ((1073741824 : Int) < (s.at i).version) with
            | true =>
              have h6 := of_decide_eq_true h6
              refine c_if true rfl ?_
              refine c_seq ?_
              refine c_region ?_
              refine JL_run 1 [] [2] 0 ⟨[(2, vI 2)], []⟩ [] [] (by kernel_rfl) on wn ?_
              refine l_nil (q_then_normal ?_)
              refine c_ret ?_
              refine q_then_ret (q_block_ret (q_then_ret (q_then_ret (q_block_ret (q_then_ret (q_ret (.inl rfl) [vI 2] rfl (fun bs w hS => ?_)))))))
              refine ⟨?_, hS.kp⟩
              simp only [retOf, den, List.map_cons, List.map_nil]
              have hf : pairF s.xs i = 2 := by
                have hat : ∀ q, s.xs.getD q default = s.at q := fun _ => rfl
                unfold pairF
                simp only [hat]
                try simp only [h1, h2, h3, h4, h5, h6, emp_size, ne_eq, not_true_eq_false, not_false_eq_true, true_or, or_true, false_or, or_false, and_true, true_and, and_false, false_and, and_self, or_self, if_true, if_false, Bool.true_eq_false, Bool.false_eq_true, reduceIte, Classical.not_not, Bool.and_eq_true, decide_eq_true_eq]
                repeat (first | rw [if_pos (by omega)] | rw [if_neg (by omega)])
                all_goals first | rfl | (exfalso; omega)
              rw [hI, firstF_here (by omega) hf (by omega)]
            | false =>
              have h6 := of_decide_eq_false h6
              refine c_if false rfl ?_
              refine c_skip ?_
              refine q_then_normal ?_
              refine c_seq ?_
              refine c_draw 13 [] (.p 0 (.p 1 (.p 2 (.p 3 (.p 4 (.p 5 (.p 6 (.p 7 (.q 8 (.p 9 (.q 10 (.p 11 (.p 12 .nil))))))))))))) [] [] Try_mixed (by kernel_rfl) (pq_then (pq_block (pq_then (pq_then (pq_block (pq_then pq_body)))))) .slnil ?_
              refine h_quiet [] [(0, true), (1, true), (2, true)] [(33, vB (decide ((0 : Int) < ((i : Nat) : Int)))), (32, vB (decide ((0 : Int) < ((i : Nat) : Int)))), (31, vI ((i : Nat) : Int)), (30, vB false), (3, vI ((i : Nat) : Int)), (4, .p 0 0), (10, vI ((i : Nat) : Int)), (9, vI ((s.n : Nat) : Int)), (8, .v (.slice s.A s.n s.c)), (0, .v (.slice s.A s.n s.c))] [] [] rfl (by kernel_rfl) on wn ?_
              cases h7 : decide ((0 : Int) < ((i : Nat) : Int)) with
              | true =>
                have h7 := of_decide_eq_true h7
                refine h_quiet [(6, .idx s.ad (i - 1)), (8, .ext [.string (s.at (i - 1)).name])] [(3, true), (4, true), (5, true), (6, true), (7, true), (8, false), (9, true), (10, false), (11, true), (12, true)] [(43, vB (!(Op.bytesLess ((s.at (i - 1)).name).toList ((s.at i).name).toList))), (42, vB (!(Op.bytesLess ((s.at (i - 1)).name).toList ((s.at i).name).toList))), (41, vS (s.at i).name), (40, .p 0 0), (39, vS (s.at (i - 1)).name), (38, .v (.pointer (some ((s.ad.add ((i - 1) * 3)).add 0)))), (37, .v (.pointer (some (s.ad.add ((i - 1) * 3))))), (36, vI (((i : Nat) : Int) - 1)), (35, vI ((i : Nat) : Int)), (34, .v (.slice s.A s.n s.c)), (33, vB true), (32, vB true), (31, vI ((i : Nat) : Int)), (30, vB false), (3, vI ((i : Nat) : Int)), (4, .p 0 0), (10, vI ((i : Nat) : Int)), (9, vI ((s.n : Nat) : Int)), (8, .v (.slice s.A s.n s.c)), (0, .v (.slice s.A s.n s.c))] [inR (((i : Nat) : Int) - 1), s.A = some s.ad, ((i : Nat) : Int) - 1 = (((i - 1) : Nat) : Int), (i - 1) < s.n] [((s.ad.add ((i - 1) * 3)).add 0, [.string (s.at (i - 1)).name])] rfl (by kernel_rfl) (oc (by unfold inR; omega) (oc (Sl.ok.own (s := s) (i := (i - 1)) oks (by omega)) (oc (by omega) (oc (by omega) on)))) (fun w hk hr => ⟨(Sl.rd.fld (s := s) (i := (i - 1)) (Sl.rd.kp hs hk) (by omega) 0 1 rfl), trivial⟩) ?_
                refine h_nil ?_
                refine l_nil (q_then_normal ?_)
                cases h8 : Op.bytesLess ((s.at (i - 1)).name).toList ((s.at i).name).toList with
                | true =>
                  refine c_if false rfl ?_
                  refine c_skip ?_
                  refine q_block_normal (q_then_normal ?_)
                  refine c_region ?_
                  refine JL_run 2 [] [10, 9, 8, 0] 0 ⟨[(10, vI (((i : Nat) : Int) + 1)), (9, vI ((s.n : Nat) : Int)), (8, .v (.slice s.A s.n s.c)), (0, .v (.slice s.A s.n s.c))], []⟩ [inR (((i : Nat) : Int) + 1)] [] (by kernel_rfl) (oc (by unfold inR; omega) on) wn ?_
                  have hf0 : pairF s.xs i = 0 := by
                    have hat : ∀ q, s.xs.getD q default = s.at q := fun _ => rfl
                    unfold pairF
                    simp only [hat]
                    try simp only [h1, h2, h3, h4, h5, h6, h7, h8, emp_size, ne_eq, not_true_eq_false, not_false_eq_true, true_or, or_true, false_or, or_false, and_true, true_and, and_false, false_and, and_self, or_self, if_true, if_false, Bool.true_eq_false, Bool.false_eq_true, reduceIte, Classical.not_not, Bool.and_eq_true, decide_eq_true_eq]
                    repeat (first | rw [if_pos (by omega)] | rw [if_neg (by omega)])
                    all_goals first | rfl | (exfalso; omega)
                  refine l_nil (q_loop (x := (i : Nat)) ((i + 1) : Nat) ⟨by omega, by rw [hI]; exact firstF_step (by omega) hf0⟩ (by omega) (s_start [10, 9, 8, 0] 0 (by kernel_rfl) rfl))
                | false =>
                  refine c_if true rfl ?_
                  refine c_seq ?_
                  refine c_region ?_
                  refine JL_run 1 [] [2] 0 ⟨[(2, vI 14)], []⟩ [] [] (by kernel_rfl) on wn ?_
                  refine l_nil (q_then_normal ?_)
                  refine c_ret ?_
                  refine q_block_ret (q_then_ret (q_then_ret (q_block_ret (q_then_ret (q_ret (.inl rfl) [vI 14] rfl (fun bs w hS => ?_))))))
                  refine ⟨?_, hS.kp⟩
                  simp only [retOf, den, List.map_cons, List.map_nil]
                  have hf : pairF s.xs i = 14 := by
                    have hat : ∀ q, s.xs.getD q default = s.at q := fun _ => rfl
                    unfold pairF
                    simp only [hat]
                    try simp only [h1, h2, h3, h4, h5, h6, h7, h8, emp_size, ne_eq, not_true_eq_false, not_false_eq_true, true_or, or_true, false_or, or_false, and_true, true_and, and_false, false_and, and_self, or_self, if_true, if_false, Bool.true_eq_false, Bool.false_eq_true, reduceIte, Classical.not_not, Bool.and_eq_true, decide_eq_true_eq]
                    repeat (first | rw [if_pos (by omega)] | rw [if_neg (by omega)])
                    all_goals first | rfl | (exfalso; omega)
                  rw [hI, firstF_here (by omega) hf (by omega)]
              | false =>
                have h7 := of_decide_eq_false h7
                refine h_quiet [] [(3, true), (4, true), (5, true), (6, true), (7, true), (8, false), (9, true), (10, false), (11, true), (12, true)] [(43, vB false), (42, .v (undef)), (41, .v (undef)), (40, .v (undef)), (39, .v (undef)), (38, .v (undef)), (37, .v (undef)), (36, .v (undef)), (35, .v (undef)), (34, .v (undef)), (33, vB false), (32, vB false), (31, vI ((i : Nat) : Int)), (30, vB false), (3, vI ((i : Nat) : Int)), (4, .p 0 0), (10, vI ((i : Nat) : Int)), (9, vI ((s.n : Nat) : Int)), (8, .v (.slice s.A s.n s.c)), (0, .v (.slice s.A s.n s.c))] [] [] rfl (by kernel_rfl) on wn ?_
                refine h_nil ?_
                refine l_nil (q_then_normal ?_)
                refine c_if false rfl ?_
                refine c_skip ?_
                refine q_block_normal (q_then_normal ?_)
                refine c_region ?_
                refine JL_run 2 [] [10, 9, 8, 0] 0 ⟨[(10, vI (((i : Nat) : Int) + 1)), (9, vI ((s.n : Nat) : Int)), (8, .v (.slice s.A s.n s.c)), (0, .v (.slice s.A s.n s.c))], []⟩ [inR (((i : Nat) : Int) + 1)] [] (by kernel_rfl) (oc (by unfold inR; omega) on) wn ?_
                have hf0 : pairF s.xs i = 0 := by
                  have hat : ∀ q, s.xs.getD q default = s.at q := fun _ => rfl
                  unfold pairF
                  simp only [hat]
                  try simp only [h1, h2, h3, h4, h5, h6, h7, emp_size, ne_eq, not_true_eq_false, not_false_eq_true, true_or, or_true, false_or, or_false, and_true, true_and, and_false, false_and, and_self, or_self, if_true, if_false, Bool.true_eq_false, Bool.false_eq_true, reduceIte, Classical.not_not, Bool.and_eq_true, decide_eq_true_eq]
                  repeat (first | rw [if_pos (by omega)] | rw [if_neg (by omega)])
                  all_goals first | rfl | (exfalso; omega)
                refine l_nil (q_loop (x := (i : Nat)) ((i + 1) : Nat) ⟨by omega, by rw [hI]; exact firstF_step (by omega) hf0⟩ (by omega) (s_start [10, 9, 8, 0] 0 (by kernel_rfl) rfl))
      | false =>
        refine c_if true rfl ?_
        refine c_seq ?_
        refine c_region ?_
        refine JL_run 1 [] [2] 0 ⟨[(2, vI 4)], []⟩ [] [] (by kernel_rfl) on wn ?_
        refine l_nil (q_then_normal ?_)
        refine c_ret ?_
        refine q_then_ret (q_block_ret (q_then_ret (q_then_ret (q_block_ret (q_then_ret (q_ret (.inl rfl) [vI 4] rfl (fun bs w hS => ?_)))))))
        refine ⟨?_, hS.kp⟩
        simp only [retOf, den, List.map_cons, List.map_nil]
        have hf : pairF s.xs i = 4 := by
          have hat : ∀ q, s.xs.getD q default = s.at q := fun _ => rfl
          unfold pairF
          simp only [hat]
          try simp only [h1, h2, h3, emp_size, ne_eq, not_true_eq_false, not_false_eq_true, true_or, or_true, false_or, or_false, and_true, true_and, and_false, false_and, and_self, or_self, if_true, if_false, Bool.true_eq_false, Bool.false_eq_true, reduceIte, Classical.not_not, Bool.and_eq_true, decide_eq_true_eq]
          repeat (first | rw [if_pos (by omega)] | rw [if_neg (by omega)])
          all_goals first | rfl | (exfalso; omega)
        rw [hI, firstF_here (by omega) hf (by omega)]
    | false =>
      have h2 := of_decide_eq_false h2
      refine c_if false rfl ?_
      refine c_exit ?_
      refine q_then_exit (q_then_exit (q_block_hit (q_then_normal ?_)))
      refine c_seq ?_
      refine c_region ?_
      refine JL_run 1 [] [2] 0 ⟨[(2, vI 0)], []⟩ [] [] (by kernel_rfl) on wn ?_
      refine l_nil (q_then_normal ?_)
      refine c_ret ?_
      refine q_ret (.inl rfl) [vI 0] rfl (fun bs w hS => ?_)
      refine ⟨?_, hS.kp⟩
      simp only [retOf, den, List.map_cons, List.map_nil]
      rw [hI, firstF_end (by omega)]

theorem ref_PairsFault {B : Nat → Prop} (s : Sl DPair) (w : World) (hs : s.rd B w) : Calls Try.prog 94 #[.slice s.A s.n s.c] w fun e w' => e = .returned (.int .i64 (mPairs s.xs)) ∧ Kp [] w w' := by
  have oks := Sl.rd.ok hs
  have ncs := Sl.ok.nc oks
  have hns : s.n = s.xs.length := rfl
  refine calls_J0 50 Try.func94 rfl rfl [.slice s.A s.n s.c] rfl ?_
  refine c_seq ?_
  refine c_region ?_
  refine JL_run 1 [] [0] 0 ⟨[(0, .v (.slice s.A s.n s.c))], []⟩ [] [] (by kernel_rfl) on wn ?_
  refine l_nil (q_then_normal ?_)
  refine c_seq ?_
  refine c_seq ?_
  refine c_region ?_
  refine JL_run 3 [] [6, 0] 0 ⟨[(6, vB (decide ((5 : Int) < ((s.n : Nat) : Int)))), (0, .v (.slice s.A s.n s.c))], []⟩ [] [] (by kernel_rfl) on wn ?_
  refine l_nil (q_then_normal ?_)
  cases h1 : decide ((5 : Int) < ((s.n : Nat) : Int)) with
  | true =>
    have h1 := of_decide_eq_true h1
    refine c_if true rfl ?_
    refine c_seq ?_
    refine c_region ?_
    refine JL_run 1 [] [2] 0 ⟨[(2, vI 1)], []⟩ [] [] (by kernel_rfl) on wn ?_
    refine l_nil (q_then_normal ?_)
    refine c_ret ?_
    refine q_then_ret (q_ret (.inl rfl) [vI 1] rfl (fun bs w hS => ?_))
    refine ⟨?_, hS.kp⟩
    simp only [retOf, den, List.map_cons, List.map_nil]
    have hm : mPairs s.xs = 1 := by
      unfold mPairs; rw [if_pos (by omega)]
    rw [hm]
  | false =>
    have h1 := of_decide_eq_false h1
    refine c_if false rfl ?_
    refine c_skip ?_
    refine q_then_normal ?_
    refine c_seq ?_
    refine c_seq ?_
    refine c_region ?_
    refine JL_run 1 [] [3, 0] 0 ⟨[(3, vI 0), (0, .v (.slice s.A s.n s.c))], []⟩ [] [] (by kernel_rfl) on wn ?_
    refine l_nil (q_then_normal ?_)
    refine c_block ?_
    refine c_loop (σ := Nat) (fun i => i ≤ s.n ∧ mPairs s.xs = firstF (pairF s.xs) (s.n - i) i) (fun i => s.n - i) (fun i => []) (fun i => ⟨[(3, vI ((i : Nat) : Int)), (0, .v (.slice s.A s.n s.c))], []⟩) 0 ⟨Nat.zero_le _, by unfold mPairs; rw [if_neg (by omega)]⟩ (s_start [3, 0] 0 (by kernel_rfl) rfl) ?_
    rintro i ⟨hi, hI⟩
    have hlt := hi
    refine c_seq ?_
    refine c_seq ?_
    refine c_region ?_
    refine JL_run 4 [] [10, 3, 0] 0 ⟨[(10, vB (decide (((i : Nat) : Int) < ((s.n : Nat) : Int)))), (3, vI ((i : Nat) : Int)), (0, .v (.slice s.A s.n s.c))], []⟩ [] [] (by kernel_rfl) on wn ?_
    refine l_nil (q_then_normal ?_)
    cases h2 : decide (((i : Nat) : Int) < ((s.n : Nat) : Int)) with
    | true =>
      have h2 := of_decide_eq_true h2
      refine c_if true rfl ?_
      refine c_skip ?_
      refine q_then_normal ?_
      refine c_seq ?_
      refine c_block ?_
      refine c_seq ?_
      refine c_seq ?_
      refine c_region ?_
      refine JL_run 5 [(2, .idx s.ad i), (4, .ext [.string (s.at i).name])] [17, 3, 0] 0 ⟨[(17, vS (s.at i).name), (3, vI ((i : Nat) : Int)), (0, .v (.slice s.A s.n s.c))], []⟩ [s.A = some s.ad, ((i : Nat) : Int) = ((i : Nat) : Int), i < s.n] [((s.ad.add (i * 3)).add 0, [.string (s.at i).name])] (by kernel_rfl) (oc (Sl.ok.own (s := s) (i := i) oks (by omega)) (oc rfl (oc (by omega) on))) (fun w hk hr => ⟨(Sl.rd.fld (s := s) (i := i) (Sl.rd.kp hs hk) (by omega) 0 1 rfl), trivial⟩) ?_
      refine l_pure 95 [] [vS (s.at i).name] (.bool (mName (s.at i).name)) Try.call95 rfl rfl rfl rfl (fun bs w hS => ref_NameMay _ w (And.left (Sl.ok.at (s := s) (i := i) oks (by omega)))) ?_
      refine JL_run 1 [] [19, 3, 0] 0 ⟨[(19, vB (!(mName (s.at i).name))), (3, vI ((i : Nat) : Int)), (0, .v (.slice s.A s.n s.c))], []⟩ [] [] (by kernel_rfl) on wn ?_
      refine l_nil (q_then_normal ?_)
      cases h3 : mName (s.at i).name with
      | true =>
        refine c_if false rfl ?_
        refine c_skip ?_
        refine q_then_normal ?_
        refine c_seq ?_
        refine c_seq ?_
        refine c_region ?_
        refine JL_run 7 [(2, .idx s.ad i), (4, .ext [.string (s.at i).value])] [26, 3, 0] 0 ⟨[(26, vB (decide ((12 : Int) < ((s.at i).value.size : Int)))), (3, vI ((i : Nat) : Int)), (0, .v (.slice s.A s.n s.c))], []⟩ [s.A = some s.ad, ((i : Nat) : Int) = ((i : Nat) : Int), i < s.n] [((s.ad.add (i * 3)).add 1, [.string (s.at i).value])] (by kernel_rfl) (oc (Sl.ok.own (s := s) (i := i) oks (by omega)) (oc rfl (oc (by omega) on))) (fun w hk hr => ⟨(Sl.rd.fld (s := s) (i := i) (Sl.rd.kp hs hk) (by omega) 1 1 rfl), trivial⟩) ?_
        refine l_nil (q_then_normal ?_)
        cases h4 : decide ((12 : Int) < ((s.at i).value.size : Int)) with
        | true =>
          have h4 := of_decide_eq_true h4
          refine c_if true rfl ?_
          refine c_seq ?_
          refine c_region ?_
          refine JL_run 1 [] [2] 0 ⟨[(2, vI 1)], []⟩ [] [] (by kernel_rfl) on wn ?_
          refine l_nil (q_then_normal ?_)
          refine c_ret ?_
          refine q_then_ret (q_block_ret (q_then_ret (q_then_ret (q_block_ret (q_then_ret (q_ret (.inl rfl) [vI 1] rfl (fun bs w hS => ?_)))))))
          refine ⟨?_, hS.kp⟩
          simp only [retOf, den, List.map_cons, List.map_nil]
          have hf : pairF s.xs i = 1 := by
            have hat : ∀ q, s.xs.getD q default = s.at q := fun _ => rfl
            unfold pairF
            simp only [hat]
            try simp only [h1, h2, h3, h4, emp_size, ne_eq, not_true_eq_false, not_false_eq_true, true_or, or_true, false_or, or_false, and_true, true_and, and_false, false_and, and_self, or_self, if_true, if_false, Bool.true_eq_false, Bool.false_eq_true, reduceIte, Classical.not_not, Bool.and_eq_true, decide_eq_true_eq]
            repeat (first | rw [if_pos (by omega)] | rw [if_neg (by omega)])
            all_goals first | rfl | (exfalso; omega)
          rw [hI, firstF_here (by omega) hf (by omega)]
        | false =>
          have h4 := of_decide_eq_false h4
          refine c_if false rfl ?_
          refine c_skip ?_
          refine q_then_normal ?_
          refine c_seq ?_
          refine c_seq ?_
          refine c_region ?_
          refine JL_run 5 [(2, .idx s.ad i), (4, .ext [.int .i64 (s.at i).version])] [31, 3, 0] 0 ⟨[(31, vI (s.at i).version), (3, vI ((i : Nat) : Int)), (0, .v (.slice s.A s.n s.c))], []⟩ [s.A = some s.ad, ((i : Nat) : Int) = ((i : Nat) : Int), i < s.n] [((s.ad.add (i * 3)).add 2, [.int .i64 (s.at i).version])] (by kernel_rfl) (oc (Sl.ok.own (s := s) (i := i) oks (by omega)) (oc rfl (oc (by omega) on))) (fun w hk hr => ⟨(Sl.rd.fld (s := s) (i := i) (Sl.rd.kp hs hk) (by omega) 2 1 rfl), trivial⟩) ?_
          refine l_pure 64 [] [vI (s.at i).version, vI 1, vI 1073741824] (.bool (inB (s.at i).version 1 1073741824)) Try.call64 rfl rfl rfl rfl (fun bs w hS => ref_In _ _ _ w) ?_
          refine JL_run 1 [] [33, 3, 0] 0 ⟨[(33, vB (!(inB (s.at i).version 1 1073741824))), (3, vI ((i : Nat) : Int)), (0, .v (.slice s.A s.n s.c))], []⟩ [] [] (by kernel_rfl) on wn ?_
          refine l_nil (q_then_normal ?_)
          cases h5 : inB (s.at i).version 1 1073741824 with
          | true =>
            simp only [inB, Bool.and_eq_true, Bool.and_eq_false_iff, decide_eq_true_eq, decide_eq_false_iff_not] at h5
            refine c_if false rfl ?_
            refine c_skip ?_
            refine q_then_normal ?_
            refine c_seq ?_
            refine c_draw 16 [] (.p 0 (.p 1 (.p 2 (.p 3 (.p 4 (.p 5 (.p 6 (.q 7 (.p 8 (.p 9 (.p 10 (.p 11 (.p 12 (.q 13 (.p 14 (.p 15 .nil)))))))))))))))) [] [] Try_mixed (by kernel_rfl) (pq_then (pq_block (pq_then (pq_then (pq_block (pq_then pq_body)))))) .slnil ?_
            refine h_quiet [] [(0, true), (1, true), (2, true)] [(36, vB (decide ((0 : Int) < ((i : Nat) : Int)))), (35, vB (decide ((0 : Int) < ((i : Nat) : Int)))), (34, vI ((i : Nat) : Int)), (33, vB false), (3, vI ((i : Nat) : Int)), (0, .v (.slice s.A s.n s.c))] [] [] rfl (by kernel_rfl) on wn ?_
            cases h6 : decide ((0 : Int) < ((i : Nat) : Int)) with
            | true =>
              have h6 := of_decide_eq_true h6
              refine h_quiet [(5, .idx s.ad i), (7, .ext [.string (s.at i).name]), (11, .idx s.ad (i - 1)), (13, .ext [.string (s.at (i - 1)).name])] [(3, true), (4, true), (5, true), (6, true), (7, false), (8, true), (9, true), (10, true), (11, true), (12, true), (13, false), (14, true), (15, true)] [(49, vB (Op.bytesLess ((s.at i).name).toList ((s.at (i - 1)).name).toList || decide ((s.at i).name = (s.at (i - 1)).name))), (48, vB (Op.bytesLess ((s.at i).name).toList ((s.at (i - 1)).name).toList || decide ((s.at i).name = (s.at (i - 1)).name))), (47, vS (s.at (i - 1)).name), (46, .v (.pointer (some ((s.ad.add ((i - 1) * 3)).add 0)))), (45, .v (.pointer (some (s.ad.add ((i - 1) * 3))))), (44, vI (((i : Nat) : Int) - 1)), (43, vI ((i : Nat) : Int)), (42, .v (.slice s.A s.n s.c)), (41, vS (s.at i).name), (40, .v (.pointer (some ((s.ad.add (i * 3)).add 0)))), (39, .v (.pointer (some (s.ad.add (i * 3))))), (38, vI ((i : Nat) : Int)), (37, .v (.slice s.A s.n s.c)), (36, vB true), (35, vB true), (34, vI ((i : Nat) : Int)), (33, vB false), (3, vI ((i : Nat) : Int)), (0, .v (.slice s.A s.n s.c))] [s.A = some s.ad, ((i : Nat) : Int) = ((i : Nat) : Int), i < s.n, inR (((i : Nat) : Int) - 1), s.A = some s.ad, ((i : Nat) : Int) - 1 = (((i - 1) : Nat) : Int), (i - 1) < s.n] [((s.ad.add (i * 3)).add 0, [.string (s.at i).name]), ((s.ad.add ((i - 1) * 3)).add 0, [.string (s.at (i - 1)).name])] rfl (by kernel_rfl) (oc (Sl.ok.own (s := s) (i := i) oks (by omega)) (oc rfl (oc (by omega) (oc (by unfold inR; omega) (oc (Sl.ok.own (s := s) (i := (i - 1)) oks (by omega)) (oc (by omega) (oc (by omega) on))))))) (fun w hk hr => ⟨(Sl.rd.fld (s := s) (i := i) (Sl.rd.kp hs hk) (by omega) 0 1 rfl), ⟨(Sl.rd.fld (s := s) (i := (i - 1)) (Sl.rd.kp hs hk) (by omega) 0 1 rfl), trivial⟩⟩) ?_
              refine h_nil ?_
              refine l_nil (q_then_normal ?_)
              cases h7 : Op.bytesLess ((s.at i).name).toList ((s.at (i - 1)).name).toList || decide ((s.at i).name = (s.at (i - 1)).name) with
              | true =>
                rw [bytes_total] at h7
                simp only [Bool.not_eq_true', Bool.not_eq_false', Bool.not_eq_true, Bool.not_eq_false] at h7
                refine c_if true rfl ?_
                refine c_seq ?_
                refine c_region ?_
                refine JL_run 1 [] [2] 0 ⟨[(2, vI 14)], []⟩ [] [] (by kernel_rfl) on wn ?_
                refine l_nil (q_then_normal ?_)
                refine c_ret ?_
                refine q_block_ret (q_then_ret (q_then_ret (q_block_ret (q_then_ret (q_ret (.inl rfl) [vI 14] rfl (fun bs w hS => ?_))))))
                refine ⟨?_, hS.kp⟩
                simp only [retOf, den, List.map_cons, List.map_nil]
                have hf : pairF s.xs i = 14 := by
                  have hat : ∀ q, s.xs.getD q default = s.at q := fun _ => rfl
                  unfold pairF
                  simp only [hat]
                  try simp only [h1, h2, h3, h4, h5, h6, h7, emp_size, ne_eq, not_true_eq_false, not_false_eq_true, true_or, or_true, false_or, or_false, and_true, true_and, and_false, false_and, and_self, or_self, if_true, if_false, Bool.true_eq_false, Bool.false_eq_true, reduceIte, Classical.not_not, Bool.and_eq_true, decide_eq_true_eq]
                  repeat (first | rw [if_pos (by omega)] | rw [if_neg (by omega)])
                  all_goals first | rfl | (exfalso; omega)
                rw [hI, firstF_here (by omega) hf (by omega)]
              | false =>
                rw [bytes_total] at h7
                simp only [Bool.not_eq_true', Bool.not_eq_false', Bool.not_eq_true, Bool.not_eq_false] at h7
                refine c_if false rfl ?_
                refine c_skip ?_
                refine q_block_normal (q_then_normal ?_)
                refine c_region ?_
                refine JL_run 3 [] [3, 0] 0 ⟨[(3, vI (((i : Nat) : Int) + 1)), (0, .v (.slice s.A s.n s.c))], []⟩ [inR (((i : Nat) : Int) + 1)] [] (by kernel_rfl) (oc (by unfold inR; omega) on) wn ?_
                have hf0 : pairF s.xs i = 0 := by
                  have hat : ∀ q, s.xs.getD q default = s.at q := fun _ => rfl
                  unfold pairF
                  simp only [hat]
                  try simp only [h1, h2, h3, h4, h5, h6, h7, emp_size, ne_eq, not_true_eq_false, not_false_eq_true, true_or, or_true, false_or, or_false, and_true, true_and, and_false, false_and, and_self, or_self, if_true, if_false, Bool.true_eq_false, Bool.false_eq_true, reduceIte, Classical.not_not, Bool.and_eq_true, decide_eq_true_eq]
                  repeat (first | rw [if_pos (by omega)] | rw [if_neg (by omega)])
                  all_goals first | rfl | (exfalso; omega)
                refine l_nil (q_loop (x := (i : Nat)) ((i + 1) : Nat) ⟨by omega, by rw [hI]; exact firstF_step (by omega) hf0⟩ (by omega) (s_start [3, 0] 0 (by kernel_rfl) rfl))
            | false =>
              have h6 := of_decide_eq_false h6
              refine h_quiet [] [(3, true), (4, true), (5, true), (6, true), (7, false), (8, true), (9, true), (10, true), (11, true), (12, true), (13, false), (14, true), (15, true)] [(49, vB false), (48, .v (undef)), (47, .v (undef)), (46, .v (undef)), (45, .v (undef)), (44, .v (undef)), (43, .v (undef)), (42, .v (undef)), (41, .v (undef)), (40, .v (undef)), (39, .v (undef)), (38, .v (undef)), (37, .v (undef)), (36, vB false), (35, vB false), (34, vI ((i : Nat) : Int)), (33, vB false), (3, vI ((i : Nat) : Int)), (0, .v (.slice s.A s.n s.c))] [] [] rfl (by kernel_rfl) on wn ?_
              refine h_nil ?_
              refine l_nil (q_then_normal ?_)
              refine c_if false rfl ?_
              refine c_skip ?_
              refine q_block_normal (q_then_normal ?_)
              refine c_region ?_
              refine JL_run 3 [] [3, 0] 0 ⟨[(3, vI (((i : Nat) : Int) + 1)), (0, .v (.slice s.A s.n s.c))], []⟩ [inR (((i : Nat) : Int) + 1)] [] (by kernel_rfl) (oc (by unfold inR; omega) on) wn ?_
              have hf0 : pairF s.xs i = 0 := by
                have hat : ∀ q, s.xs.getD q default = s.at q := fun _ => rfl
                unfold pairF
                simp only [hat]
                try simp only [h1, h2, h3, h4, h5, h6, emp_size, ne_eq, not_true_eq_false, not_false_eq_true, true_or, or_true, false_or, or_false, and_true, true_and, and_false, false_and, and_self, or_self, if_true, if_false, Bool.true_eq_false, Bool.false_eq_true, reduceIte, Classical.not_not, Bool.and_eq_true, decide_eq_true_eq]
                repeat (first | rw [if_pos (by omega)] | rw [if_neg (by omega)])
                all_goals first | rfl | (exfalso; omega)
              refine l_nil (q_loop (x := (i : Nat)) ((i + 1) : Nat) ⟨by omega, by rw [hI]; exact firstF_step (by omega) hf0⟩ (by omega) (s_start [3, 0] 0 (by kernel_rfl) rfl))
          | false =>
            simp only [inB, Bool.and_eq_true, Bool.and_eq_false_iff, decide_eq_true_eq, decide_eq_false_iff_not] at h5
            refine c_if true rfl ?_
            refine c_seq ?_
            refine c_region ?_
            refine JL_run 1 [] [2] 0 ⟨[(2, vI 2)], []⟩ [] [] (by kernel_rfl) on wn ?_
            refine l_nil (q_then_normal ?_)
            refine c_ret ?_
            refine q_then_ret (q_block_ret (q_then_ret (q_then_ret (q_block_ret (q_then_ret (q_ret (.inl rfl) [vI 2] rfl (fun bs w hS => ?_)))))))
            refine ⟨?_, hS.kp⟩
            simp only [retOf, den, List.map_cons, List.map_nil]
            have hf : pairF s.xs i = 2 := by
              have hat : ∀ q, s.xs.getD q default = s.at q := fun _ => rfl
              unfold pairF
              simp only [hat]
              try simp only [h1, h2, h3, h4, h5, emp_size, ne_eq, not_true_eq_false, not_false_eq_true, true_or, or_true, false_or, or_false, and_true, true_and, and_false, false_and, and_self, or_self, if_true, if_false, Bool.true_eq_false, Bool.false_eq_true, reduceIte, Classical.not_not, Bool.and_eq_true, decide_eq_true_eq]
              repeat (first | rw [if_pos (by omega)] | rw [if_neg (by omega)])
              all_goals first | rfl | (exfalso; omega)
            rw [hI, firstF_here (by omega) hf (by omega)]
      | false =>
        refine c_if true rfl ?_
        refine c_seq ?_
        refine c_region ?_
        refine JL_run 1 [] [2] 0 ⟨[(2, vI 4)], []⟩ [] [] (by kernel_rfl) on wn ?_
        refine l_nil (q_then_normal ?_)
        refine c_ret ?_
        refine q_then_ret (q_block_ret (q_then_ret (q_then_ret (q_block_ret (q_then_ret (q_ret (.inl rfl) [vI 4] rfl (fun bs w hS => ?_)))))))
        refine ⟨?_, hS.kp⟩
        simp only [retOf, den, List.map_cons, List.map_nil]
        have hf : pairF s.xs i = 4 := by
          have hat : ∀ q, s.xs.getD q default = s.at q := fun _ => rfl
          unfold pairF
          simp only [hat]
          try simp only [h1, h2, h3, emp_size, ne_eq, not_true_eq_false, not_false_eq_true, true_or, or_true, false_or, or_false, and_true, true_and, and_false, false_and, and_self, or_self, if_true, if_false, Bool.true_eq_false, Bool.false_eq_true, reduceIte, Classical.not_not, Bool.and_eq_true, decide_eq_true_eq]
          repeat (first | rw [if_pos (by omega)] | rw [if_neg (by omega)])
          all_goals first | rfl | (exfalso; omega)
        rw [hI, firstF_here (by omega) hf (by omega)]
    | false =>
      have h2 := of_decide_eq_false h2
      refine c_if false rfl ?_
      refine c_exit ?_
      refine q_then_exit (q_then_exit (q_block_hit (q_then_normal ?_)))
      refine c_seq ?_
      refine c_region ?_
      refine JL_run 1 [] [2] 0 ⟨[(2, vI 0)], []⟩ [] [] (by kernel_rfl) on wn ?_
      refine l_nil (q_then_normal ?_)
      refine c_ret ?_
      refine q_ret (.inl rfl) [vI 0] rfl (fun bs w hS => ?_)
      refine ⟨?_, hS.kp⟩
      simp only [retOf, den, List.map_cons, List.map_nil]
      rw [hI, firstF_end (by omega)]

theorem insR_Pair (A : Option Addr) (c : Nat) (L : List DPair) (i : Nat) (ii : Int) (x : DPair) (vb tv : Nat) (w : World) (hrow : (rowA 110 A c L).p w) (hlt : ∀ b, b ∈ (rowA 110 A c L).fp → b < w.heap.size) (ei : ii = (i : Int)) (hi : i ≤ L.length) (hn : L.length ≤ 1048575) (hv : (blkR vb tv (Lay.cells x)).p w) (hvn : vb ∉ (rowA 110 A c L).fp) :
    Calls Try.prog 93 #[.slice A L.length c, .int .i64 ii, .slice (some (⟨vb, 0, none⟩ : Addr)) 1 1] w fun e w' => ∃ y : Option Addr × Nat, e = .returned (.slice y.1 (L.take i ++ [x] ++ L.drop i).length y.2) ∧ Turned (rowA 110 A c L) w w' (rowA 110 y.1 y.2 (L.take i ++ [x] ++ L.drop i)) := by
  subst ei
  have hrok := rowA_rok hrow
  have nc := hrok.2
  have hvk : ∀ w', Kp (rowA 110 A c L).fp w w' → (blkR vb tv (Lay.cells x)).p w' := fun w' hk => blkR_kpn hv hk hvn
  have hvs : ∀ w', Kp (rowA 110 A c L).fp w w' → SrcAt w' (some (⟨vb, 0, none⟩ : Addr)) 1 ([x].flatMap Lay.cells) := fun w' hk => blkR_src1 (hvk w' hk)
  refine calls_J 95 (rowA 110 A c L).fp Try.func93 rfl rfl [] [] [rowA 110 A c L] [.v (.slice A L.length c), vI ((i : Nat) : Int), .v (.slice (some (⟨vb, 0, none⟩ : Addr)) 1 1)] [.slice A L.length c, .int .i64 ((i : Nat) : Int), .slice (some (⟨vb, 0, none⟩ : Addr)) 1 1] rfl rfl (WS.start1 w _ hrow (by cases A <;> simp [rowA, rowR]) hlt) ?_
  refine c_seq ?_
  refine c_region ?_
  refine JL_run 1 [] [0, 1, 2] 0 ⟨[(0, .v (.slice A L.length c)), (1, vI ((i : Nat) : Int)), (2, .v (.slice (some (⟨vb, 0, none⟩ : Addr)) 1 1))], []⟩ [] [] (by kernel_rfl) on wn ?_
  refine l_nil (q_then_normal ?_)
  refine c_seq ?_
  refine c_region ?_
  refine JL_run 3 [(2, .sl i L.length)] [0, 1, 2] 0 ⟨[(0, .v (.slice A L.length c)), (1, vI ((i : Nat) : Int)), (2, .v (.slice (some (⟨vb, 0, none⟩ : Addr)) 1 1))], []⟩ [((i : Nat) : Int) = ((i : Nat) : Int), L.length = L.length, i ≤ L.length] [] (by kernel_rfl) (oc rfl (oc rfl (oc (by omega) on))) wn ?_
  refine l_nil (q_then_normal ?_)
  refine c_seq ?_
  refine c_region ?_
  refine JL_run 3 [] [7, 0, 1, 2] 0 ⟨[(7, vI 1), (0, .v (.slice A L.length c)), (1, vI ((i : Nat) : Int)), (2, .v (.slice (some (⟨vb, 0, none⟩ : Addr)) 1 1))], []⟩ [] [] (by kernel_rfl) on wn ?_
  refine l_nil (q_then_normal ?_)
  refine c_seq ?_
  refine c_seq ?_
  refine c_region ?_
  refine JL_run 2 [] [16, 7, 0, 1, 2] 0 ⟨[(16, vB false), (7, vI 1), (0, .v (.slice A L.length c)), (1, vI ((i : Nat) : Int)), (2, .v (.slice (some (⟨vb, 0, none⟩ : Addr)) 1 1))], []⟩ [] [] (by kernel_rfl) on wn ?_
  refine l_nil (q_then_normal ?_)
  refine c_if false rfl ?_
  refine c_skip ?_
  refine q_then_normal ?_
  refine c_seq ?_
  refine c_region ?_
  refine JL_run 3 [] [8, 7, 0, 1, 2] 0 ⟨[(8, vI ((L.length : Nat) : Int)), (7, vI 1), (0, .v (.slice A L.length c)), (1, vI ((i : Nat) : Int)), (2, .v (.slice (some (⟨vb, 0, none⟩ : Addr)) 1 1))], []⟩ [] [] (by kernel_rfl) on wn ?_
  refine l_nil (q_then_normal ?_)
  refine c_seq ?_
  refine c_seq ?_
  refine c_region ?_
  refine JL_run 3 [] [22, 8, 7, 0, 1, 2] 0 ⟨[(22, vB (decide (((i : Nat) : Int) = ((L.length : Nat) : Int)))), (8, vI ((L.length : Nat) : Int)), (7, vI 1), (0, .v (.slice A L.length c)), (1, vI ((i : Nat) : Int)), (2, .v (.slice (some (⟨vb, 0, none⟩ : Addr)) 1 1))], []⟩ [] [] (by kernel_rfl) on wn ?_
  refine l_nil (q_then_normal ?_)
  cases h1 : decide (((i : Nat) : Int) = ((L.length : Nat) : Int)) with
  | true =>
    have h1 := of_decide_eq_true h1
    refine c_if true rfl ?_
    refine c_seq ?_
    refine c_region ?_
    refine JL_run 2 [] [24, 23] 0 ⟨[(24, .v (.slice (some (⟨vb, 0, none⟩ : Addr)) 1 1)), (23, .v (.slice A L.length c))], []⟩ [] [] (by kernel_rfl) on wn ?_
    refine l_appendA (α := DPair) 110 40 A c L (.v (.slice (some (⟨vb, 0, none⟩ : Addr)) 1 1)) [x] Try.underlying45 (by kernel_rfl) rfl rfl rfl (fun bs w hS => ⟨_, _, rfl, hvs w hS.kp⟩) (by show L.length + 1 ≤ _; omega) (by show (L.length + 1) * _ ≤ _; omega) ?_
    intro A1 c1
    refine JL_run 1 [] [6] 0 ⟨[(6, .v (.slice A1 (L ++ [x]).length c1))], []⟩ [] [] (by kernel_rfl) on wn ?_
    refine l_nil (q_then_normal ?_)
    refine c_ret ?_
    refine q_then_ret (q_ret (.inl rfl) [.v (.slice A1 (L ++ [x]).length c1)] rfl (fun bs w hS => ?_))
    have hid : i = L.length := by omega
    subst hid
    rw [List.take_length, List.drop_length, List.append_nil]
    exact ⟨(A1, c1), rfl, hS.turned⟩
  | false =>
    have h1 := of_decide_eq_false h1
    refine c_if false rfl ?_
    refine c_skip ?_
    refine q_then_normal ?_
    refine c_seq ?_
    refine c_seq ?_
    refine c_region ?_
    refine JL_run 6 [] [31, 8, 7, 0, 1, 2] 0 ⟨[(31, vB (decide (((c : Nat) : Int) < ((L.length : Nat) : Int) + 1))), (8, vI ((L.length : Nat) : Int)), (7, vI 1), (0, .v (.slice A L.length c)), (1, vI ((i : Nat) : Int)), (2, .v (.slice (some (⟨vb, 0, none⟩ : Addr)) 1 1))], []⟩ [inR (((L.length : Nat) : Int) + 1)] [] (by kernel_rfl) (oc (by unfold inR; omega) on) wn ?_
    refine l_nil (q_then_normal ?_)
    cases h2 : decide (((c : Nat) : Int) < ((L.length : Nat) : Int) + 1) with
    | true =>
      have h2 := of_decide_eq_true h2
      refine c_if true rfl ?_
      refine c_seq ?_
      refine c_region ?_
      refine JL_run 8 [(2, .sl 0 i)] [39, 34, 7, 0, 1, 2] 0 ⟨[(39, vI ((((L.length : Nat) : Int) + 1) - ((i : Nat) : Int))), (34, .v (.slice A i c)), (7, vI 1), (0, .v (.slice A L.length c)), (1, vI ((i : Nat) : Int)), (2, .v (.slice (some (⟨vb, 0, none⟩ : Addr)) 1 1))], []⟩ [0 = 0, ((i : Nat) : Int) = ((i : Nat) : Int), i ≤ c, inR (((L.length : Nat) : Int) + 1), inR ((((L.length : Nat) : Int) + 1) - ((i : Nat) : Int))] [] (by kernel_rfl) (oc rfl (oc rfl (oc (by omega) (oc (by unfold inR; omega) (oc (by unfold inR; omega) on))))) wn ?_
      refine l_appzeros (α := DPair) 110 40 A c L i (L.length + 1 - i) ((((L.length : Nat) : Int) + 1) - ((i : Nat) : Int)) Try.underlying45 Try.underlying3 (by kernel_rfl) rfl rfl rfl rfl (by omega) (by omega) hi (by omega) (by omega) (by omega) ?_
      intro g2 c2 zs hc2 hc2m hlen0
      refine JL_run 1 [] [9, 7, 0, 1, 2] 0 ⟨[(9, .v (.slice (some (⟨g2, 0, none⟩ : Addr)) (i + (L.length + 1 - i)) c2)), (7, vI 1), (0, .v (.slice A L.length c)), (1, vI ((i : Nat) : Int)), (2, .v (.slice (some (⟨vb, 0, none⟩ : Addr)) 1 1))], []⟩ [] [] (by kernel_rfl) on wn ?_
      refine l_nil (q_then_normal ?_)
      refine c_seq ?_
      refine c_region ?_
      refine JL_run 4 [(2, .sl i (i + (L.length + 1 - i)))] [44, 43, 9, 7, 0, 1] 0 ⟨[(44, .v (.slice (some (⟨vb, 0, none⟩ : Addr)) 1 1)), (43, .v (.slice (if c2 = i then (some (⟨g2, 0, none⟩ : Addr)) else (some (⟨g2, 0, none⟩ : Addr)).map (·.add (i * 3))) ((i + (L.length + 1 - i)) - i) (c2 - i))), (9, .v (.slice (some (⟨g2, 0, none⟩ : Addr)) (i + (L.length + 1 - i)) c2)), (7, vI 1), (0, .v (.slice A L.length c)), (1, vI ((i : Nat) : Int))], []⟩ [((i : Nat) : Int) = ((i : Nat) : Int), i + (L.length + 1 - i) = i + (L.length + 1 - i), i ≤ i + (L.length + 1 - i)] [] (by kernel_rfl) (oc rfl (oc rfl (oc (by omega) on))) wn ?_
      refine l_copy 110 (Lay.size DPair) 40 g2 c2 ((L.take i).flatMap Lay.cells ++ zs) (if c2 = i then (some (⟨g2, 0, none⟩ : Addr)) else (some (⟨g2, 0, none⟩ : Addr)).map (·.add (i * 3))) (some (⟨vb, 0, none⟩ : Addr)) (i * Lay.size DPair) ((i + (L.length + 1 - i)) - i) (c2 - i) (1) (1) 1 ([x].flatMap Lay.cells) Try.underlying45 (by kernel_rfl) rfl rfl rfl rfl (by rw [if_neg (by omega)]; show some (Addr.add _ (i * 3)) = _; rw [addr_at]; rfl) (by simp only [Nat.min_def]; split <;> omega) (fun bs w hS => hvs w hS.kp) (by rw [one_len, Nat.one_mul]) (flat_one _) (by rw [one_len]; rw [hlen0]; have h9 := ins_fit (L := L) hi (by omega : L.length + 1 ≤ c2); omega) ?_
      refine l_nil (q_then_normal ?_)
      refine c_seq ?_
      refine c_draw 8 [] (.p 0 (.p 1 (.p 2 (.p 3 (.p 4 (.p 5 (.p 6 (.p 7 .nil)))))))) [] [rawR 110 (Lay.size DPair) g2 c2 (setAt ((L.take i).flatMap Lay.cells ++ zs) (i * Lay.size DPair) ([x].flatMap Lay.cells)), rowA 110 A c (L : List DPair)] Try_mixed (by kernel_rfl) (pq_then (pq_then pq_body)) (List.Sublist.refl _) ?_
      refine h_quiet [(4, .sl (i + 1) (i + (L.length + 1 - i))), (7, .sl i L.length)] [(0, true), (1, true), (2, true), (3, true), (4, true), (5, true), (6, true), (7, true)] [(53, .v (.slice (if c = i then A else A.map (·.add (i * 3))) (L.length - i) (c - i))), (52, vI ((i : Nat) : Int)), (51, .v (.slice A L.length c)), (50, .v (.slice (if c2 = (i + 1) then (some (⟨g2, 0, none⟩ : Addr)) else (some (⟨g2, 0, none⟩ : Addr)).map (·.add ((i + 1) * 3))) ((i + (L.length + 1 - i)) - (i + 1)) (c2 - (i + 1)))), (49, vI (((i : Nat) : Int) + 1)), (48, vI 1), (47, vI ((i : Nat) : Int)), (46, .v (.slice (some (⟨g2, 0, none⟩ : Addr)) (i + (L.length + 1 - i)) c2)), (45, vI 1), (44, .v (.slice (some (⟨vb, 0, none⟩ : Addr)) 1 1)), (43, .v (.slice (if c2 = i then (some (⟨g2, 0, none⟩ : Addr)) else (some (⟨g2, 0, none⟩ : Addr)).map (·.add (i * 3))) ((i + (L.length + 1 - i)) - i) (c2 - i))), (9, .v (.slice (some (⟨g2, 0, none⟩ : Addr)) (i + (L.length + 1 - i)) c2)), (7, vI 1), (0, .v (.slice A L.length c)), (1, vI ((i : Nat) : Int))] [inR (((i : Nat) : Int) + 1), ((i : Nat) : Int) + 1 = (((i + 1) : Nat) : Int), i + (L.length + 1 - i) = i + (L.length + 1 - i), (i + 1) ≤ i + (L.length + 1 - i), ((i : Nat) : Int) = ((i : Nat) : Int), L.length = L.length, i ≤ L.length] [] rfl (by kernel_rfl) (oc (by unfold inR; omega) (oc (by omega) (oc rfl (oc (by omega) (oc rfl (oc rfl (oc (by omega) on))))))) wn ?_
      refine h_nil ?_
      refine l_copy 110 (Lay.size DPair) 40 g2 c2 (setAt ((L.take i).flatMap Lay.cells ++ zs) (i * Lay.size DPair) ([x].flatMap Lay.cells)) (if c2 = (i + 1) then (some (⟨g2, 0, none⟩ : Addr)) else (some (⟨g2, 0, none⟩ : Addr)).map (·.add ((i + 1) * 3))) (if c = i then A else A.map (·.add (i * 3))) (i * Lay.size DPair + Lay.size DPair) ((i + (L.length + 1 - i)) - (i + 1)) (c2 - (i + 1)) (L.length - i) (c - i) (L.length - i) ((L.drop i).flatMap Lay.cells) Try.underlying45 (by kernel_rfl) rfl rfl rfl rfl (by rw [if_neg (by omega)]; show some (Addr.add _ ((i + 1) * 3)) = _; rw [addr_at, Nat.succ_mul]; rfl) (by simp only [Nat.min_def]; split <;> omega) (fun bs w hS => rowA_srcDrop (hS.res _ (.tail _ (.head _))) hi) (drop_len L i) (flat_one _) (by rw [setAt_len (by rw [one_len, hlen0]; have h9 := ins_fit (L := L) hi (by omega : L.length + 1 ≤ c2); omega), hlen0]; exact ins_fit hi (by omega)) ?_
      refine l_nil (q_then_normal ?_)
      refine c_seq ?_
      refine c_region ?_
      refine JL_run 2 [] [6] 0 ⟨[(6, .v (.slice (some (⟨g2, 0, none⟩ : Addr)) (i + (L.length + 1 - i)) c2))], []⟩ [] [] (by kernel_rfl) on wn ?_
      refine l_nil (q_then_normal ?_)
      refine c_ret ?_
      refine q_then_ret (q_ret (.inl rfl) [.v (.slice (some (⟨g2, 0, none⟩ : Addr)) (i + (L.length + 1 - i)) c2)] rfl (fun bs w hS => ?_))
      have hlen : (L.take i ++ [x] ++ L.drop i).length = L.length + 1 := by simp only [List.length_append, List.length_take, List.length_drop, List.length_cons, List.length_nil]; omega
      have hS2 := hS.weak (rowA 110 (some (⟨g2, 0, none⟩ : Addr)) c2 (L.take i ++ [x] ++ L.drop i)) (List.Sublist.refl _) (fun h => ins_row1 hi (by omega) hlen0 h)
      refine ⟨(some ⟨g2, 0, none⟩, c2), ?_, hS2.turned⟩
      exact congrArg (fun q => Ending.returned (Value.slice (some (⟨g2, 0, none⟩ : Addr)) q c2)) (show i + (L.length + 1 - i) = (L.take i ++ [x] ++ L.drop i).length by rw [hlen]; omega)
    | false =>
      have h2 := of_decide_eq_false h2
      refine c_if false rfl ?_
      refine c_raw (α := DPair) (by omega) ?_
      intro g zs hA hLc hlen0
      have hvg : vb ≠ g := fun e0 => hvn (by rw [hA]; simp [rowA, rowR, e0])
      refine c_skip ?_
      refine q_then_normal ?_
      refine c_seq ?_
      refine c_region ?_
      refine JL_run 6 [(4, .sl 0 (L.length + 1))] [0, 8, 7, 1, 2] 0 ⟨[(0, .v (.slice A (L.length + 1) c)), (8, vI ((L.length : Nat) : Int)), (7, vI 1), (1, vI ((i : Nat) : Int)), (2, .v (.slice (some (⟨vb, 0, none⟩ : Addr)) 1 1))], []⟩ [inR (((L.length : Nat) : Int) + 1), 0 = 0, ((L.length : Nat) : Int) + 1 = (((L.length + 1) : Nat) : Int), (L.length + 1) ≤ c] [] (by kernel_rfl) (oc (by unfold inR; omega) (oc rfl (oc (by omega) (oc (by omega) on)))) wn ?_
      refine l_nil (q_then_normal ?_)
      refine c_seq ?_
      refine c_seq ?_
      refine c_region ?_
      refine JL_run 6 [(5, .sl (i + 1) (L.length + 1))] [66, 61, 0, 8, 7, 1, 2] 0 ⟨[(66, .v (.slice (if c = (i + 1) then A else A.map (·.add ((i + 1) * 3))) ((L.length + 1) - (i + 1)) (c - (i + 1)))), (61, .v (.slice (some (⟨vb, 0, none⟩ : Addr)) 1 1)), (0, .v (.slice A (L.length + 1) c)), (8, vI ((L.length : Nat) : Int)), (7, vI 1), (1, vI ((i : Nat) : Int)), (2, .v (.slice (some (⟨vb, 0, none⟩ : Addr)) 1 1))], []⟩ [inR (((i : Nat) : Int) + 1), ((i : Nat) : Int) + 1 = (((i + 1) : Nat) : Int), (L.length + 1) = (L.length + 1), (i + 1) ≤ (L.length + 1)] [] (by kernel_rfl) (oc (by unfold inR; omega) (oc (by omega) (oc rfl (oc (by omega) on)))) wn ?_
      refine l_externS 134 [.v (.slice (some (⟨vb, 0, none⟩ : Addr)) 1 1), .v (.slice (if c = (i + 1) then A else A.map (·.add ((i + 1) * 3))) ((L.length + 1) - (i + 1)) (c - (i + 1)))] (.bool false) (fun bs w hS => by show (callFunc 134 #[.slice (some (⟨vb, 0, none⟩ : Addr)) 1 1, .slice (if c = (i + 1) then A else A.map (·.add ((i + 1) * 3))) ((L.length + 1) - (i + 1)) (c - (i + 1))]).run Try.prog w = _; rw [(show (if c = (i + 1) then A else A.map (·.add ((i + 1) * 3))) = some ⟨g, i * Lay.size DPair + Lay.size DPair, none⟩ from (by rw [if_neg (by omega), hA]; show some (Addr.add _ ((i + 1) * 3)) = _; rw [addr_at, Nat.succ_mul]; rfl)), run_callFunc_extern Try.func134 (by kernel_rfl) (by kernel_rfl) (by kernel_rfl) (e := Extern.SlicesOverlaps.overlaps #[45, 45] #[4]) (by kernel_rfl)]; show ((Extern.SlicesOverlaps.overlaps #[45, 45] #[4] #[.slice (some (⟨vb, 0, none⟩ : Addr)) 1 1, .slice (some _) _ _]).run _ w).andThen _ = _; rw [Go.Lib.run_overlaps_apart w 45 4 110 Try.underlying45 _ (fun w => sizeOf_run _ _ w (by kernel_rfl)) ⟨vb, 0, none⟩ ⟨g, i * Lay.size DPair + Lay.size DPair, none⟩ 1 1 _ _ hvg _ _ _ _ (blkR_shape (hvk w hS.kp)) (rawR_shape (hS.res _ (.head _))) (by rw [hlen0]; exact Nat.mul_ne_zero (by omega) (Nat.ne_of_gt Lay.pos)) (blkR_thaw (hvk w hS.kp) 0) (blkR_thaw (hvk w hS.kp) _)]; rfl) rfl rfl rfl rfl ?_
      refine JL_run 1 [] [68, 0, 8, 7, 1, 2] 0 ⟨[(68, vB true), (0, .v (.slice A (L.length + 1) c)), (8, vI ((L.length : Nat) : Int)), (7, vI 1), (1, vI ((i : Nat) : Int)), (2, .v (.slice (some (⟨vb, 0, none⟩ : Addr)) 1 1))], []⟩ [] [] (by kernel_rfl) on wn ?_
      refine l_nil (q_then_normal ?_)
      refine c_if true rfl ?_
      refine c_seq ?_
      refine c_draw 8 [] (.p 0 (.p 1 (.p 2 (.p 3 (.p 4 (.p 5 (.p 6 (.p 7 .nil)))))))) [] [rawR 110 (Lay.size DPair) g c (L.flatMap Lay.cells ++ zs)] Try_mixed (by kernel_rfl) (pq_then (pq_then pq_body)) (List.Sublist.refl _) ?_
      refine h_quiet [(4, .sl (i + 1) (L.length + 1)), (7, .sl i (L.length + 1))] [(0, true), (1, true), (2, true), (3, true), (4, true), (5, true), (6, true), (7, true)] [(76, .v (.slice (if c = i then A else A.map (·.add (i * 3))) ((L.length + 1) - i) (c - i))), (75, vI ((i : Nat) : Int)), (74, .v (.slice A (L.length + 1) c)), (73, .v (.slice (if c = (i + 1) then A else A.map (·.add ((i + 1) * 3))) ((L.length + 1) - (i + 1)) (c - (i + 1)))), (72, vI (((i : Nat) : Int) + 1)), (71, vI 1), (70, vI ((i : Nat) : Int)), (69, .v (.slice A (L.length + 1) c)), (68, vB true), (0, .v (.slice A (L.length + 1) c)), (8, vI ((L.length : Nat) : Int)), (7, vI 1), (1, vI ((i : Nat) : Int)), (2, .v (.slice (some (⟨vb, 0, none⟩ : Addr)) 1 1))] [inR (((i : Nat) : Int) + 1), ((i : Nat) : Int) + 1 = (((i + 1) : Nat) : Int), (L.length + 1) = (L.length + 1), (i + 1) ≤ (L.length + 1), ((i : Nat) : Int) = ((i : Nat) : Int), (L.length + 1) = (L.length + 1), i ≤ (L.length + 1)] [] rfl (by kernel_rfl) (oc (by unfold inR; omega) (oc (by omega) (oc rfl (oc (by omega) (oc rfl (oc rfl (oc (by omega) on))))))) wn ?_
      refine h_nil ?_
      refine l_copy 110 (Lay.size DPair) 40 g c (L.flatMap Lay.cells ++ zs) (if c = (i + 1) then A else A.map (·.add ((i + 1) * 3))) (if c = i then A else A.map (·.add (i * 3))) (i * Lay.size DPair + Lay.size DPair) ((L.length + 1) - (i + 1)) (c - (i + 1)) ((L.length + 1) - i) (c - i) (L.length - i) ((L.drop i).flatMap Lay.cells) Try.underlying45 (by kernel_rfl) rfl rfl rfl rfl (by rw [if_neg (by omega), hA]; show some (Addr.add _ ((i + 1) * 3)) = _; rw [addr_at, Nat.succ_mul]; rfl) (by simp only [Nat.min_def]; split <;> omega) (fun bs w hS => by rw [show (if c = i then A else A.map (·.add (i * 3))) = some ⟨g, i * Lay.size DPair, none⟩ from (by rw [if_neg (by omega), hA]; show some (Addr.add _ (i * 3)) = _; rw [addr_at]; rfl)]; exact raw_srcDrop hi (hS.res _ (.head _))) (drop_len L i) (flat_one _) (by rw [hlen0]; exact ins_fit hi (by omega)) ?_
      refine l_nil (q_then_normal ?_)
      refine c_seq ?_
      refine c_region ?_
      refine JL_run 4 [(2, .sl i (L.length + 1))] [81, 80, 0] 0 ⟨[(81, .v (.slice (some (⟨vb, 0, none⟩ : Addr)) 1 1)), (80, .v (.slice (if c = i then A else A.map (·.add (i * 3))) ((L.length + 1) - i) (c - i))), (0, .v (.slice A (L.length + 1) c))], []⟩ [((i : Nat) : Int) = ((i : Nat) : Int), (L.length + 1) = (L.length + 1), i ≤ (L.length + 1)] [] (by kernel_rfl) (oc rfl (oc rfl (oc (by omega) on))) wn ?_
      refine l_copy 110 (Lay.size DPair) 40 g c (setAt (L.flatMap Lay.cells ++ zs) (i * Lay.size DPair + Lay.size DPair) ((L.drop i).flatMap Lay.cells)) (if c = i then A else A.map (·.add (i * 3))) (some (⟨vb, 0, none⟩ : Addr)) (i * Lay.size DPair) ((L.length + 1) - i) (c - i) (1) (1) 1 ([x].flatMap Lay.cells) Try.underlying45 (by kernel_rfl) rfl rfl rfl rfl (by rw [if_neg (by omega), hA]; show some (Addr.add _ (i * 3)) = _; rw [addr_at]; rfl) (by simp only [Nat.min_def]; split <;> omega) (fun bs w hS => hvs w hS.kp) (by rw [one_len, Nat.one_mul]) (flat_one _) (by rw [one_len]; rw [setAt_len (by rw [hlen0]; exact ins_fit hi (by omega)), hlen0]; have h9 := ins_fit (L := L) hi (by omega : L.length + 1 ≤ c); omega) ?_
      refine l_nil (q_then_normal ?_)
      refine c_seq ?_
      refine c_region ?_
      refine JL_run 2 [] [6] 0 ⟨[(6, .v (.slice A (L.length + 1) c))], []⟩ [] [] (by kernel_rfl) on wn ?_
      refine l_nil (q_then_normal ?_)
      refine c_ret ?_
      refine q_then_ret (q_ret (.inl rfl) [.v (.slice A (L.length + 1) c)] rfl (fun bs w hS => ?_))
      have hlen : (L.take i ++ [x] ++ L.drop i).length = L.length + 1 := by simp only [List.length_append, List.length_take, List.length_drop, List.length_cons, List.length_nil]; omega
      have hS2 := hS.weak (rowA 110 (some ⟨g, 0, none⟩) c (L.take i ++ [x] ++ L.drop i)) (List.Sublist.refl _) (fun h => ins_row2 hi (by omega) hlen0 h)
      refine ⟨(some ⟨g, 0, none⟩, c), ?_, hS2.turned⟩
      subst hA
      exact congrArg (fun q => Ending.returned (Value.slice (some (⟨g, 0, none⟩ : Addr)) q c)) (show L.length + 1 = (L.take i ++ [x] ++ L.drop i).length by rw [hlen])

theorem bytealg_CompareString (a b : ByteArray) (w : World) : Calls Try.prog 145 #[.string a, .string b] w fun e w' => e = .returned (.int .i64 (cmpS a b)) ∧ Kp [] w w' := by
  refine calls_J0 8 Try.func145 rfl rfl [.string a, .string b] rfl ?_
  refine c_seq ?_
  refine c_region ?_
  refine JL_run 1 [] [0, 1] 0 ⟨[(0, vS a), (1, vS b)], []⟩ [] [] (by kernel_rfl) on wn ?_
  refine l_nil (q_then_normal ?_)
  refine c_seq ?_
  refine c_region ?_
  refine JL_run 2 [] [6, 5] 0 ⟨[(6, vS b), (5, vS a)], []⟩ [] [] (by kernel_rfl) on wn ?_
  refine l_extern 156 [vS a, vS b] (.int .i64 (cmpS a b)) (fun bs w => by rw [run_callFunc_extern Try.func156 (by kernel_rfl) (by kernel_rfl) (by kernel_rfl) (e := Extern.BytealgCompare.compare) (by kernel_rfl)]; show ((Extern.BytealgCompare.compare #[.string a, .string b]).run _ w).andThen _ = _; rw [Lib.run_compareString]; rfl) rfl rfl rfl rfl ?_
  refine JL_run 1 [] [4] 0 ⟨[(4, vI (cmpS a b))], []⟩ [] [] (by kernel_rfl) on wn ?_
  refine l_nil (q_then_normal ?_)
  refine c_ret ?_
  refine q_ret (.inl rfl) [vI (cmpS a b)] rfl (fun bs w hS => ?_)
  exact ⟨rfl, hS.kp⟩

theorem strings_Compare (a b : ByteArray) (w : World) : Calls Try.prog 111 #[.string a, .string b] w fun e w' => e = .returned (.int .i64 (cmpS a b)) ∧ Kp [] w w' := by
  refine calls_J0 8 Try.func111 rfl rfl [.string a, .string b] rfl ?_
  refine c_seq ?_
  refine c_region ?_
  refine JL_run 1 [] [0, 1] 0 ⟨[(0, vS a), (1, vS b)], []⟩ [] [] (by kernel_rfl) on wn ?_
  refine l_nil (q_then_normal ?_)
  refine c_seq ?_
  refine c_region ?_
  refine JL_run 2 [] [6, 5] 0 ⟨[(6, vS b), (5, vS a)], []⟩ [] [] (by kernel_rfl) on wn ?_
  refine l_pure 145 [] [vS a, vS b] (.int .i64 (cmpS a b)) Try.call145 rfl rfl rfl rfl (fun bs w hS => bytealg_CompareString a b w) ?_
  refine JL_run 1 [] [4] 0 ⟨[(4, vI (cmpS a b))], []⟩ [] [] (by kernel_rfl) on wn ?_
  refine l_nil (q_then_normal ?_)
  refine c_ret ?_
  refine q_ret (.inl rfl) [vI (cmpS a b)] rfl (fun bs w hS => ?_)
  exact ⟨rfl, hS.kp⟩

theorem pair_find_1 (x : DPair) (t : ByteArray) (w : World) : Calls Try.prog 133 #[.agg #[.string x.name, .string x.value, .int .i64 x.version], .string t] w fun e w' => e = .returned (.int .i64 (cmpS x.name t)) ∧ Kp [] w w' := by
  refine calls_J0 9 Try.func133 rfl rfl [.agg #[.string x.name, .string x.value, .int .i64 x.version], .string t] rfl ?_
  refine c_seq ?_
  refine c_region ?_
  refine JL_run 2 [] [2, 1] 1 ⟨[(2, .p 0 0), (1, vS t)], [⟨110, [vS x.name, vS x.value, vI x.version]⟩]⟩ [] [] (by kernel_rfl) on wn ?_
  refine l_nil (q_then_normal ?_)
  refine c_seq ?_
  refine c_region ?_
  refine JL_run 3 [] [7, 6] 0 ⟨[(7, vS t), (6, vS x.name)], []⟩ [] [] (by kernel_rfl) on wn ?_
  refine l_pure 111 [] [vS x.name, vS t] (.int .i64 (cmpS x.name t)) Try.call111 rfl rfl rfl rfl (fun bs w hS => strings_Compare x.name t w) ?_
  refine JL_run 1 [] [4] 0 ⟨[(4, vI (cmpS x.name t))], []⟩ [] [] (by kernel_rfl) on wn ?_
  refine l_nil (q_then_normal ?_)
  refine c_ret ?_
  refine q_ret (.inl rfl) [vI (cmpS x.name t)] rfl (fun bs w hS => ?_)
  exact ⟨rfl, hS.kp⟩

theorem bs_pair_find_1 {B : Nat → Prop} (s : Sl DPair) (t : ByteArray) (w : World) (hs : s.rd B w) (hn : s.n ≤ 1048576) : Calls Try.prog 132 #[.slice s.A s.n s.c, .string t, .func (.func 133) #[] #[]] w fun e w' => e = .returned (.tuple #[.int .i64 (mBS (fun x : DPair => cmpS x.name t) s.xs : Nat), .bool (mBSf (fun x : DPair => cmpS x.name t) s.xs)]) ∧ Kp [] w w' := by
  have oks := Sl.rd.ok hs
  have ncs := Sl.ok.nc oks
  have hns : s.n = s.xs.length := rfl
  refine calls_J 49 [] Try.func132 rfl rfl [] [] [] [.v (.slice s.A s.n s.c), vS t, .fn 133 []] [.slice s.A s.n s.c, .string t, .func (.func 133) #[] #[]] rfl rfl (WS.start w) ?_
  refine c_seq ?_
  refine c_region ?_
  refine JL_run 2 [] [0, 1, 2] 0 ⟨[(0, .v (.slice s.A s.n s.c)), (1, vS t), (2, .fn 133 [])], []⟩ [] [] (by kernel_rfl) on wn ?_
  refine l_nil (q_then_normal ?_)
  refine c_seq ?_
  refine c_region ?_
  refine JL_run 3 [] [8, 0, 1, 2] 0 ⟨[(8, vI ((s.n : Nat) : Int)), (0, .v (.slice s.A s.n s.c)), (1, vS t), (2, .fn 133 [])], []⟩ [] [] (by kernel_rfl) on wn ?_
  refine l_nil (q_then_normal ?_)
  refine c_seq ?_
  refine c_region ?_
  refine JL_run 3 [] [10, 9, 8, 0, 1, 2] 0 ⟨[(10, vI ((s.n : Nat) : Int)), (9, vI 0), (8, vI ((s.n : Nat) : Int)), (0, .v (.slice s.A s.n s.c)), (1, vS t), (2, .fn 133 [])], []⟩ [] [] (by kernel_rfl) on wn ?_
  refine l_nil (q_then_normal ?_)
  refine c_seq ?_
  refine c_block ?_
  refine c_loop (σ := Nat × Nat × Nat) (fun ⟨i, j, f⟩ => i ≤ j ∧ j ≤ s.n ∧ j - i ≤ f ∧ mBS (fun x : DPair => cmpS x.name t) s.xs = bsGo (fun j => decide (cmpS (s.at j).name t < 0)) f i j) (fun ⟨i, j, f⟩ => f) (fun ⟨i, j, f⟩ => []) (fun ⟨i, j, f⟩ => ⟨[(10, vI ((j : Nat) : Int)), (9, vI ((i : Nat) : Int)), (8, vI ((s.n : Nat) : Int)), (0, .v (.slice s.A s.n s.c)), (1, vS t), (2, .fn 133 [])], []⟩) ⟨0, s.n, s.n⟩ ⟨Nat.zero_le _, Nat.le_refl _, Nat.le_refl _, rfl⟩ (s_start [10, 9, 8, 0, 1, 2] 0 (by kernel_rfl) rfl) ?_
  rintro ⟨i, j, f⟩ ⟨h1, h2, h3, hI⟩
  have hdiv : ((i : Int) + (j : Int)) / 2 = (((i + j) / 2 : Nat) : Int) := by omega
  refine c_seq ?_
  refine c_seq ?_
  refine c_region ?_
  refine JL_run 3 [] [17, 10, 9, 8, 0, 1, 2] 0 ⟨[(17, vB (decide (((i : Nat) : Int) < ((j : Nat) : Int)))), (10, vI ((j : Nat) : Int)), (9, vI ((i : Nat) : Int)), (8, vI ((s.n : Nat) : Int)), (0, .v (.slice s.A s.n s.c)), (1, vS t), (2, .fn 133 [])], []⟩ [] [] (by kernel_rfl) on wn ?_
  refine l_nil (q_then_normal ?_)
  cases h1 : decide (((i : Nat) : Int) < ((j : Nat) : Int)) with
  | true =>
    have h1 := of_decide_eq_true h1
    refine c_if true rfl ?_
    refine c_skip ?_
    refine q_then_normal ?_
    refine c_block ?_
    refine c_seq ?_
    refine c_region ?_
    refine JL_run 7 [(3, .val (.int .u64 (((i : Nat) : Int) + ((j : Nat) : Int)))), (4, .val (.int .u64 ((((i : Nat) : Int) + ((j : Nat) : Int)) / 2))), (5, .val (.int .i64 ((((i : Nat) : Int) + ((j : Nat) : Int)) / 2)))] [11, 10, 9, 8, 0, 1, 2] 0 ⟨[(11, vI ((((i : Nat) : Int) + ((j : Nat) : Int)) / 2)), (10, vI ((j : Nat) : Int)), (9, vI ((i : Nat) : Int)), (8, vI ((s.n : Nat) : Int)), (0, .v (.slice s.A s.n s.c)), (1, vS t), (2, .fn 133 [])], []⟩ [inR (((i : Nat) : Int) + ((j : Nat) : Int)), ∀ w, (convert 3 162 (.int .i64 (((i : Nat) : Int) + ((j : Nat) : Int))) : Sem Value).run Try.prog w = .ok (.int .u64 (((i : Nat) : Int) + ((j : Nat) : Int))) w, ∀ w, (do eqGuard .shr 162 (.tmp 21) (.const (.int .u64 1)) (.int .u64 (((i : Nat) : Int) + ((j : Nat) : Int))) (.int .u64 1); binOp .shr 162 (.int .u64 (((i : Nat) : Int) + ((j : Nat) : Int))) (.int .u64 1) : Sem Value).run Try.prog w = .ok (.int .u64 ((((i : Nat) : Int) + ((j : Nat) : Int)) / 2)) w, ∀ w, (convert 162 3 (.int .u64 ((((i : Nat) : Int) + ((j : Nat) : Int)) / 2)) : Sem Value).run Try.prog w = .ok (.int .i64 ((((i : Nat) : Int) + ((j : Nat) : Int)) / 2)) w] [] (by kernel_rfl) (oc (by unfold inR; omega) (oc (conv_i64_u64 Try.underlying3 Try.underlying162 (by omega) (by omega)) (oc shr_u64 (oc (conv_u64_i64 Try.underlying162 Try.underlying3 (by omega) (by omega)) on)))) wn ?_
    refine l_nil (q_then_normal ?_)
    refine c_seq ?_
    refine c_region ?_
    refine JL_run 6 [(3, .idx s.ad ((((i : Nat) : Int) + ((j : Nat) : Int)) / 2).toNat), (4, .ext [.string (s.at ((((i : Nat) : Int) + ((j : Nat) : Int)) / 2).toNat).name, .string (s.at ((((i : Nat) : Int) + ((j : Nat) : Int)) / 2).toNat).value, .int .i64 (s.at ((((i : Nat) : Int) + ((j : Nat) : Int)) / 2).toNat).version])] [29, 28, 24, 11, 10, 9, 8, 0, 1, 2] 0 ⟨[(29, vS t), (28, .v (.agg #[.string (s.at ((((i : Nat) : Int) + ((j : Nat) : Int)) / 2).toNat).name, .string (s.at ((((i : Nat) : Int) + ((j : Nat) : Int)) / 2).toNat).value, .int .i64 (s.at ((((i : Nat) : Int) + ((j : Nat) : Int)) / 2).toNat).version])), (24, .fn 133 []), (11, vI ((((i : Nat) : Int) + ((j : Nat) : Int)) / 2)), (10, vI ((j : Nat) : Int)), (9, vI ((i : Nat) : Int)), (8, vI ((s.n : Nat) : Int)), (0, .v (.slice s.A s.n s.c)), (1, vS t), (2, .fn 133 [])], []⟩ [s.A = some s.ad, (((i : Nat) : Int) + ((j : Nat) : Int)) / 2 = ((((((i : Nat) : Int) + ((j : Nat) : Int)) / 2).toNat : Nat) : Int), ((((i : Nat) : Int) + ((j : Nat) : Int)) / 2).toNat < s.n] [(s.ad.add (((((i : Nat) : Int) + ((j : Nat) : Int)) / 2).toNat * 3), [.string (s.at ((((i : Nat) : Int) + ((j : Nat) : Int)) / 2).toNat).name, .string (s.at ((((i : Nat) : Int) + ((j : Nat) : Int)) / 2).toNat).value, .int .i64 (s.at ((((i : Nat) : Int) + ((j : Nat) : Int)) / 2).toNat).version])] (by kernel_rfl) (oc (Sl.ok.own (s := s) (i := ((((i : Nat) : Int) + ((j : Nat) : Int)) / 2).toNat) oks (by omega)) (oc (by omega) (oc (by omega) on))) (fun w hk hr => ⟨(Sl.rd.all (s := s) (i := ((((i : Nat) : Int) + ((j : Nat) : Int)) / 2).toNat) (Sl.rd.kp hs hk) (by omega) rfl), trivial⟩) ?_
    refine l_pure 133 [] [.v (.agg #[.string (s.at ((((i : Nat) : Int) + ((j : Nat) : Int)) / 2).toNat).name, .string (s.at ((((i : Nat) : Int) + ((j : Nat) : Int)) / 2).toNat).value, .int .i64 (s.at ((((i : Nat) : Int) + ((j : Nat) : Int)) / 2).toNat).version]), vS t] (.int .i64 (cmpS (s.at ((((i : Nat) : Int) + ((j : Nat) : Int)) / 2).toNat).name t)) Try.call133 rfl rfl rfl rfl (fun bs w hS => pair_find_1 (s.at ((((i : Nat) : Int) + ((j : Nat) : Int)) / 2).toNat) t w) ?_
    refine JL_run 1 [] [31, 11, 10, 9, 8, 0, 1, 2] 0 ⟨[(31, vB (decide (cmpS (s.at ((((i : Nat) : Int) + ((j : Nat) : Int)) / 2).toNat).name t < 0))), (11, vI ((((i : Nat) : Int) + ((j : Nat) : Int)) / 2)), (10, vI ((j : Nat) : Int)), (9, vI ((i : Nat) : Int)), (8, vI ((s.n : Nat) : Int)), (0, .v (.slice s.A s.n s.c)), (1, vS t), (2, .fn 133 [])], []⟩ [] [] (by kernel_rfl) on wn ?_
    refine l_nil (q_then_normal ?_)
    cases h2 : decide (cmpS (s.at ((((i : Nat) : Int) + ((j : Nat) : Int)) / 2).toNat).name t < 0) with
    | true =>
      have h2 := of_decide_eq_true h2
      refine c_if true rfl ?_
      refine c_region ?_
      refine JL_run 3 [] [9, 10, 8, 0, 1, 2] 0 ⟨[(9, vI (((((i : Nat) : Int) + ((j : Nat) : Int)) / 2) + 1)), (10, vI ((j : Nat) : Int)), (8, vI ((s.n : Nat) : Int)), (0, .v (.slice s.A s.n s.c)), (1, vS t), (2, .fn 133 [])], []⟩ [inR (((((i : Nat) : Int) + ((j : Nat) : Int)) / 2) + 1)] [] (by kernel_rfl) (oc (by unfold inR; omega) on) wn ?_
      have hf1 : f = (f - 1) + 1 := by omega
      rw [hf1] at hI
      have hI2 := hI.trans (bsGo_up (by omega) (decide_eq_true (by assumption)))
      refine l_nil (q_block_normal (q_loop (x := (⟨i, j, f⟩ : Nat × Nat × Nat)) (⟨(i + j) / 2 + 1, j, f - 1⟩ : Nat × Nat × Nat) ⟨by omega, by omega, by omega, hI2⟩ (by show f - 1 < f; omega) (s_start [10, 9, 8, 0, 1, 2] 0 (by kernel_rfl) rfl)))
    | false =>
      have h2 := of_decide_eq_false h2
      refine c_if false rfl ?_
      refine c_region ?_
      refine JL_run 2 [] [10, 9, 8, 0, 1, 2] 0 ⟨[(10, vI ((((i : Nat) : Int) + ((j : Nat) : Int)) / 2)), (9, vI ((i : Nat) : Int)), (8, vI ((s.n : Nat) : Int)), (0, .v (.slice s.A s.n s.c)), (1, vS t), (2, .fn 133 [])], []⟩ [] [] (by kernel_rfl) on wn ?_
      have hf1 : f = (f - 1) + 1 := by omega
      rw [hf1] at hI
      have hI2 := hI.trans (bsGo_down (by omega) (decide_eq_false (by assumption)))
      refine l_nil (q_block_normal (q_loop (x := (⟨i, j, f⟩ : Nat × Nat × Nat)) (⟨i, (i + j) / 2, f - 1⟩ : Nat × Nat × Nat) ⟨by omega, by omega, by omega, hI2⟩ (by show f - 1 < f; omega) (s_start [10, 9, 8, 0, 1, 2] 0 (by kernel_rfl) rfl)))
  | false =>
    have h1 := of_decide_eq_false h1
    refine c_if false rfl ?_
    refine c_exit ?_
    refine q_then_exit (q_then_exit (q_block_hit (q_then_normal ?_)))
    refine c_seq ?_
    refine c_region ?_
    refine JL_run 5 [] [39, 35, 9, 0, 1, 2] 0 ⟨[(39, vB (decide (((i : Nat) : Int) < ((s.n : Nat) : Int)))), (35, vI ((i : Nat) : Int)), (9, vI ((i : Nat) : Int)), (0, .v (.slice s.A s.n s.c)), (1, vS t), (2, .fn 133 [])], []⟩ [] [] (by kernel_rfl) on wn ?_
    cases h3 : decide (((i : Nat) : Int) < ((s.n : Nat) : Int)) with
    | true =>
      have h3 := of_decide_eq_true h3
      refine JL_run 6 [(3, .idx s.ad i), (4, .ext [.string (s.at i).name, .string (s.at i).value, .int .i64 (s.at i).version])] [45, 44, 40, 39, 35] 0 ⟨[(45, vS t), (44, .v (.agg #[.string (s.at i).name, .string (s.at i).value, .int .i64 (s.at i).version])), (40, .fn 133 []), (39, vB true), (35, vI ((i : Nat) : Int))], []⟩ [s.A = some s.ad, ((i : Nat) : Int) = ((i : Nat) : Int), i < s.n] [(s.ad.add (i * 3), [.string (s.at i).name, .string (s.at i).value, .int .i64 (s.at i).version])] (by kernel_rfl) (oc (Sl.ok.own (s := s) (i := i) oks (by omega)) (oc rfl (oc (by omega) on))) (fun w hk hr => ⟨(Sl.rd.all (s := s) (i := i) (Sl.rd.kp hs hk) (by omega) rfl), trivial⟩) ?_
      refine l_pure 133 [] [.v (.agg #[.string (s.at i).name, .string (s.at i).value, .int .i64 (s.at i).version]), vS t] (.int .i64 (cmpS (s.at i).name t)) Try.call133 rfl rfl rfl rfl (fun bs w hS => pair_find_1 (s.at i) t w) ?_
      refine JL_run 4 [] [7, 6] 0 ⟨[(7, vB (decide (cmpS (s.at i).name t = 0))), (6, vI ((i : Nat) : Int))], []⟩ [] [] (by kernel_rfl) on wn ?_
      refine l_nil (q_then_normal ?_)
      refine c_ret ?_
      refine q_ret (.inl rfl) [vI ((i : Nat) : Int), vB (decide (cmpS (s.at i).name t = 0))] rfl (fun bs w hS => ?_)
      have hij : i = j := by omega
      subst hij
      have hr : mBS (fun x : DPair => cmpS x.name t) s.xs = i := by rw [hI]; exact bsGo_end _ _ _ _ (Nat.le_refl _)
      refine ⟨?_, hS.kp⟩
      have hr2 : mBSf (fun x : DPair => cmpS x.name t) s.xs = (decide (cmpS (s.at i).name t = 0)) := by
        unfold mBSf; rw [hr]
        rw [decide_eq_true (show i < s.xs.length by omega)]; rfl
      rw [hr, hr2]
      rfl
    | false =>
      have h3 := of_decide_eq_false h3
      refine JL_run 11 [] [7, 6] 0 ⟨[(7, vB false), (6, vI ((i : Nat) : Int))], []⟩ [] [] (by kernel_rfl) on wn ?_
      refine l_nil (q_then_normal ?_)
      refine c_ret ?_
      refine q_ret (.inl rfl) [vI ((i : Nat) : Int), vB false] rfl (fun bs w hS => ?_)
      have hij : i = j := by omega
      subst hij
      have hr : mBS (fun x : DPair => cmpS x.name t) s.xs = i := by rw [hI]; exact bsGo_end _ _ _ _ (Nat.le_refl _)
      refine ⟨?_, hS.kp⟩
      have hr2 : mBSf (fun x : DPair => cmpS x.name t) s.xs = false := by
        unfold mBSf; rw [hr]
        rw [decide_eq_false (show ¬ i < s.xs.length by omega)]; rfl
      rw [hr, hr2]
      rfl

theorem pair_find {B : Nat → Prop} (s : Sl DPair) (t : ByteArray) (w : World) (hs : s.rd B w) (hn : s.n ≤ 1048576) : Calls Try.prog 92 #[.slice s.A s.n s.c, .string t] w fun e w' => e = .returned (.tuple #[.int .i64 (mBS (fun x : DPair => cmpS x.name t) s.xs : Nat), .bool (mBSf (fun x : DPair => cmpS x.name t) s.xs)]) ∧ Kp [] w w' := by
  have oks := Sl.rd.ok hs
  have ncs := Sl.ok.nc oks
  have hns : s.n = s.xs.length := rfl
  refine calls_J0 11 Try.func92 rfl rfl [.slice s.A s.n s.c, .string t] rfl ?_
  refine c_seq ?_
  refine c_region ?_
  refine JL_run 2 [] [0, 1] 0 ⟨[(0, .v (.slice s.A s.n s.c)), (1, vS t)], []⟩ [] [] (by kernel_rfl) on wn ?_
  refine l_nil (q_then_normal ?_)
  refine c_seq ?_
  refine c_region ?_
  refine JL_run 2 [] [7, 6] 0 ⟨[(7, vS t), (6, .v (.slice s.A s.n s.c))], []⟩ [] [] (by kernel_rfl) on wn ?_
  refine l_pure 132 [] [.v (.slice s.A s.n s.c), vS t, .fn 133 []] (.tuple #[.int .i64 ((mBS (fun x : DPair => cmpS x.name t) s.xs : Nat) : Int), .bool (mBSf (fun x : DPair => cmpS x.name t) s.xs)]) Try.call132 rfl rfl rfl rfl (fun bs w hS => bs_pair_find_1 s t w (Sl.rd.kp hs hS.kp) (by omega)) ?_
  refine JL_run 4 [] [5, 4] 0 ⟨[(5, vB (mBSf (fun x : DPair => cmpS x.name t) s.xs)), (4, vI ((mBS (fun x : DPair => cmpS x.name t) s.xs : Nat) : Int))], []⟩ [] [] (by kernel_rfl) on wn ?_
  refine l_nil (q_then_normal ?_)
  refine c_ret ?_
  refine q_ret (.inl rfl) [vI ((mBS (fun x : DPair => cmpS x.name t) s.xs : Nat) : Int), vB (mBSf (fun x : DPair => cmpS x.name t) s.xs)] rfl (fun bs w hS => ?_)
  exact ⟨rfl, hS.kp⟩

theorem tackroomref_pairAt {B : Nat → Prop} (s : Sl DPair) (t : ByteArray) (w : World) (hs : s.rd B w) : Calls Try.prog 96 #[.slice s.A s.n s.c, .string t] w fun e w' => e = .returned (.int .i64 (mIdx (fun x : DPair => decide (x.name = t)) s.xs)) ∧ Kp [] w w' := by
  have oks := Sl.rd.ok hs
  have ncs := Sl.ok.nc oks
  have hns : s.n = s.xs.length := rfl
  refine calls_J0 20 Try.func96 rfl rfl [.slice s.A s.n s.c, .string t] rfl ?_
  refine c_seq ?_
  refine c_region ?_
  refine JL_run 1 [] [0, 1] 0 ⟨[(0, .v (.slice s.A s.n s.c)), (1, vS t)], []⟩ [] [] (by kernel_rfl) on wn ?_
  refine l_nil (q_then_normal ?_)
  refine c_seq ?_
  refine c_seq ?_
  refine c_region ?_
  refine JL_run 1 [] [5, 0, 1] 0 ⟨[(5, vI 0), (0, .v (.slice s.A s.n s.c)), (1, vS t)], []⟩ [] [] (by kernel_rfl) on wn ?_
  refine l_nil (q_then_normal ?_)
  refine c_block ?_
  refine c_loop (σ := Nat) (fun i => i ≤ s.n ∧ ∀ j, j < i → decide ((s.at j).name = t) = false) (fun i => s.n - i) (fun i => []) (fun i => ⟨[(5, vI ((i : Nat) : Int)), (0, .v (.slice s.A s.n s.c)), (1, vS t)], []⟩) 0 ⟨Nat.zero_le _, fun j hj => absurd hj (Nat.not_lt_zero _)⟩ (s_start [5, 0, 1] 0 (by kernel_rfl) rfl) ?_
  rintro i ⟨hi, hI⟩
  refine c_seq ?_
  refine c_seq ?_
  refine c_region ?_
  refine JL_run 4 [] [9, 5, 0, 1] 0 ⟨[(9, vB (decide (((i : Nat) : Int) < ((s.n : Nat) : Int)))), (5, vI ((i : Nat) : Int)), (0, .v (.slice s.A s.n s.c)), (1, vS t)], []⟩ [] [] (by kernel_rfl) on wn ?_
  refine l_nil (q_then_normal ?_)
  cases h1 : decide (((i : Nat) : Int) < ((s.n : Nat) : Int)) with
  | true =>
    have h1 := of_decide_eq_true h1
    refine c_if true rfl ?_
    refine c_skip ?_
    refine q_then_normal ?_
    refine c_seq ?_
    refine c_block ?_
    refine c_seq ?_
    refine c_region ?_
    refine JL_run 7 [(2, .idx s.ad i), (4, .ext [.string (s.at i).name])] [18, 5, 0, 1] 0 ⟨[(18, vB (decide ((s.at i).name = t))), (5, vI ((i : Nat) : Int)), (0, .v (.slice s.A s.n s.c)), (1, vS t)], []⟩ [s.A = some s.ad, ((i : Nat) : Int) = ((i : Nat) : Int), i < s.n] [((s.ad.add (i * 3)).add 0, [.string (s.at i).name])] (by kernel_rfl) (oc (Sl.ok.own (s := s) (i := i) oks (by omega)) (oc rfl (oc (by omega) on))) (fun w hk hr => ⟨(Sl.rd.fld (s := s) (i := i) (Sl.rd.kp hs hk) (by omega) 0 1 rfl), trivial⟩) ?_
    refine l_nil (q_then_normal ?_)
    cases h2 : decide ((s.at i).name = t) with
    | true =>
      have h2 := of_decide_eq_true h2
      refine c_if true rfl ?_
      refine c_seq ?_
      refine c_region ?_
      refine JL_run 2 [] [4] 0 ⟨[(4, vI ((i : Nat) : Int))], []⟩ [] [] (by kernel_rfl) on wn ?_
      refine l_nil (q_then_normal ?_)
      refine c_ret ?_
      refine q_block_ret (q_then_ret (q_then_ret (q_block_ret (q_then_ret (q_ret (.inl rfl) [vI ((i : Nat) : Int)] rfl (fun bs w hS => ?_))))))
      refine ⟨?_, hS.kp⟩
      rw [mIdx_here (p := (fun x : DPair => decide (x.name = t))) (i := i) (by omega) (decide_eq_true (by assumption)) hI]
      rfl
    | false =>
      have h2 := of_decide_eq_false h2
      refine c_if false rfl ?_
      refine c_skip ?_
      refine q_block_normal (q_then_normal ?_)
      refine c_region ?_
      refine JL_run 3 [] [5, 0, 1] 0 ⟨[(5, vI (((i : Nat) : Int) + 1)), (0, .v (.slice s.A s.n s.c)), (1, vS t)], []⟩ [inR (((i : Nat) : Int) + 1)] [] (by kernel_rfl) (oc (by unfold inR; omega) on) wn ?_
      refine l_nil (q_loop (x := (i : Nat)) ((i + 1) : Nat) ⟨by omega, fun j hj => by rcases Nat.lt_succ_iff_lt_or_eq.1 hj with h | h; exact hI j h; subst h; exact decide_eq_false (by assumption)⟩ (by omega) (s_start [5, 0, 1] 0 (by kernel_rfl) rfl))
  | false =>
    have h1 := of_decide_eq_false h1
    refine c_if false rfl ?_
    refine c_exit ?_
    refine q_then_exit (q_then_exit (q_block_hit (q_then_normal ?_)))
    refine c_seq ?_
    refine c_region ?_
    refine JL_run 1 [] [4] 0 ⟨[(4, vI (-1))], []⟩ [] [] (by kernel_rfl) on wn ?_
    refine l_nil (q_then_normal ?_)
    refine c_ret ?_
    refine q_ret (.inl rfl) [vI (-1)] rfl (fun bs w hS => ?_)
    refine ⟨?_, hS.kp⟩
    rw [mIdx_none (p := (fun x : DPair => decide (x.name = t))) fun j hj => hI j (by omega)]
    rfl

theorem clone_Pair {B : Nat → Prop} (s : Sl DPair) (w : World) (hs : s.rd B w) (hb : s.n ≤ 1048576) : Calls Try.prog 91 #[.slice s.A s.n s.c] w fun e w' => ∃ y : Sl DPair, e = .returned y.val ∧ y.xs = s.xs ∧ Kp [] w w' ∧ Fresh w w' (rowA 110 y.A y.c y.xs) := by
  have oks := Sl.rd.ok hs
  have ncs := Sl.ok.nc oks
  have hns : s.n = s.xs.length := rfl
  refine calls_J0 8 Try.func91 rfl rfl [.slice s.A s.n s.c] rfl ?_
  refine c_seq ?_
  refine c_region ?_
  refine JL_run 1 [] [0] 0 ⟨[(0, .v (.slice s.A s.n s.c))], []⟩ [] [] (by kernel_rfl) on wn ?_
  refine l_nil (q_then_normal ?_)
  refine c_seq ?_
  refine c_seq ?_
  refine c_region ?_
  refine JL_run 2 [(1, .val (.bool s.A.isNone))] [4, 0] 0 ⟨[(4, vB s.A.isNone), (0, .v (.slice s.A s.n s.c))], []⟩ [∀ w, (do eqGuard .eql 45 (.tmp 3) (.const (.slice none 0 0)) (.slice s.A s.n s.c) (.slice none 0 0); binOp .eql 45 (.slice s.A s.n s.c) (.slice none 0 0) : Sem Value).run Try.prog w = .ok (.bool s.A.isNone) w] [] (by kernel_rfl) (oc (eq_nil Try.underlying45) on) wn ?_
  refine l_nil (q_then_normal ?_)
  cases h1 : s.A.isNone with
  | true =>
    refine c_if true rfl ?_
    refine c_seq ?_
    refine c_region ?_
    refine JL_run 1 [] [2] 0 ⟨[(2, .v (.slice none 0 0))], []⟩ [] [] (by kernel_rfl) on wn ?_
    refine l_nil (q_then_normal ?_)
    refine c_ret ?_
    refine q_then_ret (q_ret (.inl rfl) [.v (.slice none 0 0)] rfl (fun bs w hS => ?_))
    have hnil : s.xs = [] := Sl.ok.empty oks (by cases h : s.A <;> simp_all)
    exact ⟨Sl.nil, rfl, hnil.symm, hS.kp, rowA_nil 110 w⟩
  | false =>
    refine c_if false rfl ?_
    refine c_skip ?_
    refine q_then_normal ?_
    refine c_seq ?_
    refine c_region ?_
    refine l_row0A (α := DPair) 110 Try.underlying45 (by kernel_rfl) (by kernel_rfl) (by kernel_rfl) rfl ?_
    intro A1
    refine JL_run 1 [] [6, 5] 0 ⟨[(6, .v (.slice s.A s.n s.c)), (5, .v (.slice A1 ([] : List DPair).length 0))], []⟩ [] [] (by kernel_rfl) on wn ?_
    refine l_appendA (α := DPair) 110 40 A1 0 ([]) (.v (.slice s.A s.n s.c)) (s.xs) Try.underlying45 (by kernel_rfl) rfl rfl rfl (fun bs w hS => ⟨_, _, rfl, Sl.rd.src (s := s) (Sl.rd.kp hs hS.kp)⟩) (by simp only [List.length_nil]; omega) (by simp only [List.length_nil]; omega) ?_
    intro A2 c2
    refine JL_run 1 [] [2] 0 ⟨[(2, .v (.slice A2 ([] ++ s.xs).length c2))], []⟩ [] [] (by kernel_rfl) on wn ?_
    refine l_nil (q_then_normal ?_)
    refine c_ret ?_
    refine q_ret (.inl rfl) [.v (.slice A2 ([] ++ s.xs).length c2)] rfl (fun bs w hS => ?_)
    exact ⟨⟨A2, c2, [] ++ s.xs⟩, rfl, by simp, hS.kp, hS.out1⟩

theorem same_pairs {B B' : Nat → Prop} (a b : Sl DPair) (w : World) (ha : a.rd B w) (hb : b.rd B' w) (he : a.xs = b.xs) : Calls Try.prog 38 #[.slice a.A a.n a.c, .slice b.A b.n b.c] w fun e w' => e = .returned (.bool true) ∧ Kp [] w w' := by
  have oka := Sl.rd.ok ha
  have okb := Sl.rd.ok hb
  have hn := xs_n he
  have nca := Sl.ok.nc oka
  refine calls_J0 26 Try.func38 rfl rfl [.slice a.A a.n a.c, .slice b.A b.n b.c] rfl ?_
  refine c_seq ?_
  refine c_region ?_
  refine JL_run 1 [] [0, 1] 0 ⟨[(0, .v (.slice a.A a.n a.c)), (1, .v (.slice b.A b.n b.c))], []⟩ [] [] (by kernel_rfl) on wn ?_
  refine l_nil (q_then_normal ?_)
  refine c_seq ?_
  refine c_seq ?_
  refine c_region ?_
  refine JL_run 5 [] [10, 0, 1] 0 ⟨[(10, vB (!(decide (((a.n : Nat) : Int) = ((b.n : Nat) : Int))))), (0, .v (.slice a.A a.n a.c)), (1, .v (.slice b.A b.n b.c))], []⟩ [] [] (by kernel_rfl) on wn ?_
  refine l_nil (q_then_normal ?_)
  cases h1 : decide (((a.n : Nat) : Int) = ((b.n : Nat) : Int)) with
  | true =>
    have h1 := of_decide_eq_true h1
    refine c_if false rfl ?_
    refine c_skip ?_
    refine q_then_normal ?_
    refine c_seq ?_
    refine c_seq ?_
    refine c_region ?_
    refine JL_run 1 [] [5, 0, 1] 0 ⟨[(5, vI 0), (0, .v (.slice a.A a.n a.c)), (1, .v (.slice b.A b.n b.c))], []⟩ [] [] (by kernel_rfl) on wn ?_
    refine l_nil (q_then_normal ?_)
    refine c_block ?_
    refine c_loop (σ := Nat) (fun i => True) (fun i => a.n - i) (fun i => []) (fun i => ⟨[(5, vI ((i : Nat) : Int)), (0, .v (.slice a.A a.n a.c)), (1, .v (.slice b.A b.n b.c))], []⟩) 0 trivial (s_start [5, 0, 1] 0 (by kernel_rfl) rfl) ?_
    rintro i _
    have hat := xs_at he i
    refine c_seq ?_
    refine c_seq ?_
    refine c_region ?_
    refine JL_run 4 [] [14, 5, 0, 1] 0 ⟨[(14, vB (decide (((i : Nat) : Int) < ((a.n : Nat) : Int)))), (5, vI ((i : Nat) : Int)), (0, .v (.slice a.A a.n a.c)), (1, .v (.slice b.A b.n b.c))], []⟩ [] [] (by kernel_rfl) on wn ?_
    refine l_nil (q_then_normal ?_)
    cases h2 : decide (((i : Nat) : Int) < ((a.n : Nat) : Int)) with
    | true =>
      have h2 := of_decide_eq_true h2
      refine c_if true rfl ?_
      refine c_skip ?_
      refine q_then_normal ?_
      refine c_seq ?_
      refine c_block ?_
      refine c_seq ?_
      refine c_draw 9 [] (.p 0 (.p 1 (.p 2 (.q 3 (.p 4 (.p 5 (.p 6 (.q 7 (.p 8 .nil))))))))) [] [] Try_mixed (by kernel_rfl) (pq_then (pq_block (pq_then (pq_then (pq_block (pq_then pq_body)))))) .slnil ?_
      refine h_quiet [(2, .idx a.ad i), (3, .ext [.string (a.at i).name, .string (a.at i).value, .int .i64 (a.at i).version]), (6, .idx b.ad i), (7, .ext [.string (b.at i).name, .string (b.at i).value, .int .i64 (b.at i).version]), (8, .val (.bool (!((decide ((a.at i).name = (b.at i).name)) && ((decide ((a.at i).value = (b.at i).value)) && ((decide ((a.at i).version = (b.at i).version)) && true))))))] [(0, true), (1, true), (2, true), (3, false), (4, true), (5, true), (6, true), (7, false), (8, true)] [(25, vB (!((decide ((a.at i).name = (b.at i).name)) && ((decide ((a.at i).value = (b.at i).value)) && ((decide ((a.at i).version = (b.at i).version)) && true))))), (24, .v (.agg #[.string (b.at i).name, .string (b.at i).value, .int .i64 (b.at i).version])), (23, .v (.pointer (some (b.ad.add (i * 3))))), (22, vI ((i : Nat) : Int)), (21, .v (.slice b.A b.n b.c)), (20, .v (.agg #[.string (a.at i).name, .string (a.at i).value, .int .i64 (a.at i).version])), (19, .v (.pointer (some (a.ad.add (i * 3))))), (18, vI ((i : Nat) : Int)), (17, .v (.slice a.A a.n a.c)), (14, vB true), (5, vI ((i : Nat) : Int)), (0, .v (.slice a.A a.n a.c)), (1, .v (.slice b.A b.n b.c))] [a.A = some a.ad, ((i : Nat) : Int) = ((i : Nat) : Int), i < a.n, b.A = some b.ad, ((i : Nat) : Int) = ((i : Nat) : Int), i < b.n, ∀ w, (do eqGuard .neq 110 (.tmp 20) (.tmp 24) (.agg #[.string (a.at i).name, .string (a.at i).value, .int .i64 (a.at i).version]) (.agg #[.string (b.at i).name, .string (b.at i).value, .int .i64 (b.at i).version]); binOp .neq 110 (.agg #[.string (a.at i).name, .string (a.at i).value, .int .i64 (a.at i).version]) (.agg #[.string (b.at i).name, .string (b.at i).value, .int .i64 (b.at i).version]) : Sem Value).run Try.prog w = .ok (.bool (!((decide ((a.at i).name = (b.at i).name)) && ((decide ((a.at i).value = (b.at i).value)) && ((decide ((a.at i).version = (b.at i).version)) && true))))) w] [(a.ad.add (i * 3), [.string (a.at i).name, .string (a.at i).value, .int .i64 (a.at i).version]), (b.ad.add (i * 3), [.string (b.at i).name, .string (b.at i).value, .int .i64 (b.at i).version])] rfl (by kernel_rfl) (oc (Sl.ok.own (s := a) (i := i) oka (by omega)) (oc rfl (oc (by omega) (oc (Sl.ok.own (s := b) (i := i) okb (by omega)) (oc rfl (oc (by omega) (oc (neq_agg (by kernel_rfl) (by kernel_rfl)) on))))))) (fun w hk hr => ⟨(Sl.rd.all (s := a) (i := i) (Sl.rd.kp ha hk) (by omega) rfl), ⟨(Sl.rd.all (s := b) (i := i) (Sl.rd.kp hb hk) (by omega) rfl), trivial⟩⟩) ?_
      refine h_nil ?_
      refine l_nil (q_then_normal ?_)
      cases h3 : (decide ((a.at i).name = (b.at i).name)) && ((decide ((a.at i).value = (b.at i).value)) && ((decide ((a.at i).version = (b.at i).version)) && true)) with
      | true =>
        refine c_if false rfl ?_
        refine c_skip ?_
        refine q_block_normal (q_then_normal ?_)
        refine c_region ?_
        refine JL_run 3 [] [5, 0, 1] 0 ⟨[(5, vI (((i : Nat) : Int) + 1)), (0, .v (.slice a.A a.n a.c)), (1, .v (.slice b.A b.n b.c))], []⟩ [inR (((i : Nat) : Int) + 1)] [] (by kernel_rfl) (oc (by unfold inR; omega) on) wn ?_
        refine l_nil (q_loop (x := (i : Nat)) ((i + 1) : Nat) trivial (by omega) (s_start [5, 0, 1] 0 (by kernel_rfl) rfl))
      | false =>
        exfalso; simp [xs_at he i] at h3
    | false =>
      have h2 := of_decide_eq_false h2
      refine c_if false rfl ?_
      refine c_exit ?_
      refine q_then_exit (q_then_exit (q_block_hit (q_then_normal ?_)))
      refine c_seq ?_
      refine c_region ?_
      refine JL_run 1 [] [4] 0 ⟨[(4, vB true)], []⟩ [] [] (by kernel_rfl) on wn ?_
      refine l_nil (q_then_normal ?_)
      refine c_ret ?_
      refine q_ret (.inl rfl) [vB true] rfl (fun bs w hS => ?_)
      exact ⟨rfl, hS.kp⟩
  | false =>
    have h1 := of_decide_eq_false h1
    exfalso; first | omega | exact h1 (xs_at he i)

theorem pair_Set {B : Nat → Prop} (s : Sl DPair) (t v : ByteArray) (w : World) (hs : s.rd B w) (ht : t.size ≤ 9223372036854775807) (hv : v.size ≤ 9223372036854775807) : Calls Try.prog 36 #[.slice s.A s.n s.c, .string t, .string v] w fun e w' => ∃ y : Sl DPair, e = .returned (.tuple #[.slice y.A y.n y.c, .agg #[.int .i64 ((mPSet s.xs t v).2.1).code, .int .i64 ((mPSet s.xs t v).2.1).n, .string ((mPSet s.xs t v).2.1).text], .int .i64 ((mPSet s.xs t v).2.2)]) ∧ y.xs = (mPSet s.xs t v).1 ∧ FreshS w w' y := by
  have oks := Sl.rd.ok hs
  have ncs := Sl.ok.nc oks
  have hns : s.n = s.xs.length := rfl
  refine calls_J0 84 Try.func36 rfl rfl [.slice s.A s.n s.c, .string t, .string v] rfl ?_
  refine c_seq ?_
  refine c_region ?_
  refine JL_run 3 [] [7, 0, 1, 2] 1 ⟨[(7, .p 0 0), (0, .v (.slice s.A s.n s.c)), (1, vS t), (2, vS v)], [⟨26, [vI 0, vI 0, vS emp]⟩]⟩ [] [] (by kernel_rfl) on wn ?_
  refine l_nil (q_then_normal ?_)
  refine c_seq ?_
  refine c_seq ?_
  refine c_region ?_
  refine JL_run 1 [] [12, 7, 0, 1, 2] 1 ⟨[(12, .v (.slice s.A s.n s.c)), (7, .p 0 0), (0, .v (.slice s.A s.n s.c)), (1, vS t), (2, vS v)], [⟨26, [vI 0, vI 0, vS emp]⟩]⟩ [] [] (by kernel_rfl) on wn ?_
  refine l_pure 89 [] [.v (.slice s.A s.n s.c)] (.int .i64 (mPairs s.xs)) Try.call89 rfl rfl rfl rfl (fun bs w hS => pair_Check s w (Sl.rd.kp hs hS.kp)) ?_
  refine JL_run 1 [] [9, 7, 0, 1, 2] 1 ⟨[(9, vI (mPairs s.xs)), (7, .p 0 0), (0, .v (.slice s.A s.n s.c)), (1, vS t), (2, vS v)], [⟨26, [vI 0, vI 0, vS emp]⟩]⟩ [] [] (by kernel_rfl) on wn ?_
  refine l_nil (q_then_normal ?_)
  refine c_seq ?_
  refine c_region ?_
  refine JL_run 2 [] [15, 9, 7, 0, 1, 2] 1 ⟨[(15, vB (!(decide (mPairs s.xs = 0)))), (9, vI (mPairs s.xs)), (7, .p 0 0), (0, .v (.slice s.A s.n s.c)), (1, vS t), (2, vS v)], [⟨26, [vI 0, vI 0, vS emp]⟩]⟩ [] [] (by kernel_rfl) on wn ?_
  refine l_nil (q_then_normal ?_)
  cases h1 : decide (mPairs s.xs = 0) with
  | true =>
    have h1 := of_decide_eq_true h1
    have hln := (mPairs_bd h1).1
    refine c_if false rfl ?_
    refine c_skip ?_
    refine q_then_normal ?_
    refine c_seq ?_
    refine c_seq ?_
    refine c_region ?_
    refine JL_run 1 [] [18, 7, 0, 1, 2] 1 ⟨[(18, vS t), (7, .p 0 0), (0, .v (.slice s.A s.n s.c)), (1, vS t), (2, vS v)], [⟨26, [vI 0, vI 0, vS emp]⟩]⟩ [] [] (by kernel_rfl) on wn ?_
    refine l_pure 90 [] [vS t] (.bool (mName t)) Try.call90 rfl rfl rfl rfl (fun bs w hS => lock_Name _ w (by first | assumption | omega | (simp only [emp_size]; omega))) ?_
    refine JL_run 1 [] [20, 7, 0, 1, 2] 1 ⟨[(20, vB (!(mName t))), (7, .p 0 0), (0, .v (.slice s.A s.n s.c)), (1, vS t), (2, vS v)], [⟨26, [vI 0, vI 0, vS emp]⟩]⟩ [] [] (by kernel_rfl) on wn ?_
    refine l_nil (q_then_normal ?_)
    cases h2 : mName t with
    | true =>
      refine c_if false rfl ?_
      refine c_skip ?_
      refine q_then_normal ?_
      refine c_seq ?_
      refine c_seq ?_
      refine c_region ?_
      refine JL_run 3 [] [24, 7, 0, 1, 2] 1 ⟨[(24, vB (decide ((12 : Int) < (v.size : Int)))), (7, .p 0 0), (0, .v (.slice s.A s.n s.c)), (1, vS t), (2, vS v)], [⟨26, [vI 0, vI 0, vS emp]⟩]⟩ [] [] (by kernel_rfl) on wn ?_
      refine l_nil (q_then_normal ?_)
      cases h3 : decide ((12 : Int) < (v.size : Int)) with
      | true =>
        have h3 := of_decide_eq_true h3
        refine c_if true rfl ?_
        refine c_seq ?_
        refine c_region ?_
        refine JL_run 4 [] [8, 6, 7] 1 ⟨[(8, vI 1), (6, .v (.slice none 0 0)), (7, .p 0 0)], [⟨26, [vI 0, vI 0, vS emp]⟩]⟩ [] [] (by kernel_rfl) on wn ?_
        refine l_nil (q_then_normal ?_)
        refine c_ret ?_
        refine q_then_ret (q_ret (.inl rfl) [.v (.slice none 0 0), .v (.agg #[.int .i64 0, .int .i64 0, .string emp]), vI 1] rfl (fun bs w hS => ?_))
        have hm : mPSet s.xs t v = ([], zRep, 1) := by
          unfold mPSet pIdx
          repeat (first | rw [if_pos (by first | assumption | omega)] | rw [if_neg (by first | assumption | omega | (intro h0; first | exact absurd h0 (by assumption) | (simp_all; done)))])
          all_goals rfl
        refine ⟨Sl.nil, ?_, ?_, hS.outS (Sl.rd_nil _ _)⟩
        · rw [hm] <;> rfl
        · rw [hm] <;> rfl
      | false =>
        have h3 := of_decide_eq_false h3
        refine c_if false rfl ?_
        refine c_skip ?_
        refine q_then_normal ?_
        refine c_seq ?_
        refine c_region ?_
        refine JL_run 1 [] [26, 7, 1, 2] 1 ⟨[(26, .v (.slice s.A s.n s.c)), (7, .p 0 0), (1, vS t), (2, vS v)], [⟨26, [vI 0, vI 0, vS emp]⟩]⟩ [] [] (by kernel_rfl) on wn ?_
        refine l_freshF (σ := Sl DPair) 91 [] [.v (.slice s.A s.n s.c)] (fun y1 => .slice y1.A y1.n y1.c) (fun y1 => y1.xs = s.xs) (fun y1 => rowA 110 y1.A y1.c (y1.xs : List DPair)) Try.call91 rfl rfl rfl rfl (fun bs w hS => clone_Pair s w (Sl.rd.kp hs hS.kp) (by omega)) ?_
        rintro y1 hF1
        obtain ⟨A1, c1, rfl⟩ := Sl.of_xs hF1
        refine l_weak (rowA 110 A1 c1 (s.xs : List DPair)) (List.Sublist.refl _) (fun w h => h) ?_
        refine l_know (F := RowOk A1 c1 (s.xs : List DPair)) (fun bs w hS => rowA_rok (hS.res _ (.head _))) fun hrow1 => ?_
        have nchrow1 := hrow1.2
        refine JL_run 1 [] [0, 7, 1, 2] 1 ⟨[(0, .v (.slice A1 s.xs.length c1)), (7, .p 0 0), (1, vS t), (2, vS v)], [⟨26, [vI 0, vI 0, vS emp]⟩]⟩ [] [] (by kernel_rfl) on wn ?_
        refine l_nil (q_then_normal ?_)
        refine c_seq ?_
        refine c_region ?_
        refine JL_run 2 [] [30, 29, 0, 7, 1, 2] 1 ⟨[(30, vS t), (29, .v (.slice A1 s.xs.length c1)), (0, .v (.slice A1 s.xs.length c1)), (7, .p 0 0), (1, vS t), (2, vS v)], [⟨26, [vI 0, vI 0, vS emp]⟩]⟩ [] [] (by kernel_rfl) on wn ?_
        refine l_pure 92 [] [.v (.slice A1 s.xs.length c1), vS t] (.tuple #[.int .i64 ((mBS (fun x : DPair => cmpS x.name t) s.xs : Nat) : Int), .bool (mBSf (fun x : DPair => cmpS x.name t) s.xs)]) Try.call92 rfl rfl rfl rfl (fun bs w hS => pair_find (⟨A1, c1, s.xs⟩ : Sl DPair) t w (rowA_rd (B := anyB) (hS.res _ (.head _)) (fun _ _ => trivial) (fun z hz => Sl.rd.mem (s := s) hs z hz)) (show s.xs.length ≤ 1048576 by omega)) ?_
        have hbs := bsf_pair (l := s.xs) (by assumption) t
        have hJb := mIdx_bd (fun x : DPair => decide (x.name = t)) s.xs
        generalize hJ : mIdx (fun x : DPair => decide (x.name = t)) s.xs = J at hbs hJb
        have hkl := mBS_le (fun x : DPair => cmpS x.name t) s.xs
        generalize hk : mBS (fun x : DPair => cmpS x.name t) s.xs = k at hbs hkl ⊢
        generalize hf : mBSf (fun x : DPair => cmpS x.name t) s.xs = fb at hbs ⊢
        refine JL_run 5 [] [11, 10, 0, 7, 1, 2] 1 ⟨[(11, vB fb), (10, vI ((k : Nat) : Int)), (0, .v (.slice A1 s.xs.length c1)), (7, .p 0 0), (1, vS t), (2, vS v)], [⟨26, [vI 0, vI 0, vS emp]⟩]⟩ [] [] (by kernel_rfl) on wn ?_
        refine l_nil (q_then_normal ?_)
        refine c_seq ?_
        refine c_block ?_
        refine c_seq ?_
        refine c_seq ?_
        refine c_region ?_
        refine JL_run 3 [] [37, 11, 10, 0, 7, 1, 2] 1 ⟨[(37, vB (!fb)), (11, vB fb), (10, vI ((k : Nat) : Int)), (0, .v (.slice A1 s.xs.length c1)), (7, .p 0 0), (1, vS t), (2, vS v)], [⟨26, [vI 0, vI 0, vS emp]⟩]⟩ [] [] (by kernel_rfl) on wn ?_
        cases h4 : fb with
        | true =>
          have hkJ := hbs.2 h4
          subst hkJ
          have hpv := pairF_bd ((mPairs_bd (l := s.xs) (by assumption)).2 k (by omega))
          have hpv1 := hpv.2.2.1
          have hpv2 := hpv.2.2.2.1
          refine JL_run 5 [] [34, 11, 10, 0, 7, 1, 2] 1 ⟨[(34, vB false), (11, vB true), (10, vI ((k : Nat) : Int)), (0, .v (.slice A1 s.xs.length c1)), (7, .p 0 0), (1, vS t), (2, vS v)], [⟨26, [vI 0, vI 0, vS emp]⟩]⟩ [] [] (by kernel_rfl) on wn ?_
          refine l_nil (q_then_normal ?_)
          refine c_if false rfl ?_
          refine c_region ?_
          refine JL_run 10 [(4, .idx (oad A1) k), (6, .ext [.int .i64 (s.xs.getD k default).version])] [34, 11, 10, 0, 7, 1, 2] 1 ⟨[(34, vB (decide ((s.xs.getD k default).version = 1073741824))), (11, vB true), (10, vI ((k : Nat) : Int)), (0, .v (.slice A1 s.xs.length c1)), (7, .p 0 0), (1, vS t), (2, vS v)], [⟨26, [vI 0, vI 0, vS emp]⟩]⟩ [A1 = some (oad A1), ((k : Nat) : Int) = ((k : Nat) : Int), k < s.xs.length] [(((oad A1).add (k * 3)).add 2, [.int .i64 (s.xs.getD k default).version])] (by kernel_rfl) (oc (hrow1.1 k (by omega)) (oc rfl (oc (by omega) on))) (fun w hk hr => ⟨(rowA_fld (i := k) (hr _ (.head _)) (by omega) 2 1 rfl), trivial⟩) ?_
          refine l_nil (q_then_normal ?_)
          cases h5 : decide ((s.xs.getD k default).version = 1073741824) with
          | true =>
            have h5 := of_decide_eq_true h5
            refine c_if true rfl ?_
            refine c_seq ?_
            refine c_region ?_
            refine JL_run 5 [] [8, 6, 7] 1 ⟨[(8, vI 0), (6, .v (.slice A1 s.xs.length c1)), (7, .p 0 0)], [⟨26, [vI 8, vI 0, vS emp]⟩]⟩ [] [] (by kernel_rfl) on wn ?_
            refine l_nil (q_then_normal ?_)
            refine c_ret ?_
            refine q_block_ret (q_then_ret (q_ret (.inl rfl) [.v (.slice A1 s.xs.length c1), .v (.agg #[.int .i64 8, .int .i64 0, .string emp]), vI 0] rfl (fun bs w hS => ?_)))
            have hm : mPSet s.xs t v = (s.xs, ⟨8, 0, emp⟩, 0) := by
              unfold mPSet pIdx
              simp only [hJ, Int.toNat_natCast]
              repeat (first | rw [if_pos (by first | assumption | omega)] | rw [if_neg (by first | assumption | omega | (intro h0; first | exact absurd h0 (by assumption) | (simp_all; done)))])
              all_goals rfl
            refine ⟨⟨A1, c1, s.xs⟩, ?_, ?_, hS.outS (y := (⟨A1, c1, s.xs⟩ : Sl DPair)) (allR_row (.head _) (hS.res _ (.head _)) (fun z hz => Sl.rd.mem (s := s) hs z hz))⟩
            · rw [hm] <;> rfl
            · exact Eq.trans rfl (congrArg Prod.fst hm).symm
          | false =>
            have h5 := of_decide_eq_false h5
            refine c_if false rfl ?_
            refine c_seq ?_
            refine c_region ?_
            refine JL_run 3 [] [53, 10, 0, 7, 1, 2] 1 ⟨[(53, vB false), (10, vI ((k : Nat) : Int)), (0, .v (.slice A1 s.xs.length c1)), (7, .p 0 0), (1, vS t), (2, vS v)], [⟨26, [vI 0, vI 0, vS emp]⟩]⟩ [] [] (by kernel_rfl) on wn ?_
            refine l_nil (q_then_normal ?_)
            refine c_if false rfl ?_
            refine c_skip ?_
            refine q_block_normal (q_then_normal ?_)
            refine c_seq ?_
            refine c_region ?_
            refine JL_run 5 [(3, .idx (oad A1) k)] [68, 66, 10, 0, 7] 1 ⟨[(68, .v (.pointer (some (((oad A1).add (k * 3)).add 1)))), (66, vS v), (10, vI ((k : Nat) : Int)), (0, .v (.slice A1 s.xs.length c1)), (7, .p 0 0)], [⟨26, [vI 0, vI 0, vS emp]⟩]⟩ [A1 = some (oad A1), ((k : Nat) : Int) = ((k : Nat) : Int), k < s.xs.length] [] (by kernel_rfl) (oc (hrow1.1 k (by omega)) (oc rfl (oc (by omega) on))) wn ?_
            refine l_storeA (α := DPair) 110 A1 c1 s.xs k 1 (((oad A1).add (k * 3)).add 1) (vS v) [vS v] [.string v] (⟨(s.xs.getD k default).name, v, (s.xs.getD k default).version⟩ : DPair) rfl rfl rfl rfl rfl (by kernel_rfl) (by kernel_rfl) rfl (by omega) (by kernel_rfl) rfl rfl rfl ?_
            intro L3 hL3 hlL3
            have hgL3 : L3.getD k default = (⟨(s.xs.getD k default).name, v, (s.xs.getD k default).version⟩ : DPair) := by rw [hL3]; exact getD_set (by omega)
            have hbL3 : L3 = List.set s.xs k (⟨(s.xs.getD k default).name, v, (s.xs.getD k default).version⟩ : DPair) := by rw [hL3]
            refine l_nil (q_then_normal ?_)
            refine c_seq ?_
            refine c_region ?_
            refine JL_run 8 [(2, .idx (oad A1) k), (4, .ext [.int .i64 (s.xs.getD k default).version]), (6, .idx (oad A1) k)] [76, 74, 10, 0, 7] 1 ⟨[(76, .v (.pointer (some (((oad A1).add (k * 3)).add 2)))), (74, vI ((s.xs.getD k default).version + 1)), (10, vI ((k : Nat) : Int)), (0, .v (.slice A1 s.xs.length c1)), (7, .p 0 0)], [⟨26, [vI 0, vI 0, vS emp]⟩]⟩ [A1 = some (oad A1), ((k : Nat) : Int) = ((k : Nat) : Int), k < s.xs.length, inR ((s.xs.getD k default).version + 1), A1 = some (oad A1), ((k : Nat) : Int) = ((k : Nat) : Int), k < s.xs.length] [(((oad A1).add (k * 3)).add 2, [.int .i64 (s.xs.getD k default).version])] (by kernel_rfl) (oc (hrow1.1 k (by omega)) (oc rfl (oc (by omega) (oc (by unfold inR; omega) (oc (hrow1.1 k (by omega)) (oc rfl (oc (by omega) on))))))) (fun w hk hr => ⟨(rowA_fld (i := k) (hr _ (.head _)) (by omega) 2 1 (by rw [hgL3]; rfl)), trivial⟩) ?_
            refine l_storeA (α := DPair) 110 A1 c1 L3 k 2 (((oad A1).add (k * 3)).add 2) (vI ((s.xs.getD k default).version + 1)) [vI ((s.xs.getD k default).version + 1)] [.int .i64 ((s.xs.getD k default).version + 1)] (⟨(s.xs.getD k default).name, v, (s.xs.getD k default).version + 1⟩ : DPair) rfl rfl rfl rfl rfl (by kernel_rfl) (by kernel_rfl) rfl (by omega) (by kernel_rfl) (by rw [hgL3]; rfl) rfl rfl ?_
            intro L4 hL4 hlL4
            have hgL4 : L4.getD k default = (⟨(s.xs.getD k default).name, v, (s.xs.getD k default).version + 1⟩ : DPair) := by rw [hL4]; exact getD_set (by omega)
            have hbL4 : L4 = List.set s.xs k (⟨(s.xs.getD k default).name, v, (s.xs.getD k default).version + 1⟩ : DPair) := by rw [hL4, hbL3, List.set_set]
            refine l_nil (q_then_normal ?_)
            refine c_seq ?_
            refine c_draw 10 [] (.p 0 (.p 1 (.p 2 (.p 3 (.p 4 (.q 5 (.p 6 (.p 7 (.b 8 (.p 9 .nil) .z))))))))) [0] [rowA 110 A1 c1 (L4 : List DPair)] Try_mixed (by kernel_rfl) (pq_then pq_body) (List.Sublist.refl _) ?_
            refine h_quiet [(3, .idx (oad A1) k), (5, .ext [.int .i64 ((s.xs.getD k default).version + 1)])] [(0, true), (1, true), (2, true), (3, true), (4, true), (5, false), (6, true), (7, true)] [(6, .v (.slice A1 s.xs.length c1)), (83, .v (.agg #[.int .i64 0, .int .i64 ((s.xs.getD k default).version + 1), .string emp])), (82, vI ((s.xs.getD k default).version + 1)), (81, .v (.pointer (some (((oad A1).add (k * 3)).add 2)))), (80, .v (.pointer (some ((oad A1).add (k * 3))))), (79, vI ((k : Nat) : Int)), (78, .v (.slice A1 s.xs.length c1)), (77, .v (.slice A1 s.xs.length c1)), (76, .v (.pointer (some (((oad A1).add (k * 3)).add 2)))), (74, vI ((s.xs.getD k default).version + 1)), (10, vI ((k : Nat) : Int)), (0, .v (.slice A1 s.xs.length c1)), (7, .p 0 0)] [A1 = some (oad A1), ((k : Nat) : Int) = ((k : Nat) : Int), k < s.xs.length] [(((oad A1).add (k * 3)).add 2, [.int .i64 ((s.xs.getD k default).version + 1)])] rfl (by kernel_rfl) (oc (hrow1.1 k (by omega)) (oc rfl (oc (by omega) on))) (fun w hk hr => ⟨(rowA_fld (i := k) (hr _ (.head _)) (by omega) 2 1 (by rw [hgL4]; rfl)), trivial⟩) ?_
            refine h_local ⟨[(6, .v (.slice A1 s.xs.length c1)), (83, .v (.agg #[.int .i64 0, .int .i64 ((s.xs.getD k default).version + 1), .string emp])), (82, vI ((s.xs.getD k default).version + 1)), (81, .v (.pointer (some (((oad A1).add (k * 3)).add 2)))), (80, .v (.pointer (some ((oad A1).add (k * 3))))), (79, vI ((k : Nat) : Int)), (78, .v (.slice A1 s.xs.length c1)), (77, .v (.slice A1 s.xs.length c1)), (76, .v (.pointer (some (((oad A1).add (k * 3)).add 2)))), (74, vI ((s.xs.getD k default).version + 1)), (10, vI ((k : Nat) : Int)), (0, .v (.slice A1 s.xs.length c1)), (7, .p 0 0)], [⟨26, [vI 0, vI ((s.xs.getD k default).version + 1), vS emp]⟩]⟩ (by kernel_rfl) (fun bs0 bs w hp hl hS => hS.down hp hl rfl (le_mask le_nil) (List.Sublist.refl _)) ?_
            refine h_quiet [] [(9, true)] [(8, vI 0), (6, .v (.slice A1 s.xs.length c1)), (83, .v (.agg #[.int .i64 0, .int .i64 ((s.xs.getD k default).version + 1), .string emp])), (82, vI ((s.xs.getD k default).version + 1)), (81, .v (.pointer (some (((oad A1).add (k * 3)).add 2)))), (80, .v (.pointer (some ((oad A1).add (k * 3))))), (79, vI ((k : Nat) : Int)), (78, .v (.slice A1 s.xs.length c1)), (77, .v (.slice A1 s.xs.length c1)), (76, .v (.pointer (some (((oad A1).add (k * 3)).add 2)))), (74, vI ((s.xs.getD k default).version + 1)), (10, vI ((k : Nat) : Int)), (0, .v (.slice A1 s.xs.length c1)), (7, .p 0 0)] [] [] rfl (by kernel_rfl) on wn ?_
            refine h_nil ?_
            refine l_nil (q_then_normal ?_)
            refine c_ret ?_
            refine q_ret (.inl rfl) [.v (.slice A1 s.xs.length c1), .v (.agg #[.int .i64 0, .int .i64 ((s.xs.getD k default).version + 1), .string emp]), vI 0] rfl (fun bs w hS => ?_)
            have hvx : L4 = s.xs.set k ⟨(s.xs.getD k default).name, v, (s.xs.getD k default).version + 1⟩ := hbL4
            have hm : mPSet s.xs t v = (s.xs.set k ⟨(s.xs.getD k default).name, v, (s.xs.getD k default).version + 1⟩, ⟨0, (s.xs.getD k default).version + 1, emp⟩, 0) := by
              unfold mPSet pIdx
              simp only [hJ, Int.toNat_natCast]
              repeat (first | rw [if_pos (by first | assumption | omega)] | rw [if_neg (by first | assumption | omega | (intro h0; first | exact absurd h0 (by assumption) | (simp_all; done)))])
              all_goals rfl
            refine ⟨⟨A1, c1, L4⟩, ?_, ?_, hS.outS (y := (⟨A1, c1, L4⟩ : Sl DPair)) (allR_row (.head _) (hS.res _ (.head _)) (fun z hz => ?_))⟩
            · have hll : L4.length = s.xs.length := by rw [hvx, List.length_set]
              rw [hm]
              exact congrArg (fun q => Ending.returned (.tuple #[.slice A1 q c1, .agg #[.int .i64 0, .int .i64 ((s.xs.getD k default).version + 1), .string emp], .int .i64 0])) hll.symm
            · exact Eq.trans hvx (congrArg Prod.fst hm).symm
            · rw [hvx] at hz
              rcases mem_set hz with hz | hz
              · subst hz; exact ⟨(Sl.rd.mem (s := s) hs _ (mem_of_getD (i := k) (by omega))).1, hv⟩
              · exact Sl.rd.mem (s := s) hs z hz
        | false =>
          have h0J := of_decide_eq_false (hbs.1.symm.trans h4)
          refine JL_run 5 [] [34, 11, 10, 0, 7, 1, 2] 1 ⟨[(34, vB (decide (((s.xs.length : Nat) : Int) = 5))), (11, vB false), (10, vI ((k : Nat) : Int)), (0, .v (.slice A1 s.xs.length c1)), (7, .p 0 0), (1, vS t), (2, vS v)], [⟨26, [vI 0, vI 0, vS emp]⟩]⟩ [] [] (by kernel_rfl) on wn ?_
          refine l_nil (q_then_normal ?_)
          cases h6 : decide (((s.xs.length : Nat) : Int) = 5) with
          | true =>
            have h6 := of_decide_eq_true h6
            refine c_if true rfl ?_
            refine c_skip ?_
            refine q_then_normal ?_
            refine c_if true rfl ?_
            refine c_seq ?_
            refine c_region ?_
            refine JL_run 5 [] [8, 6, 7] 1 ⟨[(8, vI 0), (6, .v (.slice A1 s.xs.length c1)), (7, .p 0 0)], [⟨26, [vI 8, vI 0, vS emp]⟩]⟩ [] [] (by kernel_rfl) on wn ?_
            refine l_nil (q_then_normal ?_)
            refine c_ret ?_
            refine q_block_ret (q_then_ret (q_ret (.inl rfl) [.v (.slice A1 s.xs.length c1), .v (.agg #[.int .i64 8, .int .i64 0, .string emp]), vI 0] rfl (fun bs w hS => ?_)))
            have hm : mPSet s.xs t v = (s.xs, ⟨8, 0, emp⟩, 0) := by
              unfold mPSet pIdx
              simp only [hJ, Int.toNat_natCast]
              repeat (first | rw [if_pos (by first | assumption | omega)] | rw [if_neg (by first | assumption | omega | (intro h0; first | exact absurd h0 (by assumption) | (simp_all; done)))])
              all_goals rfl
            refine ⟨⟨A1, c1, s.xs⟩, ?_, ?_, hS.outS (y := (⟨A1, c1, s.xs⟩ : Sl DPair)) (allR_row (.head _) (hS.res _ (.head _)) (fun z hz => Sl.rd.mem (s := s) hs z hz))⟩
            · rw [hm] <;> rfl
            · exact Eq.trans rfl (congrArg Prod.fst hm).symm
          | false =>
            have h6 := of_decide_eq_false h6
            refine c_if false rfl ?_
            refine c_region ?_
            refine JL_run 10 [] [34, 11, 10, 0, 7, 1, 2] 1 ⟨[(34, vB false), (11, vB false), (10, vI ((k : Nat) : Int)), (0, .v (.slice A1 s.xs.length c1)), (7, .p 0 0), (1, vS t), (2, vS v)], [⟨26, [vI 0, vI 0, vS emp]⟩]⟩ [] [] (by kernel_rfl) on wn ?_
            refine l_nil (q_then_normal ?_)
            refine c_if false rfl ?_
            refine c_seq ?_
            refine c_region ?_
            refine JL_run 3 [] [53, 10, 0, 7, 1, 2] 1 ⟨[(53, vB true), (10, vI ((k : Nat) : Int)), (0, .v (.slice A1 s.xs.length c1)), (7, .p 0 0), (1, vS t), (2, vS v)], [⟨26, [vI 0, vI 0, vS emp]⟩]⟩ [] [] (by kernel_rfl) on wn ?_
            refine l_nil (q_then_normal ?_)
            refine c_if true rfl ?_
            refine c_seq ?_
            refine c_region ?_
            refine JL_run 6 [] [61, 57, 56, 7] 2 ⟨[(61, .s 1 0 1 1), (57, vI ((k : Nat) : Int)), (56, .v (.slice A1 s.xs.length c1)), (7, .p 0 0)], [⟨26, [vI 0, vI 0, vS emp]⟩, ⟨110, [vS t, vS v, vI 1]⟩]⟩ [] [] (by kernel_rfl) on wn ?_
            refine l_turn (σ := Option Addr × Nat) 93 [] [.v (.slice A1 s.xs.length c1), vI ((k : Nat) : Int), .s 1 0 1 1] (fun q5 => .slice q5.1 (s.xs.take k ++ [(⟨t, v, 1⟩ : DPair)] ++ s.xs.drop k).length q5.2) (fun q5 => True) (fun q5 => rowA 110 q5.1 q5.2 (s.xs.take k ++ [(⟨t, v, 1⟩ : DPair)] ++ s.xs.drop k : List DPair)) Try.call93 rfl rfl rfl rfl (fun bs w hS => (insR_Pair A1 c1 s.xs k _ (⟨t, v, 1⟩ : DPair) (bs.getD 1 0) 110 w (hS.res _ (.head _)) hS.head1.2.2 rfl (by first | omega | (simp only [Sl.n] at *; omega)) (by first | omega | (simp only [Sl.n] at *; omega)) (hS.loc 1 ⟨110, [vS t, vS v, vI 1]⟩ rfl (by simp)) (hS.ne_head (i := 1) (b := ⟨110, [vS t, vS v, vI 1]⟩) rfl)).mono (fun e w' ⟨y, h1, h2⟩ => ⟨y, h1, trivial, h2⟩)) ?_
            rintro q5 _
            refine JL_run 4 [] [8, 6, 7] 1 ⟨[(8, vI 0), (6, .v (.slice q5.1 (s.xs.take k ++ [(⟨t, v, 1⟩ : DPair)] ++ s.xs.drop k).length q5.2)), (7, .p 0 0)], [⟨26, [vI 0, vI 1, vS emp]⟩]⟩ [] [] (by kernel_rfl) on wn ?_
            refine l_nil (q_then_normal ?_)
            refine c_ret ?_
            refine q_block_ret (q_then_ret (q_ret (.inl rfl) [.v (.slice q5.1 (s.xs.take k ++ [(⟨t, v, 1⟩ : DPair)] ++ s.xs.drop k).length q5.2), .v (.agg #[.int .i64 0, .int .i64 1, .string emp]), vI 0] rfl (fun bs w hS => ?_)))
            have hvx : s.xs.take k ++ [(⟨t, v, 1⟩ : DPair)] ++ s.xs.drop k = mIns (fun x : DPair => Op.bytesLess t.toList x.name.toList) ⟨t, v, 1⟩ s.xs := ins_at ((ins_names DPair.name (pairs_srt (by assumption) t) (by rw [hJ]; omega)).trans hk)
            have hm : mPSet s.xs t v = (mIns (fun x : DPair => Op.bytesLess t.toList x.name.toList) ⟨t, v, 1⟩ s.xs, ⟨0, 1, emp⟩, 0) := by
              unfold mPSet pIdx
              simp only [hJ, Int.toNat_natCast]
              repeat (first | rw [if_pos (by first | assumption | omega)] | rw [if_neg (by first | assumption | omega | (intro h0; first | exact absurd h0 (by assumption) | (simp_all; done)))])
              all_goals rfl
            refine ⟨⟨q5.1, q5.2, s.xs.take k ++ [(⟨t, v, 1⟩ : DPair)] ++ s.xs.drop k⟩, ?_, ?_, hS.outS (y := (⟨q5.1, q5.2, s.xs.take k ++ [(⟨t, v, 1⟩ : DPair)] ++ s.xs.drop k⟩ : Sl DPair)) (allR_row (.head _) (hS.res _ (.head _)) (fun z hz => ?_))⟩
            · rw [hm] <;> rfl
            · exact Eq.trans hvx (congrArg Prod.fst hm).symm
            · rw [hvx] at hz
              rcases ins_mem hz with hz | hz
              · subst hz; exact ⟨ht, hv⟩
              · exact Sl.rd.mem (s := s) hs z hz
    | false =>
      refine c_if true rfl ?_
      refine c_seq ?_
      refine c_region ?_
      refine JL_run 4 [] [8, 6, 7] 1 ⟨[(8, vI 4), (6, .v (.slice none 0 0)), (7, .p 0 0)], [⟨26, [vI 0, vI 0, vS emp]⟩]⟩ [] [] (by kernel_rfl) on wn ?_
      refine l_nil (q_then_normal ?_)
      refine c_ret ?_
      refine q_then_ret (q_ret (.inl rfl) [.v (.slice none 0 0), .v (.agg #[.int .i64 0, .int .i64 0, .string emp]), vI 4] rfl (fun bs w hS => ?_))
      have hm : mPSet s.xs t v = ([], zRep, 4) := by
        unfold mPSet pIdx
        repeat (first | rw [if_pos (by first | assumption | omega)] | rw [if_neg (by first | assumption | omega | (intro h0; first | exact absurd h0 (by assumption) | (simp_all; done)))])
        all_goals rfl
      refine ⟨Sl.nil, ?_, ?_, hS.outS (Sl.rd_nil _ _)⟩
      · rw [hm] <;> rfl
      · rw [hm] <;> rfl
  | false =>
    have h1 := of_decide_eq_false h1
    refine c_if true rfl ?_
    refine c_seq ?_
    refine c_region ?_
    refine JL_run 5 [] [8, 6, 7] 1 ⟨[(8, vI (mPairs s.xs)), (6, .v (.slice none 0 0)), (7, .p 0 0)], [⟨26, [vI 0, vI 0, vS emp]⟩]⟩ [] [] (by kernel_rfl) on wn ?_
    refine l_nil (q_then_normal ?_)
    refine c_ret ?_
    refine q_then_ret (q_ret (.inl rfl) [.v (.slice none 0 0), .v (.agg #[.int .i64 0, .int .i64 0, .string emp]), vI (mPairs s.xs)] rfl (fun bs w hS => ?_))
    have hm : mPSet s.xs t v = ([], zRep, mPairs s.xs) := by
      unfold mPSet pIdx
      repeat (first | rw [if_pos (by first | assumption | omega)] | rw [if_neg (by first | assumption | omega | (intro h0; first | exact absurd h0 (by assumption) | (simp_all; done)))])
      all_goals rfl
    refine ⟨Sl.nil, ?_, ?_, hS.outS (Sl.rd_nil _ _)⟩
    · rw [hm] <;> rfl
    · rw [hm] <;> rfl

theorem ref_SetOf {B : Nat → Prop} (s : Sl DPair) (t v : ByteArray) (w : World) (hs : s.rd B w) (ht : t.size ≤ 9223372036854775807) (hv : v.size ≤ 9223372036854775807) : Calls Try.prog 37 #[.slice s.A s.n s.c, .string t, .string v] w fun e w' => ∃ y : Sl DPair, e = .returned (.tuple #[.slice y.A y.n y.c, .agg #[.int .i64 ((mPSet s.xs t v).2.1).code, .int .i64 ((mPSet s.xs t v).2.1).n, .string ((mPSet s.xs t v).2.1).text], .int .i64 ((mPSet s.xs t v).2.2)]) ∧ y.xs = (mPSet s.xs t v).1 ∧ FreshS w w' y := by
  have oks := Sl.rd.ok hs
  have ncs := Sl.ok.nc oks
  have hns : s.n = s.xs.length := rfl
  refine calls_J0 115 Try.func37 rfl rfl [.slice s.A s.n s.c, .string t, .string v] rfl ?_
  refine c_seq ?_
  refine c_region ?_
  refine JL_run 3 [] [7, 0, 1, 2] 1 ⟨[(7, .p 0 0), (0, .v (.slice s.A s.n s.c)), (1, vS t), (2, vS v)], [⟨26, [vI 0, vI 0, vS emp]⟩]⟩ [] [] (by kernel_rfl) on wn ?_
  refine l_nil (q_then_normal ?_)
  refine c_seq ?_
  refine c_region ?_
  refine JL_run 1 [] [15, 7, 0, 1, 2] 1 ⟨[(15, .v (.slice s.A s.n s.c)), (7, .p 0 0), (0, .v (.slice s.A s.n s.c)), (1, vS t), (2, vS v)], [⟨26, [vI 0, vI 0, vS emp]⟩]⟩ [] [] (by kernel_rfl) on wn ?_
  refine l_pure 94 [] [.v (.slice s.A s.n s.c)] (.int .i64 (mPairs s.xs)) Try.call94 rfl rfl rfl rfl (fun bs w hS => ref_PairsFault s w (Sl.rd.kp hs hS.kp)) ?_
  refine JL_run 1 [] [9, 7, 0, 1, 2] 1 ⟨[(9, vI (mPairs s.xs)), (7, .p 0 0), (0, .v (.slice s.A s.n s.c)), (1, vS t), (2, vS v)], [⟨26, [vI 0, vI 0, vS emp]⟩]⟩ [] [] (by kernel_rfl) on wn ?_
  refine l_nil (q_then_normal ?_)
  refine c_seq ?_
  refine c_seq ?_
  refine c_region ?_
  refine JL_run 3 [] [19, 9, 7, 0, 1, 2] 1 ⟨[(19, vB (decide (mPairs s.xs = 0))), (9, vI (mPairs s.xs)), (7, .p 0 0), (0, .v (.slice s.A s.n s.c)), (1, vS t), (2, vS v)], [⟨26, [vI 0, vI 0, vS emp]⟩]⟩ [] [] (by kernel_rfl) on wn ?_
  cases h1 : decide (mPairs s.xs = 0) with
  | true =>
    have h1 := of_decide_eq_true h1
    have hln := (mPairs_bd h1).1
    refine JL_run 1 [] [20, 19, 9, 7, 0, 1, 2] 1 ⟨[(20, vS t), (19, vB true), (9, vI (mPairs s.xs)), (7, .p 0 0), (0, .v (.slice s.A s.n s.c)), (1, vS t), (2, vS v)], [⟨26, [vI 0, vI 0, vS emp]⟩]⟩ [] [] (by kernel_rfl) on wn ?_
    refine l_pure 95 [] [vS t] (.bool (mName t)) Try.call95 rfl rfl rfl rfl (fun bs w hS => ref_NameMay _ w (by first | assumption | omega | (simp only [emp_size]; omega))) ?_
    refine JL_run 2 [] [23, 9, 7, 0, 1, 2] 1 ⟨[(23, vB (!(mName t))), (9, vI (mPairs s.xs)), (7, .p 0 0), (0, .v (.slice s.A s.n s.c)), (1, vS t), (2, vS v)], [⟨26, [vI 0, vI 0, vS emp]⟩]⟩ [] [] (by kernel_rfl) on wn ?_
    refine l_nil (q_then_normal ?_)
    cases h2 : mName t with
    | true =>
      refine c_if false rfl ?_
      refine c_skip ?_
      refine q_then_normal ?_
      refine c_seq ?_
      refine c_seq ?_
      refine c_region ?_
      refine JL_run 3 [] [26, 9, 7, 0, 1, 2] 1 ⟨[(26, vB (decide (mPairs s.xs = 0))), (9, vI (mPairs s.xs)), (7, .p 0 0), (0, .v (.slice s.A s.n s.c)), (1, vS t), (2, vS v)], [⟨26, [vI 0, vI 0, vS emp]⟩]⟩ [] [] (by kernel_rfl) on wn ?_
      cases h3 : decide (mPairs s.xs = 0) with
      | true =>
        have h3 := of_decide_eq_true h3
        have hln := (mPairs_bd h3).1
        refine JL_run 4 [] [30, 9, 7, 0, 1, 2] 1 ⟨[(30, vB (decide ((12 : Int) < (v.size : Int)))), (9, vI (mPairs s.xs)), (7, .p 0 0), (0, .v (.slice s.A s.n s.c)), (1, vS t), (2, vS v)], [⟨26, [vI 0, vI 0, vS emp]⟩]⟩ [] [] (by kernel_rfl) on wn ?_
        refine l_nil (q_then_normal ?_)
        cases h4 : decide ((12 : Int) < (v.size : Int)) with
        | true =>
          have h4 := of_decide_eq_true h4
          refine c_if true rfl ?_
          refine c_region ?_
          refine JL_run 1 [] [9, 7, 0, 1, 2] 1 ⟨[(9, vI 1), (7, .p 0 0), (0, .v (.slice s.A s.n s.c)), (1, vS t), (2, vS v)], [⟨26, [vI 0, vI 0, vS emp]⟩]⟩ [] [] (by kernel_rfl) on wn ?_
          refine l_nil (q_then_normal ?_)
          refine c_seq ?_
          refine c_seq ?_
          refine c_region ?_
          refine JL_run 2 [] [32, 9, 7, 0, 1, 2] 1 ⟨[(32, vB true), (9, vI 1), (7, .p 0 0), (0, .v (.slice s.A s.n s.c)), (1, vS t), (2, vS v)], [⟨26, [vI 0, vI 0, vS emp]⟩]⟩ [] [] (by kernel_rfl) on wn ?_
          refine l_nil (q_then_normal ?_)
          refine c_if true rfl ?_
          refine c_seq ?_
          refine c_region ?_
          refine JL_run 5 [] [8, 6, 7] 1 ⟨[(8, vI 1), (6, .v (.slice none 0 0)), (7, .p 0 0)], [⟨26, [vI 0, vI 0, vS emp]⟩]⟩ [] [] (by kernel_rfl) on wn ?_
          refine l_nil (q_then_normal ?_)
          refine c_ret ?_
          refine q_then_ret (q_ret (.inl rfl) [.v (.slice none 0 0), .v (.agg #[.int .i64 0, .int .i64 0, .string emp]), vI 1] rfl (fun bs w hS => ?_))
          have hm : mPSet s.xs t v = ([], zRep, 1) := by
            unfold mPSet pIdx
            repeat (first | rw [if_pos (by first | assumption | omega)] | rw [if_neg (by first | assumption | omega | (intro h0; first | exact absurd h0 (by assumption) | (simp_all; done)))])
            all_goals rfl
          refine ⟨Sl.nil, ?_, ?_, hS.outS (Sl.rd_nil _ _)⟩
          · rw [hm] <;> rfl
          · rw [hm] <;> rfl
        | false =>
          have h4 := of_decide_eq_false h4
          refine c_if false rfl ?_
          refine c_skip ?_
          refine q_then_normal ?_
          refine c_seq ?_
          refine c_seq ?_
          refine c_region ?_
          refine JL_run 2 [] [32, 9, 7, 0, 1, 2] 1 ⟨[(32, vB (!(decide (mPairs s.xs = 0)))), (9, vI (mPairs s.xs)), (7, .p 0 0), (0, .v (.slice s.A s.n s.c)), (1, vS t), (2, vS v)], [⟨26, [vI 0, vI 0, vS emp]⟩]⟩ [] [] (by kernel_rfl) on wn ?_
          refine l_nil (q_then_normal ?_)
          cases h5 : decide (mPairs s.xs = 0) with
          | true =>
            have h5 := of_decide_eq_true h5
            have hln := (mPairs_bd h5).1
            refine c_if false rfl ?_
            refine c_skip ?_
            refine q_then_normal ?_
            refine c_seq ?_
            refine c_region ?_
            refine JL_run 1 [] [35, 7, 1, 2] 1 ⟨[(35, .v (.slice s.A s.n s.c)), (7, .p 0 0), (1, vS t), (2, vS v)], [⟨26, [vI 0, vI 0, vS emp]⟩]⟩ [] [] (by kernel_rfl) on wn ?_
            refine l_rowA (α := DPair) 110 ?_
            refine l_appendA (α := DPair) 110 40 none 0 ([]) (.v (.slice s.A s.n s.c)) (s.xs) Try.underlying45 (by kernel_rfl) rfl rfl rfl (fun bs w hS => ⟨_, _, rfl, Sl.rd.src (s := s) (Sl.rd.kp hs hS.kp)⟩) (by first | omega | (simp only [List.length_append, List.length_nil, List.length_cons]; omega)) (by first | omega | (simp only [List.length_append, List.length_nil, List.length_cons]; omega)) ?_
            intro A1 c1
            refine l_weak (rowA 110 A1 c1 (s.xs : List DPair)) (List.Sublist.refl _) (fun w h => h) ?_
            refine l_know (F := RowOk A1 c1 (s.xs : List DPair)) (fun bs w hS => rowA_rok (hS.res _ (.head _))) fun hrow1 => ?_
            have nchrow1 := hrow1.2
            refine JL_run 1 [] [10, 7, 1, 2] 1 ⟨[(10, .v (.slice A1 (s.xs).length c1)), (7, .p 0 0), (1, vS t), (2, vS v)], [⟨26, [vI 0, vI 0, vS emp]⟩]⟩ [] [] (by kernel_rfl) on wn ?_
            refine l_nil (q_then_normal ?_)
            refine c_seq ?_
            refine c_region ?_
            refine JL_run 2 [] [38, 37, 10, 7, 1, 2] 1 ⟨[(38, vS t), (37, .v (.slice A1 (s.xs).length c1)), (10, .v (.slice A1 (s.xs).length c1)), (7, .p 0 0), (1, vS t), (2, vS v)], [⟨26, [vI 0, vI 0, vS emp]⟩]⟩ [] [] (by kernel_rfl) on wn ?_
            refine l_pure 96 [] [.v (.slice A1 (s.xs).length c1), vS t] (.int .i64 (mIdx (fun x : DPair => decide (x.name = t)) s.xs)) Try.call96 rfl rfl rfl rfl (fun bs w hS => tackroomref_pairAt (⟨A1, c1, s.xs⟩ : Sl DPair) t w (rowA_rd (B := anyB) (hS.res _ (.head _)) (fun _ _ => trivial) (fun z hz => Sl.rd.mem (s := s) hs z hz))) ?_
            have hJb := mIdx_bd (fun x : DPair => decide (x.name = t)) s.xs
            generalize hJ : mIdx (fun x : DPair => decide (x.name = t)) s.xs = J at hJb ⊢
            refine JL_run 1 [] [11, 10, 7, 1, 2] 1 ⟨[(11, vI J), (10, .v (.slice A1 (s.xs).length c1)), (7, .p 0 0), (1, vS t), (2, vS v)], [⟨26, [vI 0, vI 0, vS emp]⟩]⟩ [] [] (by kernel_rfl) on wn ?_
            refine l_nil (q_then_normal ?_)
            refine c_seq ?_
            refine c_seq ?_
            refine c_region ?_
            refine JL_run 2 [] [41, 11, 10, 7, 1, 2] 1 ⟨[(41, vB (decide ((0 : Int) ≤ J))), (11, vI J), (10, .v (.slice A1 (s.xs).length c1)), (7, .p 0 0), (1, vS t), (2, vS v)], [⟨26, [vI 0, vI 0, vS emp]⟩]⟩ [] [] (by kernel_rfl) on wn ?_
            refine l_nil (q_then_normal ?_)
            cases h6 : decide ((0 : Int) ≤ J) with
            | true =>
              have h6 := of_decide_eq_true h6
              have h0J : 0 ≤ J := by omega
              have hpv := pairF_bd ((mPairs_bd (l := s.xs) (by assumption)).2 J.toNat (by omega))
              have hpv1 := hpv.2.2.1
              have hpv2 := hpv.2.2.2.1
              refine c_if true rfl ?_
              refine c_seq ?_
              refine c_seq ?_
              refine c_region ?_
              refine JL_run 6 [(2, .idx (oad A1) J.toNat), (4, .ext [.int .i64 (s.xs.getD J.toNat default).version])] [47, 11, 10, 7, 2] 1 ⟨[(47, vB (decide ((1073741824 : Int) ≤ (s.xs.getD J.toNat default).version))), (11, vI J), (10, .v (.slice A1 (s.xs).length c1)), (7, .p 0 0), (2, vS v)], [⟨26, [vI 0, vI 0, vS emp]⟩]⟩ [A1 = some (oad A1), J = ((J.toNat : Nat) : Int), J.toNat < (s.xs).length] [(((oad A1).add (J.toNat * 3)).add 2, [.int .i64 (s.xs.getD J.toNat default).version])] (by kernel_rfl) (oc (hrow1.1 J.toNat (by omega)) (oc (by omega) (oc (by omega) on))) (fun w hk hr => ⟨(rowA_fld (i := J.toNat) (hr _ (.head _)) (by omega) 2 1 rfl), trivial⟩) ?_
              refine l_nil (q_then_normal ?_)
              cases h7 : decide ((1073741824 : Int) ≤ (s.xs.getD J.toNat default).version) with
              | true =>
                have h7 := of_decide_eq_true h7
                refine c_if true rfl ?_
                refine c_seq ?_
                refine c_region ?_
                refine JL_run 5 [] [8, 6, 7] 1 ⟨[(8, vI 0), (6, .v (.slice A1 (s.xs).length c1)), (7, .p 0 0)], [⟨26, [vI 8, vI 0, vS emp]⟩]⟩ [] [] (by kernel_rfl) on wn ?_
                refine l_nil (q_then_normal ?_)
                refine c_ret ?_
                refine q_then_ret (q_then_ret (q_ret (.inl rfl) [.v (.slice A1 (s.xs).length c1), .v (.agg #[.int .i64 8, .int .i64 0, .string emp]), vI 0] rfl (fun bs w hS => ?_)))
                have hm : mPSet s.xs t v = (s.xs, ⟨8, 0, emp⟩, 0) := by
                  unfold mPSet pIdx
                  simp only [hJ]
                  repeat (first | rw [if_pos (by first | assumption | omega)] | rw [if_neg (by first | assumption | omega | (intro h0; first | exact absurd h0 (by assumption) | (simp_all; done)))])
                  all_goals rfl
                refine ⟨⟨A1, c1, s.xs⟩, ?_, ?_, hS.outS (y := (⟨A1, c1, s.xs⟩ : Sl DPair)) (allR_row (.head _) (hS.res _ (.head _)) (fun z hz => Sl.rd.mem (s := s) hs z hz))⟩
                · rw [hm] <;> rfl
                · exact Eq.trans rfl (congrArg Prod.fst hm).symm
              | false =>
                have h7 := of_decide_eq_false h7
                refine c_if false rfl ?_
                refine c_skip ?_
                refine q_then_normal ?_
                refine c_seq ?_
                refine c_region ?_
                refine JL_run 5 [(3, .idx (oad A1) J.toNat)] [54, 52, 11, 10, 7] 1 ⟨[(54, .v (.pointer (some (((oad A1).add (J.toNat * 3)).add 1)))), (52, vS v), (11, vI J), (10, .v (.slice A1 (s.xs).length c1)), (7, .p 0 0)], [⟨26, [vI 0, vI 0, vS emp]⟩]⟩ [A1 = some (oad A1), J = ((J.toNat : Nat) : Int), J.toNat < (s.xs).length] [] (by kernel_rfl) (oc (hrow1.1 J.toNat (by omega)) (oc (by omega) (oc (by omega) on))) wn ?_
                refine l_storeA (α := DPair) 110 A1 c1 s.xs J.toNat 1 (((oad A1).add (J.toNat * 3)).add 1) (vS v) [vS v] [.string v] (⟨(s.xs.getD J.toNat default).name, v, (s.xs.getD J.toNat default).version⟩ : DPair) rfl rfl rfl rfl rfl (by kernel_rfl) (by kernel_rfl) rfl (by omega) (by kernel_rfl) rfl rfl rfl ?_
                intro L2 hL2 hlL2
                have hgL2 : L2.getD J.toNat default = (⟨(s.xs.getD J.toNat default).name, v, (s.xs.getD J.toNat default).version⟩ : DPair) := by rw [hL2]; exact getD_set (by omega)
                have hbL2 : L2 = List.set s.xs J.toNat (⟨(s.xs.getD J.toNat default).name, v, (s.xs.getD J.toNat default).version⟩ : DPair) := by rw [hL2]
                refine l_nil (q_then_normal ?_)
                refine c_seq ?_
                refine c_region ?_
                refine JL_run 8 [(2, .idx (oad A1) J.toNat), (4, .ext [.int .i64 (s.xs.getD J.toNat default).version]), (6, .idx (oad A1) J.toNat)] [62, 60, 11, 10, 7] 1 ⟨[(62, .v (.pointer (some (((oad A1).add (J.toNat * 3)).add 2)))), (60, vI ((s.xs.getD J.toNat default).version + 1)), (11, vI J), (10, .v (.slice A1 (s.xs).length c1)), (7, .p 0 0)], [⟨26, [vI 0, vI 0, vS emp]⟩]⟩ [A1 = some (oad A1), J = ((J.toNat : Nat) : Int), J.toNat < (s.xs).length, inR ((s.xs.getD J.toNat default).version + 1), A1 = some (oad A1), J = ((J.toNat : Nat) : Int), J.toNat < (s.xs).length] [(((oad A1).add (J.toNat * 3)).add 2, [.int .i64 (s.xs.getD J.toNat default).version])] (by kernel_rfl) (oc (hrow1.1 J.toNat (by omega)) (oc (by omega) (oc (by omega) (oc (by unfold inR; omega) (oc (hrow1.1 J.toNat (by omega)) (oc (by omega) (oc (by omega) on))))))) (fun w hk hr => ⟨(rowA_fld (i := J.toNat) (hr _ (.head _)) (by omega) 2 1 (by rw [hgL2]; rfl)), trivial⟩) ?_
                refine l_storeA (α := DPair) 110 A1 c1 L2 J.toNat 2 (((oad A1).add (J.toNat * 3)).add 2) (vI ((s.xs.getD J.toNat default).version + 1)) [vI ((s.xs.getD J.toNat default).version + 1)] [.int .i64 ((s.xs.getD J.toNat default).version + 1)] (⟨(s.xs.getD J.toNat default).name, v, (s.xs.getD J.toNat default).version + 1⟩ : DPair) rfl rfl rfl rfl rfl (by kernel_rfl) (by kernel_rfl) rfl (by omega) (by kernel_rfl) (by rw [hgL2]; rfl) rfl rfl ?_
                intro L3 hL3 hlL3
                have hgL3 : L3.getD J.toNat default = (⟨(s.xs.getD J.toNat default).name, v, (s.xs.getD J.toNat default).version + 1⟩ : DPair) := by rw [hL3]; exact getD_set (by omega)
                have hbL3 : L3 = List.set s.xs J.toNat (⟨(s.xs.getD J.toNat default).name, v, (s.xs.getD J.toNat default).version + 1⟩ : DPair) := by rw [hL3, hbL2, List.set_set]
                refine l_nil (q_then_normal ?_)
                refine c_seq ?_
                refine c_draw 10 [] (.p 0 (.p 1 (.p 2 (.p 3 (.p 4 (.q 5 (.p 6 (.p 7 (.b 8 (.p 9 .nil) .z))))))))) [0] [rowA 110 A1 c1 (L3 : List DPair)] Try_mixed (by kernel_rfl) (pq_then (pq_then pq_body)) (List.Sublist.refl _) ?_
                refine h_quiet [(3, .idx (oad A1) J.toNat), (5, .ext [.int .i64 ((s.xs.getD J.toNat default).version + 1)])] [(0, true), (1, true), (2, true), (3, true), (4, true), (5, false), (6, true), (7, true)] [(6, .v (.slice A1 (s.xs).length c1)), (69, .v (.agg #[.int .i64 0, .int .i64 ((s.xs.getD J.toNat default).version + 1), .string emp])), (68, vI ((s.xs.getD J.toNat default).version + 1)), (67, .v (.pointer (some (((oad A1).add (J.toNat * 3)).add 2)))), (66, .v (.pointer (some ((oad A1).add (J.toNat * 3))))), (65, vI J), (64, .v (.slice A1 (s.xs).length c1)), (63, .v (.slice A1 (s.xs).length c1)), (62, .v (.pointer (some (((oad A1).add (J.toNat * 3)).add 2)))), (60, vI ((s.xs.getD J.toNat default).version + 1)), (11, vI J), (10, .v (.slice A1 (s.xs).length c1)), (7, .p 0 0)] [A1 = some (oad A1), J = ((J.toNat : Nat) : Int), J.toNat < (s.xs).length] [(((oad A1).add (J.toNat * 3)).add 2, [.int .i64 ((s.xs.getD J.toNat default).version + 1)])] rfl (by kernel_rfl) (oc (hrow1.1 J.toNat (by omega)) (oc (by omega) (oc (by omega) on))) (fun w hk hr => ⟨(rowA_fld (i := J.toNat) (hr _ (.head _)) (by omega) 2 1 (by rw [hgL3]; rfl)), trivial⟩) ?_
                refine h_local ⟨[(6, .v (.slice A1 (s.xs).length c1)), (69, .v (.agg #[.int .i64 0, .int .i64 ((s.xs.getD J.toNat default).version + 1), .string emp])), (68, vI ((s.xs.getD J.toNat default).version + 1)), (67, .v (.pointer (some (((oad A1).add (J.toNat * 3)).add 2)))), (66, .v (.pointer (some ((oad A1).add (J.toNat * 3))))), (65, vI J), (64, .v (.slice A1 (s.xs).length c1)), (63, .v (.slice A1 (s.xs).length c1)), (62, .v (.pointer (some (((oad A1).add (J.toNat * 3)).add 2)))), (60, vI ((s.xs.getD J.toNat default).version + 1)), (11, vI J), (10, .v (.slice A1 (s.xs).length c1)), (7, .p 0 0)], [⟨26, [vI 0, vI ((s.xs.getD J.toNat default).version + 1), vS emp]⟩]⟩ (by kernel_rfl) (fun bs0 bs w hp hl hS => hS.down hp hl rfl (le_mask le_nil) (List.Sublist.refl _)) ?_
                refine h_quiet [] [(9, true)] [(8, vI 0), (6, .v (.slice A1 (s.xs).length c1)), (69, .v (.agg #[.int .i64 0, .int .i64 ((s.xs.getD J.toNat default).version + 1), .string emp])), (68, vI ((s.xs.getD J.toNat default).version + 1)), (67, .v (.pointer (some (((oad A1).add (J.toNat * 3)).add 2)))), (66, .v (.pointer (some ((oad A1).add (J.toNat * 3))))), (65, vI J), (64, .v (.slice A1 (s.xs).length c1)), (63, .v (.slice A1 (s.xs).length c1)), (62, .v (.pointer (some (((oad A1).add (J.toNat * 3)).add 2)))), (60, vI ((s.xs.getD J.toNat default).version + 1)), (11, vI J), (10, .v (.slice A1 (s.xs).length c1)), (7, .p 0 0)] [] [] rfl (by kernel_rfl) on wn ?_
                refine h_nil ?_
                refine l_nil (q_then_normal ?_)
                refine c_ret ?_
                refine q_then_ret (q_ret (.inl rfl) [.v (.slice A1 (s.xs).length c1), .v (.agg #[.int .i64 0, .int .i64 ((s.xs.getD J.toNat default).version + 1), .string emp]), vI 0] rfl (fun bs w hS => ?_))
                have hvx : L3 = s.xs.set J.toNat ⟨(s.xs.getD J.toNat default).name, v, (s.xs.getD J.toNat default).version + 1⟩ := hbL3
                have hm : mPSet s.xs t v = (s.xs.set J.toNat ⟨(s.xs.getD J.toNat default).name, v, (s.xs.getD J.toNat default).version + 1⟩, ⟨0, (s.xs.getD J.toNat default).version + 1, emp⟩, 0) := by
                  unfold mPSet pIdx
                  simp only [hJ]
                  repeat (first | rw [if_pos (by first | assumption | omega)] | rw [if_neg (by first | assumption | omega | (intro h0; first | exact absurd h0 (by assumption) | (simp_all; done)))])
                  all_goals rfl
                refine ⟨⟨A1, c1, L3⟩, ?_, ?_, hS.outS (y := (⟨A1, c1, L3⟩ : Sl DPair)) (allR_row (.head _) (hS.res _ (.head _)) (fun z hz => ?_))⟩
                · have hll : L3.length = s.xs.length := by rw [hvx, List.length_set]
                  rw [hm]
                  exact congrArg (fun q => Ending.returned (.tuple #[.slice A1 q c1, .agg #[.int .i64 0, .int .i64 ((s.xs.getD J.toNat default).version + 1), .string emp], .int .i64 0])) hll.symm
                · exact Eq.trans hvx (congrArg Prod.fst hm).symm
                · rw [hvx] at hz
                  rcases mem_set hz with hz | hz
                  · subst hz; exact ⟨(Sl.rd.mem (s := s) hs _ (mem_of_getD (i := J.toNat) (by omega))).1, hv⟩
                  · exact Sl.rd.mem (s := s) hs z hz
            | false =>
              have h6 := of_decide_eq_false h6
              have h0J : ¬ 0 ≤ J := by omega
              refine c_if false rfl ?_
              refine c_skip ?_
              refine q_then_normal ?_
              refine c_seq ?_
              refine c_seq ?_
              refine c_region ?_
              refine JL_run 3 [] [72, 10, 7, 1, 2] 1 ⟨[(72, vB (decide ((5 : Int) ≤ (((s.xs).length : Nat) : Int)))), (10, .v (.slice A1 (s.xs).length c1)), (7, .p 0 0), (1, vS t), (2, vS v)], [⟨26, [vI 0, vI 0, vS emp]⟩]⟩ [] [] (by kernel_rfl) on wn ?_
              refine l_nil (q_then_normal ?_)
              cases h8 : decide ((5 : Int) ≤ (((s.xs).length : Nat) : Int)) with
              | true =>
                have h8 := of_decide_eq_true h8
                refine c_if true rfl ?_
                refine c_seq ?_
                refine c_region ?_
                refine JL_run 5 [] [8, 6, 7] 1 ⟨[(8, vI 0), (6, .v (.slice A1 (s.xs).length c1)), (7, .p 0 0)], [⟨26, [vI 8, vI 0, vS emp]⟩]⟩ [] [] (by kernel_rfl) on wn ?_
                refine l_nil (q_then_normal ?_)
                refine c_ret ?_
                refine q_then_ret (q_ret (.inl rfl) [.v (.slice A1 (s.xs).length c1), .v (.agg #[.int .i64 8, .int .i64 0, .string emp]), vI 0] rfl (fun bs w hS => ?_))
                have hm : mPSet s.xs t v = (s.xs, ⟨8, 0, emp⟩, 0) := by
                  unfold mPSet pIdx
                  simp only [hJ]
                  repeat (first | rw [if_pos (by first | assumption | omega)] | rw [if_neg (by first | assumption | omega | (intro h0; first | exact absurd h0 (by assumption) | (simp_all; done)))])
                  all_goals rfl
                refine ⟨⟨A1, c1, s.xs⟩, ?_, ?_, hS.outS (y := (⟨A1, c1, s.xs⟩ : Sl DPair)) (allR_row (.head _) (hS.res _ (.head _)) (fun z hz => Sl.rd.mem (s := s) hs z hz))⟩
                · rw [hm] <;> rfl
                · exact Eq.trans rfl (congrArg Prod.fst hm).symm
              | false =>
                have h8 := of_decide_eq_false h8
                refine c_if false rfl ?_
                refine c_skip ?_
                refine q_then_normal ?_
                refine c_seq ?_
                refine c_region ?_
                refine JL_run 1 [] [12, 10, 7, 1, 2] 1 ⟨[(12, .v (.slice none 0 0)), (10, .v (.slice A1 (s.xs).length c1)), (7, .p 0 0), (1, vS t), (2, vS v)], [⟨26, [vI 0, vI 0, vS emp]⟩]⟩ [] [] (by kernel_rfl) on wn ?_
                refine l_nil (q_then_normal ?_)
                refine c_seq ?_
                refine c_region ?_
                refine JL_run 1 [] [13, 12, 10, 7, 1, 2] 1 ⟨[(13, vB false), (12, .v (.slice none 0 0)), (10, .v (.slice A1 (s.xs).length c1)), (7, .p 0 0), (1, vS t), (2, vS v)], [⟨26, [vI 0, vI 0, vS emp]⟩]⟩ [] [] (by kernel_rfl) on wn ?_
                refine l_nil (q_then_normal ?_)
                refine c_seq ?_
                refine c_seq ?_
                refine c_region ?_
                refine JL_run 1 [] [14, 13, 12, 10, 7, 1, 2] 1 ⟨[(14, vI 0), (13, vB false), (12, .v (.slice none 0 0)), (10, .v (.slice A1 (s.xs).length c1)), (7, .p 0 0), (1, vS t), (2, vS v)], [⟨26, [vI 0, vI 0, vS emp]⟩]⟩ [] [] (by kernel_rfl) on wn ?_
                refine l_nil (q_then_normal ?_)
                refine c_block ?_
                refine c_rowA (α := DPair) 110 ?_
                refine c_loop (σ := Nat × Bool × Option Addr × Nat × List DPair) (fun ⟨k, b, A, c, L⟩ => InsI (fun x : DPair => Op.bytesLess t.toList x.name.toList) (⟨t, v, 1⟩ : DPair) s.xs k b L) (fun ⟨k, b, A, c, L⟩ => s.xs.length - k) (fun ⟨k, b, A, c, L⟩ => [rowA 110 A c (L : List DPair), rowA 110 A1 c1 (s.xs : List DPair)]) (fun ⟨k, b, A, c, L⟩ => ⟨[(14, vI ((k : Nat) : Int)), (13, vB b), (12, .v (.slice A L.length c)), (10, .v (.slice A1 (s.xs).length c1)), (7, .p 0 0), (1, vS t), (2, vS v)], [⟨26, [vI 0, vI 0, vS emp]⟩]⟩) ⟨0, false, none, 0, []⟩ (show InsI (fun x : DPair => Op.bytesLess t.toList x.name.toList) (⟨t, v, 1⟩ : DPair) s.xs 0 false [] from InsI.start _ _ _) (s_start [14, 13, 12, 10, 7, 1, 2] 1 (by kernel_rfl) rfl) ?_
                rintro ⟨k, b, A, c, L⟩ hI
                have hIl := hI.len
                have hIk := hI.le
                refine c_seq ?_
                refine c_seq ?_
                refine c_region ?_
                refine JL_run 4 [] [78, 14, 13, 12, 10, 7, 1, 2] 1 ⟨[(78, vB (decide (((k : Nat) : Int) < (((s.xs).length : Nat) : Int)))), (14, vI ((k : Nat) : Int)), (13, vB b), (12, .v (.slice A L.length c)), (10, .v (.slice A1 (s.xs).length c1)), (7, .p 0 0), (1, vS t), (2, vS v)], [⟨26, [vI 0, vI 0, vS emp]⟩]⟩ [] [] (by kernel_rfl) on wn ?_
                refine l_nil (q_then_normal ?_)
                cases h9 : decide (((k : Nat) : Int) < (((s.xs).length : Nat) : Int)) with
                | true =>
                  have h9 := of_decide_eq_true h9
                  refine c_if true rfl ?_
                  refine c_skip ?_
                  refine q_then_normal ?_
                  refine c_seq ?_
                  refine c_block ?_
                  refine c_seq ?_
                  refine c_seq ?_
                  refine c_region ?_
                  refine JL_run 3 [] [83, 14, 13, 12, 10, 7, 1, 2] 1 ⟨[(83, vB (!b)), (14, vI ((k : Nat) : Int)), (13, vB b), (12, .v (.slice A L.length c)), (10, .v (.slice A1 (s.xs).length c1)), (7, .p 0 0), (1, vS t), (2, vS v)], [⟨26, [vI 0, vI 0, vS emp]⟩]⟩ [] [] (by kernel_rfl) on wn ?_
                  cases h10 : b with
                  | true =>
                    refine JL_run 8 [] [91, 14, 13, 12, 10, 7, 1, 2] 1 ⟨[(91, vB false), (14, vI ((k : Nat) : Int)), (13, vB true), (12, .v (.slice A L.length c)), (10, .v (.slice A1 (s.xs).length c1)), (7, .p 0 0), (1, vS t), (2, vS v)], [⟨26, [vI 0, vI 0, vS emp]⟩]⟩ [] [] (by kernel_rfl) on wn ?_
                    refine l_nil (q_then_normal ?_)
                    refine c_if false rfl ?_
                    refine c_skip ?_
                    refine q_then_normal ?_
                    refine c_region ?_
                    refine JL_run 6 [(3, .idx (oad A1) k), (4, .ext [.string (s.xs.getD k default).name, .string (s.xs.getD k default).value, .int .i64 (s.xs.getD k default).version])] [103, 98, 14, 13, 10, 7, 1, 2] 2 ⟨[(103, .s 1 0 1 1), (98, .v (.slice A L.length c)), (14, vI ((k : Nat) : Int)), (13, vB true), (10, .v (.slice A1 (s.xs).length c1)), (7, .p 0 0), (1, vS t), (2, vS v)], [⟨26, [vI 0, vI 0, vS emp]⟩, ⟨110, [vS (s.xs.getD k default).name, vS (s.xs.getD k default).value, vI (s.xs.getD k default).version]⟩]⟩ [A1 = some (oad A1), ((k : Nat) : Int) = ((k : Nat) : Int), k < (s.xs).length] [((oad A1).add (k * 3), [.string (s.xs.getD k default).name, .string (s.xs.getD k default).value, .int .i64 (s.xs.getD k default).version])] (by kernel_rfl) (oc (hrow1.1 k (by omega)) (oc rfl (oc (by omega) on))) (fun w hk hr => ⟨(rowA_all (i := k) (hr _ (.tail _ (.head _))) (by omega) rfl), trivial⟩) ?_
                    refine l_appendA (α := DPair) 110 40 A c (L) (.s 1 0 1 1) ([(⟨(s.xs.getD k default).name, (s.xs.getD k default).value, (s.xs.getD k default).version⟩ : DPair)]) Try.underlying45 (by kernel_rfl) rfl rfl rfl (fun bs w hS => by obtain ⟨q1, q2, q3, q4⟩ := src_loc (i := 1) (off := 0) (k := 1) (c := 1) (q := 3) (vs := [.string (s.xs.getD k default).name, .string (s.xs.getD k default).value, .int .i64 (s.xs.getD k default).version]) hS rfl rfl; exact ⟨some q1, q2, q3, q4⟩) (by first | omega | (simp only [List.length_append, List.length_nil, List.length_cons]; omega)) (by first | omega | (simp only [List.length_append, List.length_nil, List.length_cons]; omega)) ?_
                    intro A4 c4
                    refine l_know (F := RowOk A4 c4 (L ++ [(⟨(s.xs.getD k default).name, (s.xs.getD k default).value, (s.xs.getD k default).version⟩ : DPair)] : List DPair)) (fun bs w hS => rowA_rok (hS.res _ (.head _))) fun hrow4 => ?_
                    have nchrow4 := hrow4.2
                    refine JL_run 1 [] [12, 14, 13, 10, 7, 1, 2] 1 ⟨[(12, .v (.slice A4 (L ++ [(⟨(s.xs.getD k default).name, (s.xs.getD k default).value, (s.xs.getD k default).version⟩ : DPair)]).length c4)), (14, vI ((k : Nat) : Int)), (13, vB true), (10, .v (.slice A1 (s.xs).length c1)), (7, .p 0 0), (1, vS t), (2, vS v)], [⟨26, [vI 0, vI 0, vS emp]⟩]⟩ [] [] (by kernel_rfl) on wn ?_
                    refine l_nil (q_block_normal (q_then_normal ?_))
                    refine c_region ?_
                    refine JL_run 3 [] [14, 12, 13, 10, 7, 1, 2] 1 ⟨[(14, vI (((k : Nat) : Int) + 1)), (12, .v (.slice A4 (L ++ [(⟨(s.xs.getD k default).name, (s.xs.getD k default).value, (s.xs.getD k default).version⟩ : DPair)]).length c4)), (13, vB true), (10, .v (.slice A1 (s.xs).length c1)), (7, .p 0 0), (1, vS t), (2, vS v)], [⟨26, [vI 0, vI 0, vS emp]⟩]⟩ [inR (((k : Nat) : Int) + 1)] [] (by kernel_rfl) (oc (by unfold inR; omega) on) wn ?_
                    refine l_nil (q_loop (x := (⟨k, b, A, c, L⟩ : Nat × Bool × Option Addr × Nat × List DPair)) (⟨k + 1, true, A4, c4, L ++ [(⟨(s.xs.getD k default).name, (s.xs.getD k default).value, (s.xs.getD k default).version⟩ : DPair)]⟩ : Nat × Bool × Option Addr × Nat × List DPair) (by first | exact hI.more (by assumption) (by omega) | exact hI.hit (by assumption) (by omega) (by assumption) | exact hI.skip (by assumption) (by omega) (by assumption)) (by show s.xs.length - (k + 1) < s.xs.length - k; omega) (s_start [14, 13, 12, 10, 7, 1, 2] 1 (by kernel_rfl) rfl))
                  | false =>
                    refine JL_run 8 [(2, .idx (oad A1) k), (4, .ext [.string (s.xs.getD k default).name])] [91, 14, 13, 12, 10, 7, 1, 2] 1 ⟨[(91, vB (!(Op.bytesLess ((s.xs.getD k default).name).toList (t).toList || decide ((s.xs.getD k default).name = t)))), (14, vI ((k : Nat) : Int)), (13, vB false), (12, .v (.slice A L.length c)), (10, .v (.slice A1 (s.xs).length c1)), (7, .p 0 0), (1, vS t), (2, vS v)], [⟨26, [vI 0, vI 0, vS emp]⟩]⟩ [A1 = some (oad A1), ((k : Nat) : Int) = ((k : Nat) : Int), k < (s.xs).length] [(((oad A1).add (k * 3)).add 0, [.string (s.xs.getD k default).name])] (by kernel_rfl) (oc (hrow1.1 k (by omega)) (oc rfl (oc (by omega) on))) (fun w hk hr => ⟨(rowA_fld (i := k) (hr _ (.tail _ (.head _))) (by omega) 0 1 rfl), trivial⟩) ?_
                    refine l_nil (q_then_normal ?_)
                    cases h11 : Op.bytesLess ((s.xs.getD k default).name).toList (t).toList || decide ((s.xs.getD k default).name = t) with
                    | true =>
                      rw [bytes_total] at h11
                      simp only [Bool.not_eq_true', Bool.not_eq_false', Bool.not_eq_true, Bool.not_eq_false] at h11
                      refine c_if false rfl ?_
                      refine c_skip ?_
                      refine q_then_normal ?_
                      refine c_region ?_
                      refine JL_run 6 [(3, .idx (oad A1) k), (4, .ext [.string (s.xs.getD k default).name, .string (s.xs.getD k default).value, .int .i64 (s.xs.getD k default).version])] [103, 98, 14, 13, 10, 7, 1, 2] 2 ⟨[(103, .s 1 0 1 1), (98, .v (.slice A L.length c)), (14, vI ((k : Nat) : Int)), (13, vB false), (10, .v (.slice A1 (s.xs).length c1)), (7, .p 0 0), (1, vS t), (2, vS v)], [⟨26, [vI 0, vI 0, vS emp]⟩, ⟨110, [vS (s.xs.getD k default).name, vS (s.xs.getD k default).value, vI (s.xs.getD k default).version]⟩]⟩ [A1 = some (oad A1), ((k : Nat) : Int) = ((k : Nat) : Int), k < (s.xs).length] [((oad A1).add (k * 3), [.string (s.xs.getD k default).name, .string (s.xs.getD k default).value, .int .i64 (s.xs.getD k default).version])] (by kernel_rfl) (oc (hrow1.1 k (by omega)) (oc rfl (oc (by omega) on))) (fun w hk hr => ⟨(rowA_all (i := k) (hr _ (.tail _ (.head _))) (by omega) rfl), trivial⟩) ?_
                      refine l_appendA (α := DPair) 110 40 A c (L) (.s 1 0 1 1) ([(⟨(s.xs.getD k default).name, (s.xs.getD k default).value, (s.xs.getD k default).version⟩ : DPair)]) Try.underlying45 (by kernel_rfl) rfl rfl rfl (fun bs w hS => by obtain ⟨q1, q2, q3, q4⟩ := src_loc (i := 1) (off := 0) (k := 1) (c := 1) (q := 3) (vs := [.string (s.xs.getD k default).name, .string (s.xs.getD k default).value, .int .i64 (s.xs.getD k default).version]) hS rfl rfl; exact ⟨some q1, q2, q3, q4⟩) (by first | omega | (simp only [List.length_append, List.length_nil, List.length_cons]; omega)) (by first | omega | (simp only [List.length_append, List.length_nil, List.length_cons]; omega)) ?_
                      intro A5 c5
                      refine l_know (F := RowOk A5 c5 (L ++ [(⟨(s.xs.getD k default).name, (s.xs.getD k default).value, (s.xs.getD k default).version⟩ : DPair)] : List DPair)) (fun bs w hS => rowA_rok (hS.res _ (.head _))) fun hrow5 => ?_
                      have nchrow5 := hrow5.2
                      refine JL_run 1 [] [12, 14, 13, 10, 7, 1, 2] 1 ⟨[(12, .v (.slice A5 (L ++ [(⟨(s.xs.getD k default).name, (s.xs.getD k default).value, (s.xs.getD k default).version⟩ : DPair)]).length c5)), (14, vI ((k : Nat) : Int)), (13, vB false), (10, .v (.slice A1 (s.xs).length c1)), (7, .p 0 0), (1, vS t), (2, vS v)], [⟨26, [vI 0, vI 0, vS emp]⟩]⟩ [] [] (by kernel_rfl) on wn ?_
                      refine l_nil (q_block_normal (q_then_normal ?_))
                      refine c_region ?_
                      refine JL_run 3 [] [14, 12, 13, 10, 7, 1, 2] 1 ⟨[(14, vI (((k : Nat) : Int) + 1)), (12, .v (.slice A5 (L ++ [(⟨(s.xs.getD k default).name, (s.xs.getD k default).value, (s.xs.getD k default).version⟩ : DPair)]).length c5)), (13, vB false), (10, .v (.slice A1 (s.xs).length c1)), (7, .p 0 0), (1, vS t), (2, vS v)], [⟨26, [vI 0, vI 0, vS emp]⟩]⟩ [inR (((k : Nat) : Int) + 1)] [] (by kernel_rfl) (oc (by unfold inR; omega) on) wn ?_
                      refine l_nil (q_loop (x := (⟨k, b, A, c, L⟩ : Nat × Bool × Option Addr × Nat × List DPair)) (⟨k + 1, false, A5, c5, L ++ [(⟨(s.xs.getD k default).name, (s.xs.getD k default).value, (s.xs.getD k default).version⟩ : DPair)]⟩ : Nat × Bool × Option Addr × Nat × List DPair) (by first | exact hI.more (by assumption) (by omega) | exact hI.hit (by assumption) (by omega) (by assumption) | exact hI.skip (by assumption) (by omega) (by assumption)) (by show s.xs.length - (k + 1) < s.xs.length - k; omega) (s_start [14, 13, 12, 10, 7, 1, 2] 1 (by kernel_rfl) rfl))
                    | false =>
                      rw [bytes_total] at h11
                      simp only [Bool.not_eq_true', Bool.not_eq_false', Bool.not_eq_true, Bool.not_eq_false] at h11
                      refine c_if true rfl ?_
                      refine c_seq ?_
                      refine c_region ?_
                      refine JL_run 5 [] [96, 92, 14, 10, 7, 1, 2] 2 ⟨[(96, .s 1 0 1 1), (92, .v (.slice A L.length c)), (14, vI ((k : Nat) : Int)), (10, .v (.slice A1 (s.xs).length c1)), (7, .p 0 0), (1, vS t), (2, vS v)], [⟨26, [vI 0, vI 0, vS emp]⟩, ⟨110, [vS t, vS v, vI 1]⟩]⟩ [] [] (by kernel_rfl) on wn ?_
                      refine l_appendA (α := DPair) 110 40 A c (L) (.s 1 0 1 1) ([(⟨t, v, 1⟩ : DPair)]) Try.underlying45 (by kernel_rfl) rfl rfl rfl (fun bs w hS => by obtain ⟨q1, q2, q3, q4⟩ := src_loc (i := 1) (off := 0) (k := 1) (c := 1) (q := 3) (vs := [.string t, .string v, .int .i64 1]) hS rfl rfl; exact ⟨some q1, q2, q3, q4⟩) (by first | omega | (simp only [List.length_append, List.length_nil, List.length_cons]; omega)) (by first | omega | (simp only [List.length_append, List.length_nil, List.length_cons]; omega)) ?_
                      intro A6 c6
                      refine l_know (F := RowOk A6 c6 (L ++ [(⟨t, v, 1⟩ : DPair)] : List DPair)) (fun bs w hS => rowA_rok (hS.res _ (.head _))) fun hrow6 => ?_
                      have nchrow6 := hrow6.2
                      refine JL_run 1 [] [12, 14, 10, 7, 1, 2] 1 ⟨[(12, .v (.slice A6 (L ++ [(⟨t, v, 1⟩ : DPair)]).length c6)), (14, vI ((k : Nat) : Int)), (10, .v (.slice A1 (s.xs).length c1)), (7, .p 0 0), (1, vS t), (2, vS v)], [⟨26, [vI 0, vI 0, vS emp]⟩]⟩ [] [] (by kernel_rfl) on wn ?_
                      refine l_nil (q_then_normal ?_)
                      refine c_region ?_
                      refine JL_run 1 [] [13, 12, 14, 10, 7, 1, 2] 1 ⟨[(13, vB true), (12, .v (.slice A6 (L ++ [(⟨t, v, 1⟩ : DPair)]).length c6)), (14, vI ((k : Nat) : Int)), (10, .v (.slice A1 (s.xs).length c1)), (7, .p 0 0), (1, vS t), (2, vS v)], [⟨26, [vI 0, vI 0, vS emp]⟩]⟩ [] [] (by kernel_rfl) on wn ?_
                      refine l_nil (q_then_normal ?_)
                      refine c_region ?_
                      refine JL_run 6 [(3, .idx (oad A1) k), (4, .ext [.string (s.xs.getD k default).name, .string (s.xs.getD k default).value, .int .i64 (s.xs.getD k default).version])] [103, 98, 13, 14, 10, 7, 1, 2] 2 ⟨[(103, .s 1 0 1 1), (98, .v (.slice A6 (L ++ [(⟨t, v, 1⟩ : DPair)]).length c6)), (13, vB true), (14, vI ((k : Nat) : Int)), (10, .v (.slice A1 (s.xs).length c1)), (7, .p 0 0), (1, vS t), (2, vS v)], [⟨26, [vI 0, vI 0, vS emp]⟩, ⟨110, [vS (s.xs.getD k default).name, vS (s.xs.getD k default).value, vI (s.xs.getD k default).version]⟩]⟩ [A1 = some (oad A1), ((k : Nat) : Int) = ((k : Nat) : Int), k < (s.xs).length] [((oad A1).add (k * 3), [.string (s.xs.getD k default).name, .string (s.xs.getD k default).value, .int .i64 (s.xs.getD k default).version])] (by kernel_rfl) (oc (hrow1.1 k (by omega)) (oc rfl (oc (by omega) on))) (fun w hk hr => ⟨(rowA_all (i := k) (hr _ (.tail _ (.head _))) (by omega) rfl), trivial⟩) ?_
                      refine l_appendA (α := DPair) 110 40 A6 c6 (L ++ [(⟨t, v, 1⟩ : DPair)]) (.s 1 0 1 1) ([(⟨(s.xs.getD k default).name, (s.xs.getD k default).value, (s.xs.getD k default).version⟩ : DPair)]) Try.underlying45 (by kernel_rfl) rfl rfl rfl (fun bs w hS => by obtain ⟨q1, q2, q3, q4⟩ := src_loc (i := 1) (off := 0) (k := 1) (c := 1) (q := 3) (vs := [.string (s.xs.getD k default).name, .string (s.xs.getD k default).value, .int .i64 (s.xs.getD k default).version]) hS rfl rfl; exact ⟨some q1, q2, q3, q4⟩) (by first | omega | (simp only [List.length_append, List.length_nil, List.length_cons]; omega)) (by first | omega | (simp only [List.length_append, List.length_nil, List.length_cons]; omega)) ?_
                      intro A7 c7
                      refine l_know (F := RowOk A7 c7 (L ++ [(⟨t, v, 1⟩ : DPair)] ++ [(⟨(s.xs.getD k default).name, (s.xs.getD k default).value, (s.xs.getD k default).version⟩ : DPair)] : List DPair)) (fun bs w hS => rowA_rok (hS.res _ (.head _))) fun hrow7 => ?_
                      have nchrow7 := hrow7.2
                      refine JL_run 1 [] [12, 13, 14, 10, 7, 1, 2] 1 ⟨[(12, .v (.slice A7 (L ++ [(⟨t, v, 1⟩ : DPair)] ++ [(⟨(s.xs.getD k default).name, (s.xs.getD k default).value, (s.xs.getD k default).version⟩ : DPair)]).length c7)), (13, vB true), (14, vI ((k : Nat) : Int)), (10, .v (.slice A1 (s.xs).length c1)), (7, .p 0 0), (1, vS t), (2, vS v)], [⟨26, [vI 0, vI 0, vS emp]⟩]⟩ [] [] (by kernel_rfl) on wn ?_
                      refine l_nil (q_block_normal (q_then_normal ?_))
                      refine c_region ?_
                      refine JL_run 3 [] [14, 12, 13, 10, 7, 1, 2] 1 ⟨[(14, vI (((k : Nat) : Int) + 1)), (12, .v (.slice A7 (L ++ [(⟨t, v, 1⟩ : DPair)] ++ [(⟨(s.xs.getD k default).name, (s.xs.getD k default).value, (s.xs.getD k default).version⟩ : DPair)]).length c7)), (13, vB true), (10, .v (.slice A1 (s.xs).length c1)), (7, .p 0 0), (1, vS t), (2, vS v)], [⟨26, [vI 0, vI 0, vS emp]⟩]⟩ [inR (((k : Nat) : Int) + 1)] [] (by kernel_rfl) (oc (by unfold inR; omega) on) wn ?_
                      refine l_nil (q_loop (x := (⟨k, b, A, c, L⟩ : Nat × Bool × Option Addr × Nat × List DPair)) (⟨k + 1, true, A7, c7, L ++ [(⟨t, v, 1⟩ : DPair)] ++ [(⟨(s.xs.getD k default).name, (s.xs.getD k default).value, (s.xs.getD k default).version⟩ : DPair)]⟩ : Nat × Bool × Option Addr × Nat × List DPair) (by first | exact hI.more (by assumption) (by omega) | exact hI.hit (by assumption) (by omega) (by assumption) | exact hI.skip (by assumption) (by omega) (by assumption)) (by show s.xs.length - (k + 1) < s.xs.length - k; omega) (s_start [14, 13, 12, 10, 7, 1, 2] 1 (by kernel_rfl) rfl))
                | false =>
                  have h9 := of_decide_eq_false h9
                  refine c_if false rfl ?_
                  refine c_exit ?_
                  refine q_then_exit (q_then_exit (q_block_hit (q_then_normal ?_)))
                  refine c_seq ?_
                  refine c_seq ?_
                  refine c_region ?_
                  refine JL_run 2 [] [106, 12, 7, 1, 2] 1 ⟨[(106, vB (!b)), (12, .v (.slice A L.length c)), (7, .p 0 0), (1, vS t), (2, vS v)], [⟨26, [vI 0, vI 0, vS emp]⟩]⟩ [] [] (by kernel_rfl) on wn ?_
                  refine l_nil (q_then_normal ?_)
                  cases h12 : b with
                  | true =>
                    refine c_if false rfl ?_
                    refine c_skip ?_
                    refine q_then_normal ?_
                    refine c_seq ?_
                    refine c_region ?_
                    refine JL_run 5 [] [8, 6, 7] 1 ⟨[(8, vI 0), (6, .v (.slice A L.length c)), (7, .p 0 0)], [⟨26, [vI 0, vI 1, vS emp]⟩]⟩ [] [] (by kernel_rfl) on wn ?_
                    refine l_nil (q_then_normal ?_)
                    refine c_ret ?_
                    refine q_ret (.inl rfl) [.v (.slice A L.length c), .v (.agg #[.int .i64 0, .int .i64 1, .string emp]), vI 0] rfl (fun bs w hS => ?_)
                    have hvx : L = mIns (fun x : DPair => Op.bytesLess t.toList x.name.toList) ⟨t, v, 1⟩ s.xs := (hI.fin1 (by assumption) (by omega))
                    have hm : mPSet s.xs t v = (mIns (fun x : DPair => Op.bytesLess t.toList x.name.toList) ⟨t, v, 1⟩ s.xs, ⟨0, 1, emp⟩, 0) := by
                      unfold mPSet pIdx
                      simp only [hJ]
                      repeat (first | rw [if_pos (by first | assumption | omega)] | rw [if_neg (by first | assumption | omega | (intro h0; first | exact absurd h0 (by assumption) | (simp_all; done)))])
                      all_goals rfl
                    refine ⟨⟨A, c, L⟩, ?_, ?_, hS.outS (y := (⟨A, c, L⟩ : Sl DPair)) (allR_row (.head _) (hS.res _ (.head _)) (fun z hz => ?_))⟩
                    · rw [hm] <;> rfl
                    · exact Eq.trans hvx (congrArg Prod.fst hm).symm
                    · rw [hvx] at hz
                      rcases ins_mem hz with hz | hz
                      · subst hz; exact ⟨ht, hv⟩
                      · exact Sl.rd.mem (s := s) hs z hz
                  | false =>
                    refine c_if true rfl ?_
                    refine c_region ?_
                    refine JL_run 5 [] [111, 107, 7] 2 ⟨[(111, .s 1 0 1 1), (107, .v (.slice A L.length c)), (7, .p 0 0)], [⟨26, [vI 0, vI 0, vS emp]⟩, ⟨110, [vS t, vS v, vI 1]⟩]⟩ [] [] (by kernel_rfl) on wn ?_
                    refine l_appendA (α := DPair) 110 40 A c (L) (.s 1 0 1 1) ([(⟨t, v, 1⟩ : DPair)]) Try.underlying45 (by kernel_rfl) rfl rfl rfl (fun bs w hS => by obtain ⟨q1, q2, q3, q4⟩ := src_loc (i := 1) (off := 0) (k := 1) (c := 1) (q := 3) (vs := [.string t, .string v, .int .i64 1]) hS rfl rfl; exact ⟨some q1, q2, q3, q4⟩) (by first | omega | (simp only [List.length_append, List.length_nil, List.length_cons]; omega)) (by first | omega | (simp only [List.length_append, List.length_nil, List.length_cons]; omega)) ?_
                    intro A8 c8
                    refine l_know (F := RowOk A8 c8 (L ++ [(⟨t, v, 1⟩ : DPair)] : List DPair)) (fun bs w hS => rowA_rok (hS.res _ (.head _))) fun hrow8 => ?_
                    have nchrow8 := hrow8.2
                    refine JL_run 1 [] [12, 7] 1 ⟨[(12, .v (.slice A8 (L ++ [(⟨t, v, 1⟩ : DPair)]).length c8)), (7, .p 0 0)], [⟨26, [vI 0, vI 0, vS emp]⟩]⟩ [] [] (by kernel_rfl) on wn ?_
                    refine l_nil (q_then_normal ?_)
                    refine c_seq ?_
                    refine c_region ?_
                    refine JL_run 5 [] [8, 6, 7] 1 ⟨[(8, vI 0), (6, .v (.slice A8 (L ++ [(⟨t, v, 1⟩ : DPair)]).length c8)), (7, .p 0 0)], [⟨26, [vI 0, vI 1, vS emp]⟩]⟩ [] [] (by kernel_rfl) on wn ?_
                    refine l_nil (q_then_normal ?_)
                    refine c_ret ?_
                    refine q_ret (.inl rfl) [.v (.slice A8 (L ++ [(⟨t, v, 1⟩ : DPair)]).length c8), .v (.agg #[.int .i64 0, .int .i64 1, .string emp]), vI 0] rfl (fun bs w hS => ?_)
                    have hvx : L ++ [(⟨t, v, 1⟩ : DPair)] = mIns (fun x : DPair => Op.bytesLess t.toList x.name.toList) ⟨t, v, 1⟩ s.xs := (hI.fin0 (by assumption) (by omega))
                    have hm : mPSet s.xs t v = (mIns (fun x : DPair => Op.bytesLess t.toList x.name.toList) ⟨t, v, 1⟩ s.xs, ⟨0, 1, emp⟩, 0) := by
                      unfold mPSet pIdx
                      simp only [hJ]
                      repeat (first | rw [if_pos (by first | assumption | omega)] | rw [if_neg (by first | assumption | omega | (intro h0; first | exact absurd h0 (by assumption) | (simp_all; done)))])
                      all_goals rfl
                    refine ⟨⟨A8, c8, L ++ [(⟨t, v, 1⟩ : DPair)]⟩, ?_, ?_, hS.outS (y := (⟨A8, c8, L ++ [(⟨t, v, 1⟩ : DPair)]⟩ : Sl DPair)) (allR_row (.head _) (hS.res _ (.head _)) (fun z hz => ?_))⟩
                    · rw [hm] <;> rfl
                    · exact Eq.trans hvx (congrArg Prod.fst hm).symm
                    · rw [hvx] at hz
                      rcases ins_mem hz with hz | hz
                      · subst hz; exact ⟨ht, hv⟩
                      · exact Sl.rd.mem (s := s) hs z hz
          | false =>
            have h5 := of_decide_eq_false h5
            exact absurd h1 h5
      | false =>
        have h3 := of_decide_eq_false h3
        exact absurd h1 h3
    | false =>
      refine c_if true rfl ?_
      refine c_region ?_
      refine JL_run 1 [] [9, 7, 0, 1, 2] 1 ⟨[(9, vI 4), (7, .p 0 0), (0, .v (.slice s.A s.n s.c)), (1, vS t), (2, vS v)], [⟨26, [vI 0, vI 0, vS emp]⟩]⟩ [] [] (by kernel_rfl) on wn ?_
      refine l_nil (q_then_normal ?_)
      refine c_seq ?_
      refine c_seq ?_
      refine c_region ?_
      refine JL_run 7 [] [30, 9, 7, 0, 1, 2] 1 ⟨[(30, vB false), (9, vI 4), (7, .p 0 0), (0, .v (.slice s.A s.n s.c)), (1, vS t), (2, vS v)], [⟨26, [vI 0, vI 0, vS emp]⟩]⟩ [] [] (by kernel_rfl) on wn ?_
      refine l_nil (q_then_normal ?_)
      refine c_if false rfl ?_
      refine c_skip ?_
      refine q_then_normal ?_
      refine c_seq ?_
      refine c_seq ?_
      refine c_region ?_
      refine JL_run 2 [] [32, 9, 7, 0, 1, 2] 1 ⟨[(32, vB true), (9, vI 4), (7, .p 0 0), (0, .v (.slice s.A s.n s.c)), (1, vS t), (2, vS v)], [⟨26, [vI 0, vI 0, vS emp]⟩]⟩ [] [] (by kernel_rfl) on wn ?_
      refine l_nil (q_then_normal ?_)
      refine c_if true rfl ?_
      refine c_seq ?_
      refine c_region ?_
      refine JL_run 5 [] [8, 6, 7] 1 ⟨[(8, vI 4), (6, .v (.slice none 0 0)), (7, .p 0 0)], [⟨26, [vI 0, vI 0, vS emp]⟩]⟩ [] [] (by kernel_rfl) on wn ?_
      refine l_nil (q_then_normal ?_)
      refine c_ret ?_
      refine q_then_ret (q_ret (.inl rfl) [.v (.slice none 0 0), .v (.agg #[.int .i64 0, .int .i64 0, .string emp]), vI 4] rfl (fun bs w hS => ?_))
      have hm : mPSet s.xs t v = ([], zRep, 4) := by
        unfold mPSet pIdx
        repeat (first | rw [if_pos (by first | assumption | omega)] | rw [if_neg (by first | assumption | omega | (intro h0; first | exact absurd h0 (by assumption) | (simp_all; done)))])
        all_goals rfl
      refine ⟨Sl.nil, ?_, ?_, hS.outS (Sl.rd_nil _ _)⟩
      · rw [hm] <;> rfl
      · rw [hm] <;> rfl
  | false =>
    have h1 := of_decide_eq_false h1
    refine JL_run 4 [] [23, 9, 7, 0, 1, 2] 1 ⟨[(23, vB false), (9, vI (mPairs s.xs)), (7, .p 0 0), (0, .v (.slice s.A s.n s.c)), (1, vS t), (2, vS v)], [⟨26, [vI 0, vI 0, vS emp]⟩]⟩ [] [] (by kernel_rfl) on wn ?_
    refine l_nil (q_then_normal ?_)
    refine c_if false rfl ?_
    refine c_skip ?_
    refine q_then_normal ?_
    refine c_seq ?_
    refine c_seq ?_
    refine c_region ?_
    refine JL_run 3 [] [26, 9, 7, 0, 1, 2] 1 ⟨[(26, vB (decide (mPairs s.xs = 0))), (9, vI (mPairs s.xs)), (7, .p 0 0), (0, .v (.slice s.A s.n s.c)), (1, vS t), (2, vS v)], [⟨26, [vI 0, vI 0, vS emp]⟩]⟩ [] [] (by kernel_rfl) on wn ?_
    cases h13 : decide (mPairs s.xs = 0) with
    | true =>
      have h13 := of_decide_eq_true h13
      exact absurd h13 h1
    | false =>
      have h13 := of_decide_eq_false h13
      refine JL_run 4 [] [30, 9, 7, 0, 1, 2] 1 ⟨[(30, vB false), (9, vI (mPairs s.xs)), (7, .p 0 0), (0, .v (.slice s.A s.n s.c)), (1, vS t), (2, vS v)], [⟨26, [vI 0, vI 0, vS emp]⟩]⟩ [] [] (by kernel_rfl) on wn ?_
      refine l_nil (q_then_normal ?_)
      refine c_if false rfl ?_
      refine c_skip ?_
      refine q_then_normal ?_
      refine c_seq ?_
      refine c_seq ?_
      refine c_region ?_
      refine JL_run 2 [] [32, 9, 7, 0, 1, 2] 1 ⟨[(32, vB (!(decide (mPairs s.xs = 0)))), (9, vI (mPairs s.xs)), (7, .p 0 0), (0, .v (.slice s.A s.n s.c)), (1, vS t), (2, vS v)], [⟨26, [vI 0, vI 0, vS emp]⟩]⟩ [] [] (by kernel_rfl) on wn ?_
      refine l_nil (q_then_normal ?_)
      cases h14 : decide (mPairs s.xs = 0) with
      | true =>
        have h14 := of_decide_eq_true h14
        exact absurd h14 h1
      | false =>
        have h14 := of_decide_eq_false h14
        refine c_if true rfl ?_
        refine c_seq ?_
        refine c_region ?_
        refine JL_run 5 [] [8, 6, 7] 1 ⟨[(8, vI (mPairs s.xs)), (6, .v (.slice none 0 0)), (7, .p 0 0)], [⟨26, [vI 0, vI 0, vS emp]⟩]⟩ [] [] (by kernel_rfl) on wn ?_
        refine l_nil (q_then_normal ?_)
        refine c_ret ?_
        refine q_then_ret (q_ret (.inl rfl) [.v (.slice none 0 0), .v (.agg #[.int .i64 0, .int .i64 0, .string emp]), vI (mPairs s.xs)] rfl (fun bs w hS => ?_))
        have hm : mPSet s.xs t v = ([], zRep, mPairs s.xs) := by
          unfold mPSet pIdx
          repeat (first | rw [if_pos (by first | assumption | omega)] | rw [if_neg (by first | assumption | omega | (intro h0; first | exact absurd h0 (by assumption) | (simp_all; done)))])
          all_goals rfl
        refine ⟨Sl.nil, ?_, ?_, hS.outS (Sl.rd_nil _ _)⟩
        · rw [hm] <;> rfl
        · rw [hm] <;> rfl

theorem law_PairSets {B : Nat → Prop} (s : Sl DPair) (t v : ByteArray) (w : World) (hs : s.rd B w) (ht : t.size ≤ 9223372036854775807) (hv : v.size ≤ 9223372036854775807) (hsm : Rds.small s) : Calls Try.prog 10 #[.slice s.A s.n s.c, .string t, .string v] w fun e w' => e = .returned (.bool true) ∧ Kp [] w w' := by
  have oks := Sl.rd.ok hs
  have ncs := Sl.ok.nc oks
  have hns : s.n = s.xs.length := rfl
  have hsm1 : s.xs.length ≤ 1048576 := hsm.1
  refine calls_J0 50 Try.func10 rfl rfl [.slice s.A s.n s.c, .string t, .string v] rfl ?_
  refine c_seq ?_
  refine c_region ?_
  refine JL_run 1 [] [0, 1, 2] 0 ⟨[(0, .v (.slice s.A s.n s.c)), (1, vS t), (2, vS v)], []⟩ [] [] (by kernel_rfl) on wn ?_
  refine l_nil (q_then_normal ?_)
  refine c_seq ?_
  refine c_region ?_
  refine JL_run 1 [] [14, 0, 1, 2] 0 ⟨[(14, .v (.slice s.A s.n s.c)), (0, .v (.slice s.A s.n s.c)), (1, vS t), (2, vS v)], []⟩ [] [] (by kernel_rfl) on wn ?_
  refine l_rowA (α := DPair) 110 ?_
  refine l_appendA (α := DPair) 110 40 none 0 ([]) (.v (.slice s.A s.n s.c)) (s.xs) Try.underlying45 (by kernel_rfl) rfl rfl rfl (fun bs w hS => ⟨_, _, rfl, Sl.rd.src (s := s) (Sl.rd.kp hs hS.kp)⟩) (by first | omega | (simp only [List.length_nil]; omega)) (by first | omega | (simp only [List.length_nil]; omega)) ?_
  intro A1 c1
  refine l_weak (rowA 110 A1 c1 (s.xs : List DPair)) (List.Sublist.refl _) (fun w h => h) ?_
  refine JL_run 1 [] [7, 0, 1, 2] 0 ⟨[(7, .v (.slice A1 (s.xs).length c1)), (0, .v (.slice s.A s.n s.c)), (1, vS t), (2, vS v)], []⟩ [] [] (by kernel_rfl) on wn ?_
  refine l_nil (q_then_normal ?_)
  refine c_seq ?_
  refine c_region ?_
  refine JL_run 3 [] [19, 18, 17, 7, 0, 1, 2] 0 ⟨[(19, vS v), (18, vS t), (17, .v (.slice A1 (s.xs).length c1)), (7, .v (.slice A1 (s.xs).length c1)), (0, .v (.slice s.A s.n s.c)), (1, vS t), (2, vS v)], []⟩ [] [] (by kernel_rfl) on wn ?_
  refine l_sub_call (σ := Sl DPair) 36 [] [.v (.slice A1 (s.xs).length c1), vS t, vS v] (fun y2 => .tuple #[.slice y2.A y2.n y2.c, .agg #[.int .i64 ((mPSet s.xs t v).2.1).code, .int .i64 ((mPSet s.xs t v).2.1).n, .string ((mPSet s.xs t v).2.1).text], .int .i64 ((mPSet s.xs t v).2.2)]) (fun y2 => y2.xs = (mPSet s.xs t v).1) Try.call36 rfl rfl rfl rfl (fun bs w hS => pair_Set (⟨A1, c1, s.xs⟩ : Sl DPair) t v w (rowA_rd (B := anyB) (hS.res _ (.head _)) (fun _ _ => trivial) (fun z hz => Sl.rd.mem (s := s) hs z hz)) (by first | assumption | omega | (simp only [emp_size]; omega)) (by first | assumption | omega | (simp only [emp_size]; omega))) ?_
  rintro fp2 y2 hF2 hok2
  refine JL_run 8 [] [10, 8, 9, 7, 0, 1, 2] 1 ⟨[(10, vI ((mPSet s.xs t v).2.2)), (8, .v (.slice y2.A y2.n y2.c)), (9, .p 0 0), (7, .v (.slice A1 (s.xs).length c1)), (0, .v (.slice s.A s.n s.c)), (1, vS t), (2, vS v)], [⟨26, [vI ((mPSet s.xs t v).2.1).code, vI ((mPSet s.xs t v).2.1).n, vS ((mPSet s.xs t v).2.1).text]⟩]⟩ [] [] (by kernel_rfl) on wn ?_
  refine l_nil (q_then_normal ?_)
  refine c_seq ?_
  refine c_region ?_
  refine JL_run 3 [] [27, 26, 25, 10, 8, 9, 7, 0] 1 ⟨[(27, vS v), (26, vS t), (25, .v (.slice s.A s.n s.c)), (10, vI ((mPSet s.xs t v).2.2)), (8, .v (.slice y2.A y2.n y2.c)), (9, .p 0 0), (7, .v (.slice A1 (s.xs).length c1)), (0, .v (.slice s.A s.n s.c))], [⟨26, [vI ((mPSet s.xs t v).2.1).code, vI ((mPSet s.xs t v).2.1).n, vS ((mPSet s.xs t v).2.1).text]⟩]⟩ [] [] (by kernel_rfl) on wn ?_
  refine l_sub_call (σ := Sl DPair) 37 [] [.v (.slice s.A s.n s.c), vS t, vS v] (fun y3 => .tuple #[.slice y3.A y3.n y3.c, .agg #[.int .i64 ((mPSet s.xs t v).2.1).code, .int .i64 ((mPSet s.xs t v).2.1).n, .string ((mPSet s.xs t v).2.1).text], .int .i64 ((mPSet s.xs t v).2.2)]) (fun y3 => y3.xs = (mPSet s.xs t v).1) Try.call37 rfl rfl rfl rfl (fun bs w hS => ref_SetOf s t v w (Sl.rd.kp hs hS.kp) (by first | assumption | omega | (simp only [emp_size]; omega)) (by first | assumption | omega | (simp only [emp_size]; omega))) ?_
  rintro fp3 y3 hF3 hok3
  refine JL_run 8 [] [13, 11, 12, 10, 8, 9, 7, 0] 2 ⟨[(13, vI ((mPSet s.xs t v).2.2)), (11, .v (.slice y3.A y3.n y3.c)), (12, .p 1 0), (10, vI ((mPSet s.xs t v).2.2)), (8, .v (.slice y2.A y2.n y2.c)), (9, .p 0 0), (7, .v (.slice A1 (s.xs).length c1)), (0, .v (.slice s.A s.n s.c))], [⟨26, [vI ((mPSet s.xs t v).2.1).code, vI ((mPSet s.xs t v).2.1).n, vS ((mPSet s.xs t v).2.1).text]⟩, ⟨26, [vI ((mPSet s.xs t v).2.1).code, vI ((mPSet s.xs t v).2.1).n, vS ((mPSet s.xs t v).2.1).text]⟩]⟩ [] [] (by kernel_rfl) on wn ?_
  refine l_nil (q_then_normal ?_)
  refine c_seq ?_
  refine c_region ?_
  refine JL_run 4 [(2, .val (.bool ((decide (((mPSet s.xs t v).2.1).code = ((mPSet s.xs t v).2.1).code)) && ((decide (((mPSet s.xs t v).2.1).n = ((mPSet s.xs t v).2.1).n)) && ((decide (((mPSet s.xs t v).2.1).text = ((mPSet s.xs t v).2.1).text)) && true)))))] [35, 13, 11, 10, 8, 7, 0] 0 ⟨[(35, vB ((decide (((mPSet s.xs t v).2.1).code = ((mPSet s.xs t v).2.1).code)) && ((decide (((mPSet s.xs t v).2.1).n = ((mPSet s.xs t v).2.1).n)) && ((decide (((mPSet s.xs t v).2.1).text = ((mPSet s.xs t v).2.1).text)) && true)))), (13, vI ((mPSet s.xs t v).2.2)), (11, .v (.slice y3.A y3.n y3.c)), (10, vI ((mPSet s.xs t v).2.2)), (8, .v (.slice y2.A y2.n y2.c)), (7, .v (.slice A1 (s.xs).length c1)), (0, .v (.slice s.A s.n s.c))], []⟩ [∀ w, (do eqGuard .eql 26 (.tmp 32) (.tmp 33) (.agg #[.int .i64 ((mPSet s.xs t v).2.1).code, .int .i64 ((mPSet s.xs t v).2.1).n, .string ((mPSet s.xs t v).2.1).text]) (.agg #[.int .i64 ((mPSet s.xs t v).2.1).code, .int .i64 ((mPSet s.xs t v).2.1).n, .string ((mPSet s.xs t v).2.1).text]); binOp .eql 26 (.agg #[.int .i64 ((mPSet s.xs t v).2.1).code, .int .i64 ((mPSet s.xs t v).2.1).n, .string ((mPSet s.xs t v).2.1).text]) (.agg #[.int .i64 ((mPSet s.xs t v).2.1).code, .int .i64 ((mPSet s.xs t v).2.1).n, .string ((mPSet s.xs t v).2.1).text]) : Sem Value).run Try.prog w = .ok (.bool ((decide (((mPSet s.xs t v).2.1).code = ((mPSet s.xs t v).2.1).code)) && ((decide (((mPSet s.xs t v).2.1).n = ((mPSet s.xs t v).2.1).n)) && ((decide (((mPSet s.xs t v).2.1).text = ((mPSet s.xs t v).2.1).text)) && true)))) w] [] (by kernel_rfl) (oc (eq_agg (by kernel_rfl) (by kernel_rfl)) on) wn ?_
  cases h1 : (decide (((mPSet s.xs t v).2.1).code = ((mPSet s.xs t v).2.1).code)) && ((decide (((mPSet s.xs t v).2.1).n = ((mPSet s.xs t v).2.1).n)) && ((decide (((mPSet s.xs t v).2.1).text = ((mPSet s.xs t v).2.1).text)) && true)) with
  | true =>
    refine JL_run 5 [] [40, 11, 8, 7, 0] 0 ⟨[(40, vB (decide ((mPSet s.xs t v).2.2 = (mPSet s.xs t v).2.2))), (11, .v (.slice y3.A y3.n y3.c)), (8, .v (.slice y2.A y2.n y2.c)), (7, .v (.slice A1 (s.xs).length c1)), (0, .v (.slice s.A s.n s.c))], []⟩ [] [] (by kernel_rfl) on wn ?_
    cases h2 : decide ((mPSet s.xs t v).2.2 = (mPSet s.xs t v).2.2) with
    | true =>
      have h2 := of_decide_eq_true h2
      refine JL_run 2 [] [42, 41, 40, 7, 0] 0 ⟨[(42, .v (.slice y3.A y3.n y3.c)), (41, .v (.slice y2.A y2.n y2.c)), (40, vB true), (7, .v (.slice A1 (s.xs).length c1)), (0, .v (.slice s.A s.n s.c))], []⟩ [] [] (by kernel_rfl) on wn ?_
      refine l_pure 38 [] [.v (.slice y2.A y2.n y2.c), .v (.slice y3.A y3.n y3.c)] (.bool true) Try.call38 rfl rfl rfl rfl (fun bs w hS => same_pairs y2 y3 w (hS.res _ (.tail _ (.head _))) (hS.res _ (.head _)) (by first | rfl | rw [hF2, hF3])) ?_
      refine JL_run 4 [] [47, 46, 45] 0 ⟨[(47, .v (.slice s.A s.n s.c)), (46, .v (.slice A1 (s.xs).length c1)), (45, vB true)], []⟩ [] [] (by kernel_rfl) on wn ?_
      refine l_pure 38 [] [.v (.slice A1 (s.xs).length c1), .v (.slice s.A s.n s.c)] (.bool true) Try.call38 rfl rfl rfl rfl (fun bs w hS => same_pairs (⟨A1, c1, s.xs⟩ : Sl DPair) s w (rowA_rd (B := anyB) (hS.res _ (.tail _ (.tail _ (.head _)))) (fun _ _ => trivial) (fun z hz => Sl.rd.mem (s := s) hs z hz)) (Sl.rd.kp hs hS.kp) (by first | rfl | rw [hF2, hF3])) ?_
      refine JL_run 2 [] [6] 0 ⟨[(6, vB true)], []⟩ [] [] (by kernel_rfl) on wn ?_
      refine l_nil (q_then_normal ?_)
      refine c_ret ?_
      refine q_ret (.inl rfl) [vB true] rfl (fun bs w hS => ?_)
      refine ⟨?_, hS.kp⟩
      simp [retOf, den]
    | false =>
      have h2 := of_decide_eq_false h2
      exact absurd rfl h2
  | false =>
    exfalso; first | (simp at h1; done) | (rw [hF1] at h1; simp at h1; done)

end Go.Proofs.Ytececkgjacccmad.W
