/-
  The functions that the law PairGets reaches, walked: each returns what its model says.
  Conditions: those that each theorem states.
-/
import Derived.Test.YtececkgjacccmabMc
import Derived.Test.YtececkgjacccmabChecked
set_option linter.unusedVariables false
set_option linter.unusedSimpArgs false
set_option maxRecDepth 100000
namespace Go.Proofs.Ytececkgjacccmab.W
open Go.Proofs.Ytececkgjacccmab.Fw Go.RowKit

theorem Try_mixed : Try.prog.follows .mixedOrders = true := by kernel_rfl
theorem laid : laidOutB Try.prog = true := by kernel_rfl

theorem ref_In (n lo hi : Int) (w : World) : Calls Try.prog 47 #[.int .i64 n, .int .i64 lo, .int .i64 hi] w fun e w' => e = .returned (.bool (inB n lo hi)) ∧ Kp [] w w' := by
  refine calls_J0 15 Try.func47 rfl rfl [.int .i64 n, .int .i64 lo, .int .i64 hi] rfl ?_
  refine c_seq ?_
  refine c_region ?_
  refine JL_run 1 [] [0, 1, 2] 0 ⟨[(0, vI n), (1, vI lo), (2, vI hi)], []⟩ [] [] (by kernel_rfl) on wn ?_
  refine l_nil (q_then_normal ?_)
  refine c_seq ?_
  refine c_region ?_
  refine JL_run 4 [] [10, 0, 2] 0 ⟨[(10, vB (decide (lo ≤ n))), (0, vI n), (2, vI hi)], []⟩ [] [] (by kernel_rfl) on wn ?_
  cases h1 : decide (lo ≤ n) with
  | true =>
    have h1 := of_decide_eq_true h1
    refine JL_run 5 [] [6] 0 ⟨[(6, vB (decide (n ≤ hi)))], []⟩ [] [] (by kernel_rfl) on wn ?_
    refine l_nil (q_then_normal ?_)
    refine c_ret ?_
    refine q_ret (.inl rfl) [vB (decide (n ≤ hi))] rfl (fun bs w hS => ?_)
    exact ⟨by simp [retOf, den, inB, h1], hS.kp⟩
  | false =>
    have h1 := of_decide_eq_false h1
    refine JL_run 5 [] [6] 0 ⟨[(6, vB false)], []⟩ [] [] (by kernel_rfl) on wn ?_
    refine l_nil (q_then_normal ?_)
    refine c_ret ?_
    refine q_ret (.inl rfl) [vB false] rfl (fun bs w hS => ?_)
    exact ⟨by simp [retOf, den, inB, h1], hS.kp⟩

theorem lock_Name1 (c : UInt8) (w : World) : Calls Try.prog 71 #[.int .u8 (c.toNat : Int)] w fun e w' => e = .returned (.bool (nameBad c)) ∧ Kp [] w w' := by
  refine calls_J0 9 Try.func71 rfl rfl [.int .u8 (c.toNat : Int)] rfl ?_
  refine c_seq ?_
  refine c_region ?_
  refine JL_run 1 [] [0] 0 ⟨[(0, .v (.int .u8 (c.toNat : Int)))], []⟩ [] [] (by kernel_rfl) on wn ?_
  refine l_nil (q_then_normal ?_)
  refine c_seq ?_
  refine c_region ?_
  refine JL_run 3 [] [5, 0] 0 ⟨[(5, vB (decide ((c.toNat : Int) < 97))), (0, .v (.int .u8 (c.toNat : Int)))], []⟩ [] [] (by kernel_rfl) on wn ?_
  cases h1 : decide ((c.toNat : Int) < 97) with
  | true =>
    have h1 := of_decide_eq_true h1
    refine JL_run 4 [] [2] 0 ⟨[(2, vB true)], []⟩ [] [] (by kernel_rfl) on wn ?_
    refine l_nil (q_then_normal ?_)
    refine c_ret ?_
    refine q_ret (.inl rfl) [vB true] rfl (fun bs w hS => ?_)
    exact ⟨by simp [retOf, den, nameBad, h1], hS.kp⟩
  | false =>
    have h1 := of_decide_eq_false h1
    refine JL_run 4 [] [2] 0 ⟨[(2, vB (decide ((122 : Int) < (c.toNat : Int))))], []⟩ [] [] (by kernel_rfl) on wn ?_
    refine l_nil (q_then_normal ?_)
    refine c_ret ?_
    refine q_ret (.inl rfl) [vB (decide ((122 : Int) < (c.toNat : Int)))] rfl (fun bs w hS => ?_)
    exact ⟨by simp [retOf, den, nameBad, h1], hS.kp⟩

theorem idx_bytes {B : Nat → Prop} (s : Sl UInt8) (w : World) (hs : s.rd B w) : Calls Try.prog 79 #[.slice s.A s.n s.c, .func (.func 71) #[] #[]] w fun e w' => e = .returned (.int .i64 (mIdx nameBad s.xs)) ∧ Kp [] w w' := by
  have oks := Sl.rd.ok hs
  have ncs := Sl.ok.nc oks
  have hns : s.n = s.xs.length := rfl
  refine calls_J 19 [] Try.func79 rfl rfl [] [] [] [.v (.slice s.A s.n s.c), .fn 71 []] [.slice s.A s.n s.c, .func (.func 71) #[] #[]] rfl rfl (WS.start w) ?_
  refine c_seq ?_
  refine c_region ?_
  refine JL_run 1 [] [0, 1] 0 ⟨[(0, .v (.slice s.A s.n s.c)), (1, .fn 71 [])], []⟩ [] [] (by kernel_rfl) on wn ?_
  refine l_nil (q_then_normal ?_)
  refine c_seq ?_
  refine c_seq ?_
  refine c_region ?_
  refine JL_run 3 [] [8, 7, 0, 1] 0 ⟨[(8, vI 0), (7, vI ((s.n : Nat) : Int)), (0, .v (.slice s.A s.n s.c)), (1, .fn 71 [])], []⟩ [] [] (by kernel_rfl) on wn ?_
  refine l_nil (q_then_normal ?_)
  refine c_block ?_
  refine c_loop (σ := Nat) (fun i => i ≤ s.n ∧ ∀ j, j < i → nameBad (s.at j) = false) (fun i => s.n - i) (fun i => []) (fun i => ⟨[(8, vI ((i : Nat) : Int)), (7, vI ((s.n : Nat) : Int)), (0, .v (.slice s.A s.n s.c)), (1, .fn 71 [])], []⟩) 0 ⟨Nat.zero_le _, fun j hj => absurd hj (Nat.not_lt_zero _)⟩ (s_start [8, 7, 0, 1] 0 (by kernel_rfl) rfl) ?_
  rintro i ⟨hi, hI⟩
  refine c_seq ?_
  refine c_region ?_
  refine JL_run 1 [] [9, 8, 7, 0, 1] 0 ⟨[(9, vB (decide (((i : Nat) : Int) < ((s.n : Nat) : Int)))), (8, vI ((i : Nat) : Int)), (7, vI ((s.n : Nat) : Int)), (0, .v (.slice s.A s.n s.c)), (1, .fn 71 [])], []⟩ [] [] (by kernel_rfl) on wn ?_
  refine l_nil (q_then_normal ?_)
  refine c_seq ?_
  cases h1 : decide (((i : Nat) : Int) < ((s.n : Nat) : Int)) with
  | true =>
    have h1 := of_decide_eq_true h1
    refine c_if true rfl ?_
    refine c_skip ?_
    refine q_then_normal ?_
    refine c_seq ?_
    refine c_block ?_
    refine c_seq ?_
    refine c_region ?_
    refine JL_run 2 [] [5, 8, 7, 0, 1] 0 ⟨[(5, vI ((i : Nat) : Int)), (8, vI ((i : Nat) : Int)), (7, vI ((s.n : Nat) : Int)), (0, .v (.slice s.A s.n s.c)), (1, .fn 71 [])], []⟩ [] [] (by kernel_rfl) on wn ?_
    refine l_nil (q_then_normal ?_)
    refine c_seq ?_
    refine c_region ?_
    refine JL_run 5 [(3, .idx s.ad i), (4, .ext [.int .u8 ((s.at i).toNat : Int)])] [15, 11, 5, 8, 7, 0, 1] 0 ⟨[(15, .v (.int .u8 ((s.at i).toNat : Int))), (11, .fn 71 []), (5, vI ((i : Nat) : Int)), (8, vI ((i : Nat) : Int)), (7, vI ((s.n : Nat) : Int)), (0, .v (.slice s.A s.n s.c)), (1, .fn 71 [])], []⟩ [s.A = some s.ad, ((i : Nat) : Int) = ((i : Nat) : Int), i < s.n] [(s.ad.add (i * 1), [.int .u8 ((s.at i).toNat : Int)])] (by kernel_rfl) (oc (Sl.ok.own (s := s) (i := i) oks (by omega)) (oc rfl (oc (by omega) on))) (fun w hk hr => ⟨(Sl.rd.all (s := s) (i := i) (Sl.rd.kp hs hk) (by omega) rfl), trivial⟩) ?_
    refine l_pure 71 [] [.v (.int .u8 ((s.at i).toNat : Int))] (.bool (nameBad (s.at i))) Try.call71 rfl rfl rfl rfl (fun bs w hS => lock_Name1 _ w) ?_
    refine l_nil (q_then_normal ?_)
    cases h2 : nameBad (s.at i) with
    | true =>
      refine c_if true rfl ?_
      refine c_seq ?_
      refine c_region ?_
      refine JL_run 2 [] [4] 0 ⟨[(4, vI ((i : Nat) : Int))], []⟩ [] [] (by kernel_rfl) on wn ?_
      refine l_nil (q_then_normal ?_)
      refine c_ret ?_
      refine q_block_ret (q_then_ret (q_then_ret (q_block_ret (q_then_ret (q_ret (.inl rfl) [vI ((i : Nat) : Int)] rfl (fun bs w hS => ?_))))))
      refine ⟨?_, hS.kp⟩
      rw [mIdx_here (by omega) (by assumption) hI]
      rfl
    | false =>
      refine c_if false rfl ?_
      refine c_skip ?_
      refine q_block_normal (q_then_normal ?_)
      refine c_region ?_
      refine JL_run 2 [] [8, 7, 0, 1] 0 ⟨[(8, vI (((i : Nat) : Int) + 1)), (7, vI ((s.n : Nat) : Int)), (0, .v (.slice s.A s.n s.c)), (1, .fn 71 [])], []⟩ [inR (((i : Nat) : Int) + 1)] [] (by kernel_rfl) (oc (by unfold inR; omega) on) wn ?_
      refine l_nil (q_loop (x := (i : Nat)) ((i + 1) : Nat) ⟨by omega, fun j hj => by rcases Nat.lt_succ_iff_lt_or_eq.1 hj with h | h; exact hI j h; subst h; assumption⟩ (by omega) (s_start [8, 7, 0, 1] 0 (by kernel_rfl) rfl))
  | false =>
    have h1 := of_decide_eq_false h1
    refine c_if false rfl ?_
    refine c_exit ?_
    refine q_then_exit (q_then_exit (q_block_hit (q_then_normal ?_)))
    refine c_seq ?_
    refine c_region ?_
    refine JL_run 1 [] [4] 0 ⟨[(4, vI (-1))], []⟩ [] [] (by kernel_rfl) on wn ?_
    refine l_nil (q_then_normal ?_)
    refine c_ret ?_
    refine q_ret (.inl rfl) [vI (-1)] rfl (fun bs w hS => ?_)
    refine ⟨?_, hS.kp⟩
    rw [mIdx_none fun j hj => hI j (by omega)]
    rfl

theorem has_bytes {B : Nat → Prop} (s : Sl UInt8) (w : World) (hs : s.rd B w) : Calls Try.prog 70 #[.slice s.A s.n s.c, .func (.func 71) #[] #[]] w fun e w' => e = .returned (.bool (s.xs.any nameBad)) ∧ Kp [] w w' := by
  have oks := Sl.rd.ok hs
  have ncs := Sl.ok.nc oks
  have hns : s.n = s.xs.length := rfl
  refine calls_J 9 [] Try.func70 rfl rfl [] [] [] [.v (.slice s.A s.n s.c), .fn 71 []] [.slice s.A s.n s.c, .func (.func 71) #[] #[]] rfl rfl (WS.start w) ?_
  refine c_seq ?_
  refine c_region ?_
  refine JL_run 1 [] [0, 1] 0 ⟨[(0, .v (.slice s.A s.n s.c)), (1, .fn 71 [])], []⟩ [] [] (by kernel_rfl) on wn ?_
  refine l_nil (q_then_normal ?_)
  refine c_seq ?_
  refine c_region ?_
  refine JL_run 2 [] [6, 5] 0 ⟨[(6, .fn 71 []), (5, .v (.slice s.A s.n s.c))], []⟩ [] [] (by kernel_rfl) on wn ?_
  refine l_pure 79 [] [.v (.slice s.A s.n s.c), .fn 71 []] (.int .i64 (mIdx nameBad s.xs)) Try.call79 rfl rfl rfl rfl (fun bs w hS => idx_bytes _ w (Sl.rd.kp hs hS.kp)) ?_
  refine JL_run 2 [] [4] 0 ⟨[(4, vB (decide ((0 : Int) ≤ mIdx nameBad s.xs)))], []⟩ [] [] (by kernel_rfl) on wn ?_
  refine l_nil (q_then_normal ?_)
  refine c_ret ?_
  refine q_ret (.inl rfl) [vB (decide ((0 : Int) ≤ mIdx nameBad s.xs))] rfl (fun bs w hS => ?_)
  refine ⟨?_, hS.kp⟩
  simp only [retOf, den, List.map_cons, List.map_nil, mIdx_nonneg]

theorem lock_Name (s : ByteArray) (w : World) (hs : s.size ≤ 9223372036854775807) : Calls Try.prog 46 #[.string s] w fun e w' => e = .returned (.bool (mName s)) ∧ Kp [] w w' := by
  refine calls_J0 16 Try.func46 rfl rfl [.string s] rfl ?_
  refine c_seq ?_
  refine c_region ?_
  refine JL_run 1 [] [0] 0 ⟨[(0, vS s)], []⟩ [] [] (by kernel_rfl) on wn ?_
  refine l_nil (q_then_normal ?_)
  refine c_seq ?_
  refine c_region ?_
  refine JL_run 3 [] [5, 0] 0 ⟨[(5, vB (!(decide (s = emp)))), (0, vS s)], []⟩ [] [] (by kernel_rfl) on wn ?_
  cases h1 : decide (s = emp) with
  | true =>
    have h1 := of_decide_eq_true h1
    refine JL_run 11 [] [2] 0 ⟨[(2, vB false)], []⟩ [] [] (by kernel_rfl) on wn ?_
    refine l_nil (q_then_normal ?_)
    refine c_ret ?_
    refine q_ret (.inl rfl) [vB false] rfl (fun bs w hS => ?_)
    refine ⟨?_, hS.kp⟩
    simp [retOf, den, mName, *]
  | false =>
    have h1 := of_decide_eq_false h1
    refine JL_run 5 [] [10, 0] 0 ⟨[(10, vB (decide ((s.size : Int) ≤ 6))), (0, vS s)], []⟩ [] [] (by kernel_rfl) on wn ?_
    cases h2 : decide ((s.size : Int) ≤ 6) with
    | true =>
      have h2 := of_decide_eq_true h2
      refine JL_run 1 [] [11, 10] 0 ⟨[(11, vS s), (10, vB true)], []⟩ [] [] (by kernel_rfl) on wn ?_
      refine l_strbytes 5 s Try.underlying9 Try.underlying101 Try.underlying5 (by unfold maxLen; omega) rfl rfl rfl ?_
      rintro fp1 y1 hF1 hok1
      refine l_pure 70 [] [.v (.slice y1.A y1.n y1.c), .fn 71 []] (.bool (y1.xs.any nameBad)) Try.call70 rfl rfl rfl rfl (fun bs w hS => has_bytes _ w (hS.res _ (.head _))) ?_
      refine JL_run 3 [] [2] 0 ⟨[(2, vB (!(y1.xs.any nameBad)))], []⟩ [] [] (by kernel_rfl) on wn ?_
      refine l_nil (q_then_normal ?_)
      refine c_ret ?_
      refine q_ret (.inl rfl) [vB (!(y1.xs.any nameBad))] rfl (fun bs w hS => ?_)
      refine ⟨?_, hS.kp⟩
      simp [retOf, den, mName, *]
    | false =>
      have h2 := of_decide_eq_false h2
      refine JL_run 6 [] [2] 0 ⟨[(2, vB false)], []⟩ [] [] (by kernel_rfl) on wn ?_
      refine l_nil (q_then_normal ?_)
      refine c_ret ?_
      refine q_ret (.inl rfl) [vB false] rfl (fun bs w hS => ?_)
      refine ⟨?_, hS.kp⟩
      simp [retOf, den, mName, *]

theorem ref_NameMay (s : ByteArray) (w : World) (hs : s.size ≤ 9223372036854775807) : Calls Try.prog 48 #[.string s] w fun e w' => e = .returned (.bool (mName s)) ∧ Kp [] w w' := by
  refine calls_J0 19 Try.func48 rfl rfl [.string s] rfl ?_
  refine c_seq ?_
  refine c_region ?_
  refine JL_run 1 [] [0] 0 ⟨[(0, vS s)], []⟩ [] [] (by kernel_rfl) on wn ?_
  refine l_nil (q_then_normal ?_)
  refine c_seq ?_
  refine c_seq ?_
  refine c_region ?_
  refine JL_run 1 [] [3, 0] 0 ⟨[(3, vI 0), (0, vS s)], []⟩ [] [] (by kernel_rfl) on wn ?_
  refine l_nil (q_then_normal ?_)
  refine c_block ?_
  refine c_loop (σ := Nat) (fun i => i ≤ s.size ∧ ∀ j, j < i → nameBad (s.data.getD j 0) = false) (fun i => s.size - i) (fun i => []) (fun i => ⟨[(3, vI ((i : Nat) : Int)), (0, vS s)], []⟩) 0 ⟨Nat.zero_le _, fun j hj => absurd hj (Nat.not_lt_zero _)⟩ (s_start [3, 0] 0 (by kernel_rfl) rfl) ?_
  rintro i ⟨hi, hI⟩
  have hu := (s.data.getD i 0).toNat_lt
  refine c_seq ?_
  refine c_seq ?_
  refine c_region ?_
  refine JL_run 4 [] [7, 3, 0] 0 ⟨[(7, vB (decide (((i : Nat) : Int) < (s.size : Int)))), (3, vI ((i : Nat) : Int)), (0, vS s)], []⟩ [] [] (by kernel_rfl) on wn ?_
  refine l_nil (q_then_normal ?_)
  cases h1 : decide (((i : Nat) : Int) < (s.size : Int)) with
  | true =>
    have h1 := of_decide_eq_true h1
    refine c_if true rfl ?_
    refine c_skip ?_
    refine q_then_normal ?_
    refine c_seq ?_
    refine c_block ?_
    refine c_seq ?_
    refine c_region ?_
    refine JL_run 4 [(2, .sidx i)] [13, 3, 0] 0 ⟨[(13, vI ((s.data.getD i 0).toNat : Int)), (3, vI ((i : Nat) : Int)), (0, vS s)], []⟩ [((i : Nat) : Int) = ((i : Nat) : Int), i < s.size, 0 ≤ ((s.data.getD i 0).toNat : Int), ((s.data.getD i 0).toNat : Int) ≤ 255] [] (by kernel_rfl) (oc rfl (oc (by omega) (oc (by omega) (oc (by omega) on)))) wn ?_
    refine l_pure 47 [] [vI ((s.data.getD i 0).toNat : Int), vI 97, vI 122] (.bool (inB ((s.data.getD i 0).toNat : Int) 97 122)) Try.call47 rfl rfl rfl rfl (fun bs w hS => ref_In _ _ _ w) ?_
    refine JL_run 1 [] [15, 3, 0] 0 ⟨[(15, vB (!(inB ((s.data.getD i 0).toNat : Int) 97 122))), (3, vI ((i : Nat) : Int)), (0, vS s)], []⟩ [] [] (by kernel_rfl) on wn ?_
    refine l_nil (q_then_normal ?_)
    cases h2 : inB ((s.data.getD i 0).toNat : Int) 97 122 with
    | true =>
      refine c_if false rfl ?_
      refine c_skip ?_
      refine q_block_normal (q_then_normal ?_)
      refine c_region ?_
      refine JL_run 3 [] [3, 0] 0 ⟨[(3, vI (((i : Nat) : Int) + 1)), (0, vS s)], []⟩ [inR (((i : Nat) : Int) + 1)] [] (by kernel_rfl) (oc (by unfold inR; omega) on) wn ?_
      refine l_nil (q_loop (x := (i : Nat)) ((i + 1) : Nat) ⟨by omega, fun j hj => by rcases Nat.lt_succ_iff_lt_or_eq.1 hj with h | h; exact hI j h; subst h; simp only [inB, nameBad, Bool.and_eq_true, Bool.or_eq_false_iff, decide_eq_true_eq, decide_eq_false_iff_not] at *; omega⟩ (by omega) (s_start [3, 0] 0 (by kernel_rfl) rfl))
    | false =>
      refine c_if true rfl ?_
      refine c_seq ?_
      refine c_region ?_
      refine JL_run 1 [] [2] 0 ⟨[(2, vB false)], []⟩ [] [] (by kernel_rfl) on wn ?_
      refine l_nil (q_then_normal ?_)
      refine c_ret ?_
      refine q_block_ret (q_then_ret (q_then_ret (q_block_ret (q_then_ret (q_ret (.inl rfl) [vB false] rfl (fun bs w hS => ?_))))))
      refine ⟨?_, hS.kp⟩
      rw [mName_bad (i := i) (by omega) (by simp only [inB, nameBad, Bool.and_eq_false_iff, Bool.or_eq_true, decide_eq_true_eq, decide_eq_false_iff_not] at *; omega)]
      rfl
  | false =>
    have h1 := of_decide_eq_false h1
    refine c_if false rfl ?_
    refine c_exit ?_
    refine q_then_exit (q_then_exit (q_block_hit (q_then_normal ?_)))
    refine c_seq ?_
    refine c_region ?_
    refine JL_run 2 [] [17] 0 ⟨[(17, vI (s.size : Int))], []⟩ [] [] (by kernel_rfl) on wn ?_
    refine l_pure 47 [] [vI (s.size : Int), vI 1, vI 6] (.bool (inB (s.size : Int) 1 6)) Try.call47 rfl rfl rfl rfl (fun bs w hS => ref_In _ _ _ w) ?_
    refine JL_run 1 [] [2] 0 ⟨[(2, vB (inB (s.size : Int) 1 6))], []⟩ [] [] (by kernel_rfl) on wn ?_
    refine l_nil (q_then_normal ?_)
    refine c_ret ?_
    refine q_ret (.inl rfl) [vB (inB (s.size : Int) 1 6)] rfl (fun bs w hS => ?_)
    refine ⟨?_, hS.kp⟩
    simp only [retOf, den, List.map_cons, List.map_nil, mName_good fun j hj => hI j (by omega)]

theorem pair_Check {B : Nat → Prop} (s : Sl DPair) (w : World) (hs : s.rd B w) : Calls Try.prog 25 #[.slice s.A s.n s.c] w fun e w' => e = .returned (.int .i64 (mPairs s.xs)) ∧ Kp [] w w' := by
  have oks := Sl.rd.ok hs
  have ncs := Sl.ok.nc oks
  have hns : s.n = s.xs.length := rfl
  refine calls_J0 45 Try.func25 rfl rfl [.slice s.A s.n s.c] rfl ?_
  refine c_seq ?_
  refine c_region ?_
  refine JL_run 1 [] [0] 0 ⟨[(0, .v (.slice s.A s.n s.c))], []⟩ [] [] (by kernel_rfl) on wn ?_
  refine l_nil (q_then_normal ?_)
  refine c_seq ?_
  refine c_seq ?_
  refine c_region ?_
  refine JL_run 3 [] [7, 0] 0 ⟨[(7, vB (decide ((5 : Int) < ((s.n : Nat) : Int)))), (0, .v (.slice s.A s.n s.c))], []⟩ [] [] (by kernel_rfl) on wn ?_
  refine l_nil (q_then_normal ?_)
  cases h1 : decide ((5 : Int) < ((s.n : Nat) : Int)) with
  | true =>
    have h1 := of_decide_eq_true h1
    refine c_if true rfl ?_
    refine c_seq ?_
    refine c_region ?_
    refine JL_run 1 [] [2] 0 ⟨[(2, vI 1)], []⟩ [] [] (by kernel_rfl) on wn ?_
    refine l_nil (q_then_normal ?_)
    refine c_ret ?_
    refine q_then_ret (q_ret (.inl rfl) [vI 1] rfl (fun bs w hS => ?_))
    refine ⟨?_, hS.kp⟩
    simp only [retOf, den, List.map_cons, List.map_nil]
    have hm : mPairs s.xs = 1 := by
      unfold mPairs; rw [if_pos (by omega)]
    rw [hm]
  | false =>
    have h1 := of_decide_eq_false h1
    refine c_if false rfl ?_
    refine c_skip ?_
    refine q_then_normal ?_
    refine c_seq ?_
    refine c_seq ?_
    refine c_region ?_
    refine JL_run 3 [] [10, 9, 8, 0] 0 ⟨[(10, vI 0), (9, vI ((s.n : Nat) : Int)), (8, .v (.slice s.A s.n s.c)), (0, .v (.slice s.A s.n s.c))], []⟩ [] [] (by kernel_rfl) on wn ?_
    refine l_nil (q_then_normal ?_)
    refine c_block ?_
    refine c_loop (σ := Nat) (fun i => i ≤ s.n ∧ mPairs s.xs = firstF (pairF s.xs) (s.n - i) i) (fun i => s.n - i) (fun i => []) (fun i => ⟨[(10, vI ((i : Nat) : Int)), (9, vI ((s.n : Nat) : Int)), (8, .v (.slice s.A s.n s.c)), (0, .v (.slice s.A s.n s.c))], []⟩) 0 ⟨Nat.zero_le _, by unfold mPairs; rw [if_neg (by omega)]⟩ (s_start [10, 9, 8, 0] 0 (by kernel_rfl) rfl) ?_
    rintro i ⟨hi, hI⟩
    have hlt := hi
    refine c_seq ?_
    refine c_region ?_
    refine JL_run 1 [] [11, 10, 9, 8, 0] 0 ⟨[(11, vB (decide (((i : Nat) : Int) < ((s.n : Nat) : Int)))), (10, vI ((i : Nat) : Int)), (9, vI ((s.n : Nat) : Int)), (8, .v (.slice s.A s.n s.c)), (0, .v (.slice s.A s.n s.c))], []⟩ [] [] (by kernel_rfl) on wn ?_
    refine l_nil (q_then_normal ?_)
    refine c_seq ?_
    cases h2 : decide (((i : Nat) : Int) < ((s.n : Nat) : Int)) with
    | true =>
      have h2 := of_decide_eq_true h2
      refine c_if true rfl ?_
      refine c_skip ?_
      refine q_then_normal ?_
      refine c_seq ?_
      refine c_block ?_
      refine c_seq ?_
      refine c_region ?_
      refine JL_run 6 [(1, .idx s.ad i), (2, .ext [.string (s.at i).name, .string (s.at i).value, .int .i64 (s.at i).version])] [3, 4, 10, 9, 8, 0] 1 ⟨[(3, vI ((i : Nat) : Int)), (4, .p 0 0), (10, vI ((i : Nat) : Int)), (9, vI ((s.n : Nat) : Int)), (8, .v (.slice s.A s.n s.c)), (0, .v (.slice s.A s.n s.c))], [⟨75, [vS (s.at i).name, vS (s.at i).value, vI (s.at i).version]⟩]⟩ [s.A = some s.ad, ((i : Nat) : Int) = ((i : Nat) : Int), i < s.n] [(s.ad.add (i * 3), [.string (s.at i).name, .string (s.at i).value, .int .i64 (s.at i).version])] (by kernel_rfl) (oc (Sl.ok.own (s := s) (i := i) oks (by omega)) (oc rfl (oc (by omega) on))) (fun w hk hr => ⟨(Sl.rd.all (s := s) (i := i) (Sl.rd.kp hs hk) (by omega) rfl), trivial⟩) ?_
      refine l_nil (q_then_normal ?_)
      refine c_seq ?_
      refine c_seq ?_
      refine c_region ?_
      refine JL_run 2 [] [16, 3, 4, 10, 9, 8, 0] 1 ⟨[(16, vS (s.at i).name), (3, vI ((i : Nat) : Int)), (4, .p 0 0), (10, vI ((i : Nat) : Int)), (9, vI ((s.n : Nat) : Int)), (8, .v (.slice s.A s.n s.c)), (0, .v (.slice s.A s.n s.c))], [⟨75, [vS (s.at i).name, vS (s.at i).value, vI (s.at i).version]⟩]⟩ [] [] (by kernel_rfl) on wn ?_
      refine l_pure 46 [] [vS (s.at i).name] (.bool (mName (s.at i).name)) Try.call46 rfl rfl rfl rfl (fun bs w hS => lock_Name _ w (And.left (Sl.ok.at (s := s) (i := i) oks (by omega)))) ?_
      refine JL_run 1 [] [18, 3, 4, 10, 9, 8, 0] 1 ⟨[(18, vB (!(mName (s.at i).name))), (3, vI ((i : Nat) : Int)), (4, .p 0 0), (10, vI ((i : Nat) : Int)), (9, vI ((s.n : Nat) : Int)), (8, .v (.slice s.A s.n s.c)), (0, .v (.slice s.A s.n s.c))], [⟨75, [vS (s.at i).name, vS (s.at i).value, vI (s.at i).version]⟩]⟩ [] [] (by kernel_rfl) on wn ?_
      refine l_nil (q_then_normal ?_)
      cases h3 : mName (s.at i).name with
      | true =>
        refine c_if false rfl ?_
        refine c_skip ?_
        refine q_then_normal ?_
        refine c_seq ?_
        refine c_seq ?_
        refine c_region ?_
        refine JL_run 4 [] [22, 3, 4, 10, 9, 8, 0] 1 ⟨[(22, vB (decide ((12 : Int) < ((s.at i).value.size : Int)))), (3, vI ((i : Nat) : Int)), (4, .p 0 0), (10, vI ((i : Nat) : Int)), (9, vI ((s.n : Nat) : Int)), (8, .v (.slice s.A s.n s.c)), (0, .v (.slice s.A s.n s.c))], [⟨75, [vS (s.at i).name, vS (s.at i).value, vI (s.at i).version]⟩]⟩ [] [] (by kernel_rfl) on wn ?_
        refine l_nil (q_then_normal ?_)
        cases h4 : decide ((12 : Int) < ((s.at i).value.size : Int)) with
        | true =>
          have h4 := of_decide_eq_true h4
          refine c_if true rfl ?_
          refine c_seq ?_
          refine c_region ?_
          refine JL_run 1 [] [2] 0 ⟨[(2, vI 1)], []⟩ [] [] (by kernel_rfl) on wn ?_
          refine l_nil (q_then_normal ?_)
          refine c_ret ?_
          refine q_then_ret (q_block_ret (q_then_ret (q_then_ret (q_block_ret (q_then_ret (q_ret (.inl rfl) [vI 1] rfl (fun bs w hS => ?_)))))))
          refine ⟨?_, hS.kp⟩
          simp only [retOf, den, List.map_cons, List.map_nil]
          have hf : pairF s.xs i = 1 := by
            have hat : ∀ q, s.xs.getD q default = s.at q := fun _ => rfl
            unfold pairF
            simp only [hat]
            try simp only [h1, h2, h3, h4, emp_size, ne_eq, not_true_eq_false, not_false_eq_true, true_or, or_true, false_or, or_false, and_true, true_and, and_false, false_and, and_self, or_self, if_true, if_false, Bool.true_eq_false, Bool.false_eq_true, reduceIte, Classical.not_not, Bool.and_eq_true, decide_eq_true_eq]
            repeat (first | rw [if_pos (by omega)] | rw [if_neg (by omega)])
            all_goals first | rfl | (exfalso; omega)
          rw [hI, firstF_here (by omega) hf (by omega)]
        | false =>
          have h4 := of_decide_eq_false h4
          refine c_if false rfl ?_
          refine c_skip ?_
          refine q_then_normal ?_
          refine c_seq ?_
          refine c_seq ?_
          refine c_region ?_
          refine JL_run 4 [] [26, 3, 4, 10, 9, 8, 0] 1 ⟨[(26, vB (decide ((s.at i).version < 1))), (3, vI ((i : Nat) : Int)), (4, .p 0 0), (10, vI ((i : Nat) : Int)), (9, vI ((s.n : Nat) : Int)), (8, .v (.slice s.A s.n s.c)), (0, .v (.slice s.A s.n s.c))], [⟨75, [vS (s.at i).name, vS (s.at i).value, vI (s.at i).version]⟩]⟩ [] [] (by kernel_rfl) on wn ?_
          cases h5 : decide ((s.at i).version < 1) with
          | true =>
            have h5 := of_decide_eq_true h5
            refine JL_run 4 [] [30, 3, 4, 10, 9, 8, 0] 1 ⟨[(30, vB true), (3, vI ((i : Nat) : Int)), (4, .p 0 0), (10, vI ((i : Nat) : Int)), (9, vI ((s.n : Nat) : Int)), (8, .v (.slice s.A s.n s.c)), (0, .v (.slice s.A s.n s.c))], [⟨75, [vS (s.at i).name, vS (s.at i).value, vI (s.at i).version]⟩]⟩ [] [] (by kernel_rfl) on wn ?_
            refine l_nil (q_then_normal ?_)
            refine c_if true rfl ?_
            refine c_seq ?_
            refine c_region ?_
            refine JL_run 1 [] [2] 0 ⟨[(2, vI 2)], []⟩ [] [] (by kernel_rfl) on wn ?_
            refine l_nil (q_then_normal ?_)
            refine c_ret ?_
            refine q_then_ret (q_block_ret (q_then_ret (q_then_ret (q_block_ret (q_then_ret (q_ret (.inl rfl) [vI 2] rfl (fun bs w hS => ?_)))))))
            refine ⟨?_, hS.kp⟩
            simp only [retOf, den, List.map_cons, List.map_nil]
            have hf : pairF s.xs i = 2 := by
              have hat : ∀ q, s.xs.getD q default = s.at q := fun _ => rfl
              unfold pairF
              simp only [hat]
              try simp only [h1, h2, h3, h4, h5, emp_size, ne_eq, not_true_eq_false, not_false_eq_true, true_or, or_true, false_or, or_false, and_true, true_and, and_false, false_and, and_self, or_self, if_true, if_false, Bool.true_eq_false, Bool.false_eq_true, reduceIte, Classical.not_not, Bool.and_eq_true, decide_eq_true_eq]
              repeat (first | rw [if_pos (by omega)] | rw [if_neg (by omega)])
              all_goals first | rfl | (exfalso; omega)
            rw [hI, firstF_here (by omega) hf (by omega)]
          | false =>
            have h5 := of_decide_eq_false h5
            refine JL_run 4 [] [30, 3, 4, 10, 9, 8, 0] 1 ⟨[(30, vB (decide ((1073741824 : Int) < (s.at i).version))), (3, vI ((i : Nat) : Int)), (4, .p 0 0), (10, vI ((i : Nat) : Int)), (9, vI ((s.n : Nat) : Int)), (8, .v (.slice s.A s.n s.c)), (0, .v (.slice s.A s.n s.c))], [⟨75, [vS (s.at i).name, vS (s.at i).value, vI (s.at i).version]⟩]⟩ [] [] (by kernel_rfl) on wn ?_
            refine l_nil (q_then_normal ?_)
            cases h6 : decide ((1073741824 : Int) < (s.at i).version) with
            | true =>
              have h6 := of_decide_eq_true h6
              refine c_if true rfl ?_
              refine c_seq ?_
              refine c_region ?_
              refine JL_run 1 [] [2] 0 ⟨[(2, vI 2)], []⟩ [] [] (by kernel_rfl) on wn ?_
              refine l_nil (q_then_normal ?_)
              refine c_ret ?_
              refine q_then_ret (q_block_ret (q_then_ret (q_then_ret (q_block_ret (q_then_ret (q_ret (.inl rfl) [vI 2] rfl (fun bs w hS => ?_)))))))
              refine ⟨?_, hS.kp⟩
              simp only [retOf, den, List.map_cons, List.map_nil]
              have hf : pairF s.xs i = 2 := by
                have hat : ∀ q, s.xs.getD q default = s.at q := fun _ => rfl
                unfold pairF
                simp only [hat]
                try simp only [h1, h2, h3, h4, h5, h6, emp_size, ne_eq, not_true_eq_false, not_false_eq_true, true_or, or_true, false_or, or_false, and_true, true_and, and_false, false_and, and_self, or_self, if_true, if_false, Bool.true_eq_false, Bool.false_eq_true, reduceIte, Classical.not_not, Bool.and_eq_true, decide_eq_true_eq]
                repeat (first | rw [if_pos (by omega)] | rw [if_neg (by omega)])
                all_goals first | rfl | (exfalso; omega)
              rw [hI, firstF_here (by omega) hf (by omega)]
            | false =>
              have h6 := of_decide_eq_false h6
              refine c_if false rfl ?_
              refine c_skip ?_
              refine q_then_normal ?_
              refine c_seq ?_
              refine c_draw 13 [(0, false), (1, false), (2, false), (3, false), (4, false), (5, false), (6, false), (7, false), (8, false), (9, false), (10, false), (11, false), (12, false)] [] [] Try_mixed (by kernel_rfl) (pq_then (pq_block (pq_then (pq_then (pq_block (pq_then pq_body)))))) (List.Sublist.refl _) ?_
              refine h_quiet [] 3 [(33, vB (decide ((0 : Int) < ((i : Nat) : Int)))), (32, vB (decide ((0 : Int) < ((i : Nat) : Int)))), (31, vI ((i : Nat) : Int)), (30, vB false), (3, vI ((i : Nat) : Int)), (4, .p 0 0), (10, vI ((i : Nat) : Int)), (9, vI ((s.n : Nat) : Int)), (8, .v (.slice s.A s.n s.c)), (0, .v (.slice s.A s.n s.c))] [] [] rfl rfl (by kernel_rfl) on wn ?_
              cases h7 : decide ((0 : Int) < ((i : Nat) : Int)) with
              | true =>
                have h7 := of_decide_eq_true h7
                refine h_quiet [(6, .idx s.ad (i - 1)), (8, .ext [.string (s.at (i - 1)).name])] 10 [(43, vB (!(Op.bytesLess ((s.at (i - 1)).name).toList ((s.at i).name).toList))), (42, vB (!(Op.bytesLess ((s.at (i - 1)).name).toList ((s.at i).name).toList))), (41, vS (s.at i).name), (40, .p 0 0), (39, vS (s.at (i - 1)).name), (38, .v (.pointer (some ((s.ad.add ((i - 1) * 3)).add 0)))), (37, .v (.pointer (some (s.ad.add ((i - 1) * 3))))), (36, vI (((i : Nat) : Int) - 1)), (35, vI ((i : Nat) : Int)), (34, .v (.slice s.A s.n s.c)), (33, vB true), (32, vB true), (31, vI ((i : Nat) : Int)), (30, vB false), (3, vI ((i : Nat) : Int)), (4, .p 0 0), (10, vI ((i : Nat) : Int)), (9, vI ((s.n : Nat) : Int)), (8, .v (.slice s.A s.n s.c)), (0, .v (.slice s.A s.n s.c))] [inR (((i : Nat) : Int) - 1), s.A = some s.ad, ((i : Nat) : Int) - 1 = (((i - 1) : Nat) : Int), (i - 1) < s.n] [((s.ad.add ((i - 1) * 3)).add 0, [.string (s.at (i - 1)).name])] rfl rfl (by kernel_rfl) (oc (by unfold inR; omega) (oc (Sl.ok.own (s := s) (i := (i - 1)) oks (by omega)) (oc (by omega) (oc (by omega) on)))) (fun w hk hr => ⟨(Sl.rd.fld (s := s) (i := (i - 1)) (Sl.rd.kp hs hk) (by omega) 0 1 rfl), trivial⟩) ?_
                refine h_nil ?_
                refine l_nil (q_then_normal ?_)
                cases h8 : Op.bytesLess ((s.at (i - 1)).name).toList ((s.at i).name).toList with
                | true =>
                  refine c_if false rfl ?_
                  refine c_skip ?_
                  refine q_block_normal (q_then_normal ?_)
                  refine c_region ?_
                  refine JL_run 2 [] [10, 9, 8, 0] 0 ⟨[(10, vI (((i : Nat) : Int) + 1)), (9, vI ((s.n : Nat) : Int)), (8, .v (.slice s.A s.n s.c)), (0, .v (.slice s.A s.n s.c))], []⟩ [inR (((i : Nat) : Int) + 1)] [] (by kernel_rfl) (oc (by unfold inR; omega) on) wn ?_
                  have hf0 : pairF s.xs i = 0 := by
                    have hat : ∀ q, s.xs.getD q default = s.at q := fun _ => rfl
                    unfold pairF
                    simp only [hat]
                    try simp only [h1, h2, h3, h4, h5, h6, h7, h8, emp_size, ne_eq, not_true_eq_false, not_false_eq_true, true_or, or_true, false_or, or_false, and_true, true_and, and_false, false_and, and_self, or_self, if_true, if_false, Bool.true_eq_false, Bool.false_eq_true, reduceIte, Classical.not_not, Bool.and_eq_true, decide_eq_true_eq]
                    repeat (first | rw [if_pos (by omega)] | rw [if_neg (by omega)])
                    all_goals first | rfl | (exfalso; omega)
                  refine l_nil (q_loop (x := (i : Nat)) ((i + 1) : Nat) ⟨by omega, by rw [hI]; exact firstF_step (by omega) hf0⟩ (by omega) (s_start [10, 9, 8, 0] 0 (by kernel_rfl) rfl))
                | false =>
                  refine c_if true rfl ?_
                  refine c_seq ?_
                  refine c_region ?_
                  refine JL_run 1 [] [2] 0 ⟨[(2, vI 14)], []⟩ [] [] (by kernel_rfl) on wn ?_
                  refine l_nil (q_then_normal ?_)
                  refine c_ret ?_
                  refine q_block_ret (q_then_ret (q_then_ret (q_block_ret (q_then_ret (q_ret (.inl rfl) [vI 14] rfl (fun bs w hS => ?_))))))
                  refine ⟨?_, hS.kp⟩
                  simp only [retOf, den, List.map_cons, List.map_nil]
                  have hf : pairF s.xs i = 14 := by
                    have hat : ∀ q, s.xs.getD q default = s.at q := fun _ => rfl
                    unfold pairF
                    simp only [hat]
                    try simp only [h1, h2, h3, h4, h5, h6, h7, h8, emp_size, ne_eq, not_true_eq_false, not_false_eq_true, true_or, or_true, false_or, or_false, and_true, true_and, and_false, false_and, and_self, or_self, if_true, if_false, Bool.true_eq_false, Bool.false_eq_true, reduceIte, Classical.not_not, Bool.and_eq_true, decide_eq_true_eq]
                    repeat (first | rw [if_pos (by omega)] | rw [if_neg (by omega)])
                    all_goals first | rfl | (exfalso; omega)
                  rw [hI, firstF_here (by omega) hf (by omega)]
              | false =>
                have h7 := of_decide_eq_false h7
                refine h_quiet [] 10 [(43, vB false), (42, .v (undef)), (41, .v (undef)), (40, .v (undef)), (39, .v (undef)), (38, .v (undef)), (37, .v (undef)), (36, .v (undef)), (35, .v (undef)), (34, .v (undef)), (33, vB false), (32, vB false), (31, vI ((i : Nat) : Int)), (30, vB false), (3, vI ((i : Nat) : Int)), (4, .p 0 0), (10, vI ((i : Nat) : Int)), (9, vI ((s.n : Nat) : Int)), (8, .v (.slice s.A s.n s.c)), (0, .v (.slice s.A s.n s.c))] [] [] rfl rfl (by kernel_rfl) on wn ?_
                refine h_nil ?_
                refine l_nil (q_then_normal ?_)
                refine c_if false rfl ?_
                refine c_skip ?_
                refine q_block_normal (q_then_normal ?_)
                refine c_region ?_
                refine JL_run 2 [] [10, 9, 8, 0] 0 ⟨[(10, vI (((i : Nat) : Int) + 1)), (9, vI ((s.n : Nat) : Int)), (8, .v (.slice s.A s.n s.c)), (0, .v (.slice s.A s.n s.c))], []⟩ [inR (((i : Nat) : Int) + 1)] [] (by kernel_rfl) (oc (by unfold inR; omega) on) wn ?_
                have hf0 : pairF s.xs i = 0 := by
                  have hat : ∀ q, s.xs.getD q default = s.at q := fun _ => rfl
                  unfold pairF
                  simp only [hat]
                  try simp only [h1, h2, h3, h4, h5, h6, h7, emp_size, ne_eq, not_true_eq_false, not_false_eq_true, true_or, or_true, false_or, or_false, and_true, true_and, and_false, false_and, and_self, or_self, if_true, if_false, Bool.true_eq_false, Bool.false_eq_true, reduceIte, Classical.not_not, Bool.and_eq_true, decide_eq_true_eq]
                  repeat (first | rw [if_pos (by omega)] | rw [if_neg (by omega)])
                  all_goals first | rfl | (exfalso; omega)
                refine l_nil (q_loop (x := (i : Nat)) ((i + 1) : Nat) ⟨by omega, by rw [hI]; exact firstF_step (by omega) hf0⟩ (by omega) (s_start [10, 9, 8, 0] 0 (by kernel_rfl) rfl))
      | false =>
        refine c_if true rfl ?_
        refine c_seq ?_
        refine c_region ?_
        refine JL_run 1 [] [2] 0 ⟨[(2, vI 4)], []⟩ [] [] (by kernel_rfl) on wn ?_
        refine l_nil (q_then_normal ?_)
        refine c_ret ?_
        refine q_then_ret (q_block_ret (q_then_ret (q_then_ret (q_block_ret (q_then_ret (q_ret (.inl rfl) [vI 4] rfl (fun bs w hS => ?_)))))))
        refine ⟨?_, hS.kp⟩
        simp only [retOf, den, List.map_cons, List.map_nil]
        have hf : pairF s.xs i = 4 := by
          have hat : ∀ q, s.xs.getD q default = s.at q := fun _ => rfl
          unfold pairF
          simp only [hat]
          try simp only [h1, h2, h3, emp_size, ne_eq, not_true_eq_false, not_false_eq_true, true_or, or_true, false_or, or_false, and_true, true_and, and_false, false_and, and_self, or_self, if_true, if_false, Bool.true_eq_false, Bool.false_eq_true, reduceIte, Classical.not_not, Bool.and_eq_true, decide_eq_true_eq]
          repeat (first | rw [if_pos (by omega)] | rw [if_neg (by omega)])
          all_goals first | rfl | (exfalso; omega)
        rw [hI, firstF_here (by omega) hf (by omega)]
    | false =>
      have h2 := of_decide_eq_false h2
      refine c_if false rfl ?_
      refine c_exit ?_
      refine q_then_exit (q_then_exit (q_block_hit (q_then_normal ?_)))
      refine c_seq ?_
      refine c_region ?_
      refine JL_run 1 [] [2] 0 ⟨[(2, vI 0)], []⟩ [] [] (by kernel_rfl) on wn ?_
      refine l_nil (q_then_normal ?_)
      refine c_ret ?_
      refine q_ret (.inl rfl) [vI 0] rfl (fun bs w hS => ?_)
      refine ⟨?_, hS.kp⟩
      simp only [retOf, den, List.map_cons, List.map_nil]
      rw [hI, firstF_end (by omega)]

theorem ref_PairsFault {B : Nat → Prop} (s : Sl DPair) (w : World) (hs : s.rd B w) : Calls Try.prog 26 #[.slice s.A s.n s.c] w fun e w' => e = .returned (.int .i64 (mPairs s.xs)) ∧ Kp [] w w' := by
  have oks := Sl.rd.ok hs
  have ncs := Sl.ok.nc oks
  have hns : s.n = s.xs.length := rfl
  refine calls_J0 50 Try.func26 rfl rfl [.slice s.A s.n s.c] rfl ?_
  refine c_seq ?_
  refine c_region ?_
  refine JL_run 1 [] [0] 0 ⟨[(0, .v (.slice s.A s.n s.c))], []⟩ [] [] (by kernel_rfl) on wn ?_
  refine l_nil (q_then_normal ?_)
  refine c_seq ?_
  refine c_seq ?_
  refine c_region ?_
  refine JL_run 3 [] [6, 0] 0 ⟨[(6, vB (decide ((5 : Int) < ((s.n : Nat) : Int)))), (0, .v (.slice s.A s.n s.c))], []⟩ [] [] (by kernel_rfl) on wn ?_
  refine l_nil (q_then_normal ?_)
  cases h1 : decide ((5 : Int) < ((s.n : Nat) : Int)) with
  | true =>
    have h1 := of_decide_eq_true h1
    refine c_if true rfl ?_
    refine c_seq ?_
    refine c_region ?_
    refine JL_run 1 [] [2] 0 ⟨[(2, vI 1)], []⟩ [] [] (by kernel_rfl) on wn ?_
    refine l_nil (q_then_normal ?_)
    refine c_ret ?_
    refine q_then_ret (q_ret (.inl rfl) [vI 1] rfl (fun bs w hS => ?_))
    refine ⟨?_, hS.kp⟩
    simp only [retOf, den, List.map_cons, List.map_nil]
    have hm : mPairs s.xs = 1 := by
      unfold mPairs; rw [if_pos (by omega)]
    rw [hm]
  | false =>
    have h1 := of_decide_eq_false h1
    refine c_if false rfl ?_
    refine c_skip ?_
    refine q_then_normal ?_
    refine c_seq ?_
    refine c_seq ?_
    refine c_region ?_
    refine JL_run 1 [] [3, 0] 0 ⟨[(3, vI 0), (0, .v (.slice s.A s.n s.c))], []⟩ [] [] (by kernel_rfl) on wn ?_
    refine l_nil (q_then_normal ?_)
    refine c_block ?_
    refine c_loop (σ := Nat) (fun i => i ≤ s.n ∧ mPairs s.xs = firstF (pairF s.xs) (s.n - i) i) (fun i => s.n - i) (fun i => []) (fun i => ⟨[(3, vI ((i : Nat) : Int)), (0, .v (.slice s.A s.n s.c))], []⟩) 0 ⟨Nat.zero_le _, by unfold mPairs; rw [if_neg (by omega)]⟩ (s_start [3, 0] 0 (by kernel_rfl) rfl) ?_
    rintro i ⟨hi, hI⟩
    have hlt := hi
    refine c_seq ?_
    refine c_seq ?_
    refine c_region ?_
    refine JL_run 4 [] [10, 3, 0] 0 ⟨[(10, vB (decide (((i : Nat) : Int) < ((s.n : Nat) : Int)))), (3, vI ((i : Nat) : Int)), (0, .v (.slice s.A s.n s.c))], []⟩ [] [] (by kernel_rfl) on wn ?_
    refine l_nil (q_then_normal ?_)
    cases h2 : decide (((i : Nat) : Int) < ((s.n : Nat) : Int)) with
    | true =>
      have h2 := of_decide_eq_true h2
      refine c_if true rfl ?_
      refine c_skip ?_
      refine q_then_normal ?_
      refine c_seq ?_
      refine c_block ?_
      refine c_seq ?_
      refine c_seq ?_
      refine c_region ?_
      refine JL_run 5 [(2, .idx s.ad i), (4, .ext [.string (s.at i).name])] [17, 3, 0] 0 ⟨[(17, vS (s.at i).name), (3, vI ((i : Nat) : Int)), (0, .v (.slice s.A s.n s.c))], []⟩ [s.A = some s.ad, ((i : Nat) : Int) = ((i : Nat) : Int), i < s.n] [((s.ad.add (i * 3)).add 0, [.string (s.at i).name])] (by kernel_rfl) (oc (Sl.ok.own (s := s) (i := i) oks (by omega)) (oc rfl (oc (by omega) on))) (fun w hk hr => ⟨(Sl.rd.fld (s := s) (i := i) (Sl.rd.kp hs hk) (by omega) 0 1 rfl), trivial⟩) ?_
      refine l_pure 48 [] [vS (s.at i).name] (.bool (mName (s.at i).name)) Try.call48 rfl rfl rfl rfl (fun bs w hS => ref_NameMay _ w (And.left (Sl.ok.at (s := s) (i := i) oks (by omega)))) ?_
      refine JL_run 1 [] [19, 3, 0] 0 ⟨[(19, vB (!(mName (s.at i).name))), (3, vI ((i : Nat) : Int)), (0, .v (.slice s.A s.n s.c))], []⟩ [] [] (by kernel_rfl) on wn ?_
      refine l_nil (q_then_normal ?_)
      cases h3 : mName (s.at i).name with
      | true =>
        refine c_if false rfl ?_
        refine c_skip ?_
        refine q_then_normal ?_
        refine c_seq ?_
        refine c_seq ?_
        refine c_region ?_
        refine JL_run 7 [(2, .idx s.ad i), (4, .ext [.string (s.at i).value])] [26, 3, 0] 0 ⟨[(26, vB (decide ((12 : Int) < ((s.at i).value.size : Int)))), (3, vI ((i : Nat) : Int)), (0, .v (.slice s.A s.n s.c))], []⟩ [s.A = some s.ad, ((i : Nat) : Int) = ((i : Nat) : Int), i < s.n] [((s.ad.add (i * 3)).add 1, [.string (s.at i).value])] (by kernel_rfl) (oc (Sl.ok.own (s := s) (i := i) oks (by omega)) (oc rfl (oc (by omega) on))) (fun w hk hr => ⟨(Sl.rd.fld (s := s) (i := i) (Sl.rd.kp hs hk) (by omega) 1 1 rfl), trivial⟩) ?_
        refine l_nil (q_then_normal ?_)
        cases h4 : decide ((12 : Int) < ((s.at i).value.size : Int)) with
        | true =>
          have h4 := of_decide_eq_true h4
          refine c_if true rfl ?_
          refine c_seq ?_
          refine c_region ?_
          refine JL_run 1 [] [2] 0 ⟨[(2, vI 1)], []⟩ [] [] (by kernel_rfl) on wn ?_
          refine l_nil (q_then_normal ?_)
          refine c_ret ?_
          refine q_then_ret (q_block_ret (q_then_ret (q_then_ret (q_block_ret (q_then_ret (q_ret (.inl rfl) [vI 1] rfl (fun bs w hS => ?_)))))))
          refine ⟨?_, hS.kp⟩
          simp only [retOf, den, List.map_cons, List.map_nil]
          have hf : pairF s.xs i = 1 := by
            have hat : ∀ q, s.xs.getD q default = s.at q := fun _ => rfl
            unfold pairF
            simp only [hat]
            try simp only [h1, h2, h3, h4, emp_size, ne_eq, not_true_eq_false, not_false_eq_true, true_or, or_true, false_or, or_false, and_true, true_and, and_false, false_and, and_self, or_self, if_true, if_false, Bool.true_eq_false, Bool.false_eq_true, reduceIte, Classical.not_not, Bool.and_eq_true, decide_eq_true_eq]
            repeat (first | rw [if_pos (by omega)] | rw [if_neg (by omega)])
            all_goals first | rfl | (exfalso; omega)
          rw [hI, firstF_here (by omega) hf (by omega)]
        | false =>
          have h4 := of_decide_eq_false h4
          refine c_if false rfl ?_
          refine c_skip ?_
          refine q_then_normal ?_
          refine c_seq ?_
          refine c_seq ?_
          refine c_region ?_
          refine JL_run 5 [(2, .idx s.ad i), (4, .ext [.int .i64 (s.at i).version])] [31, 3, 0] 0 ⟨[(31, vI (s.at i).version), (3, vI ((i : Nat) : Int)), (0, .v (.slice s.A s.n s.c))], []⟩ [s.A = some s.ad, ((i : Nat) : Int) = ((i : Nat) : Int), i < s.n] [((s.ad.add (i * 3)).add 2, [.int .i64 (s.at i).version])] (by kernel_rfl) (oc (Sl.ok.own (s := s) (i := i) oks (by omega)) (oc rfl (oc (by omega) on))) (fun w hk hr => ⟨(Sl.rd.fld (s := s) (i := i) (Sl.rd.kp hs hk) (by omega) 2 1 rfl), trivial⟩) ?_
          refine l_pure 47 [] [vI (s.at i).version, vI 1, vI 1073741824] (.bool (inB (s.at i).version 1 1073741824)) Try.call47 rfl rfl rfl rfl (fun bs w hS => ref_In _ _ _ w) ?_
          refine JL_run 1 [] [33, 3, 0] 0 ⟨[(33, vB (!(inB (s.at i).version 1 1073741824))), (3, vI ((i : Nat) : Int)), (0, .v (.slice s.A s.n s.c))], []⟩ [] [] (by kernel_rfl) on wn ?_
          refine l_nil (q_then_normal ?_)
          cases h5 : inB (s.at i).version 1 1073741824 with
          | true =>
            simp only [inB, Bool.and_eq_true, Bool.and_eq_false_iff, decide_eq_true_eq, decide_eq_false_iff_not] at h5
            refine c_if false rfl ?_
            refine c_skip ?_
            refine q_then_normal ?_
            refine c_seq ?_
            refine c_draw 16 [(0, false), (1, false), (2, false), (3, false), (4, false), (5, false), (6, false), (7, false), (8, false), (9, false), (10, false), (11, false), (12, false), (13, false), (14, false), (15, false)] [] [] Try_mixed (by kernel_rfl) (pq_then (pq_block (pq_then (pq_then (pq_block (pq_then pq_body)))))) (List.Sublist.refl _) ?_
            refine h_quiet [] 3 [(36, vB (decide ((0 : Int) < ((i : Nat) : Int)))), (35, vB (decide ((0 : Int) < ((i : Nat) : Int)))), (34, vI ((i : Nat) : Int)), (33, vB false), (3, vI ((i : Nat) : Int)), (0, .v (.slice s.A s.n s.c))] [] [] rfl rfl (by kernel_rfl) on wn ?_
            cases h6 : decide ((0 : Int) < ((i : Nat) : Int)) with
            | true =>
              have h6 := of_decide_eq_true h6
              refine h_quiet [(5, .idx s.ad i), (7, .ext [.string (s.at i).name]), (11, .idx s.ad (i - 1)), (13, .ext [.string (s.at (i - 1)).name])] 13 [(49, vB (Op.bytesLess ((s.at i).name).toList ((s.at (i - 1)).name).toList || decide ((s.at i).name = (s.at (i - 1)).name))), (48, vB (Op.bytesLess ((s.at i).name).toList ((s.at (i - 1)).name).toList || decide ((s.at i).name = (s.at (i - 1)).name))), (47, vS (s.at (i - 1)).name), (46, .v (.pointer (some ((s.ad.add ((i - 1) * 3)).add 0)))), (45, .v (.pointer (some (s.ad.add ((i - 1) * 3))))), (44, vI (((i : Nat) : Int) - 1)), (43, vI ((i : Nat) : Int)), (42, .v (.slice s.A s.n s.c)), (41, vS (s.at i).name), (40, .v (.pointer (some ((s.ad.add (i * 3)).add 0)))), (39, .v (.pointer (some (s.ad.add (i * 3))))), (38, vI ((i : Nat) : Int)), (37, .v (.slice s.A s.n s.c)), (36, vB true), (35, vB true), (34, vI ((i : Nat) : Int)), (33, vB false), (3, vI ((i : Nat) : Int)), (0, .v (.slice s.A s.n s.c))] [s.A = some s.ad, ((i : Nat) : Int) = ((i : Nat) : Int), i < s.n, inR (((i : Nat) : Int) - 1), s.A = some s.ad, ((i : Nat) : Int) - 1 = (((i - 1) : Nat) : Int), (i - 1) < s.n] [((s.ad.add (i * 3)).add 0, [.string (s.at i).name]), ((s.ad.add ((i - 1) * 3)).add 0, [.string (s.at (i - 1)).name])] rfl rfl (by kernel_rfl) (oc (Sl.ok.own (s := s) (i := i) oks (by omega)) (oc rfl (oc (by omega) (oc (by unfold inR; omega) (oc (Sl.ok.own (s := s) (i := (i - 1)) oks (by omega)) (oc (by omega) (oc (by omega) on))))))) (fun w hk hr => ⟨(Sl.rd.fld (s := s) (i := i) (Sl.rd.kp hs hk) (by omega) 0 1 rfl), ⟨(Sl.rd.fld (s := s) (i := (i - 1)) (Sl.rd.kp hs hk) (by omega) 0 1 rfl), trivial⟩⟩) ?_
              refine h_nil ?_
              refine l_nil (q_then_normal ?_)
              cases h7 : Op.bytesLess ((s.at i).name).toList ((s.at (i - 1)).name).toList || decide ((s.at i).name = (s.at (i - 1)).name) with
              | true =>
                rw [bytes_total] at h7
                simp only [Bool.not_eq_true', Bool.not_eq_false', Bool.not_eq_true, Bool.not_eq_false] at h7
                refine c_if true rfl ?_
                refine c_seq ?_
                refine c_region ?_
                refine JL_run 1 [] [2] 0 ⟨[(2, vI 14)], []⟩ [] [] (by kernel_rfl) on wn ?_
                refine l_nil (q_then_normal ?_)
                refine c_ret ?_
                refine q_block_ret (q_then_ret (q_then_ret (q_block_ret (q_then_ret (q_ret (.inl rfl) [vI 14] rfl (fun bs w hS => ?_))))))
                refine ⟨?_, hS.kp⟩
                simp only [retOf, den, List.map_cons, List.map_nil]
                have hf : pairF s.xs i = 14 := by
                  have hat : ∀ q, s.xs.getD q default = s.at q := fun _ => rfl
                  unfold pairF
                  simp only [hat]
                  try simp only [h1, h2, h3, h4, h5, h6, h7, emp_size, ne_eq, not_true_eq_false, not_false_eq_true, true_or, or_true, false_or, or_false, and_true, true_and, and_false, false_and, and_self, or_self, if_true, if_false, Bool.true_eq_false, Bool.false_eq_true, reduceIte, Classical.not_not, Bool.and_eq_true, decide_eq_true_eq]
                  repeat (first | rw [if_pos (by omega)] | rw [if_neg (by omega)])
                  all_goals first | rfl | (exfalso; omega)
                rw [hI, firstF_here (by omega) hf (by omega)]
              | false =>
                rw [bytes_total] at h7
                simp only [Bool.not_eq_true', Bool.not_eq_false', Bool.not_eq_true, Bool.not_eq_false] at h7
                refine c_if false rfl ?_
                refine c_skip ?_
                refine q_block_normal (q_then_normal ?_)
                refine c_region ?_
                refine JL_run 3 [] [3, 0] 0 ⟨[(3, vI (((i : Nat) : Int) + 1)), (0, .v (.slice s.A s.n s.c))], []⟩ [inR (((i : Nat) : Int) + 1)] [] (by kernel_rfl) (oc (by unfold inR; omega) on) wn ?_
                have hf0 : pairF s.xs i = 0 := by
                  have hat : ∀ q, s.xs.getD q default = s.at q := fun _ => rfl
                  unfold pairF
                  simp only [hat]
                  try simp only [h1, h2, h3, h4, h5, h6, h7, emp_size, ne_eq, not_true_eq_false, not_false_eq_true, true_or, or_true, false_or, or_false, and_true, true_and, and_false, false_and, and_self, or_self, if_true, if_false, Bool.true_eq_false, Bool.false_eq_true, reduceIte, Classical.not_not, Bool.and_eq_true, decide_eq_true_eq]
                  repeat (first | rw [if_pos (by omega)] | rw [if_neg (by omega)])
                  all_goals first | rfl | (exfalso; omega)
                refine l_nil (q_loop (x := (i : Nat)) ((i + 1) : Nat) ⟨by omega, by rw [hI]; exact firstF_step (by omega) hf0⟩ (by omega) (s_start [3, 0] 0 (by kernel_rfl) rfl))
            | false =>
              have h6 := of_decide_eq_false h6
              refine h_quiet [] 13 [(49, vB false), (48, .v (undef)), (47, .v (undef)), (46, .v (undef)), (45, .v (undef)), (44, .v (undef)), (43, .v (undef)), (42, .v (undef)), (41, .v (undef)), (40, .v (undef)), (39, .v (undef)), (38, .v (undef)), (37, .v (undef)), (36, vB false), (35, vB false), (34, vI ((i : Nat) : Int)), (33, vB false), (3, vI ((i : Nat) : Int)), (0, .v (.slice s.A s.n s.c))] [] [] rfl rfl (by kernel_rfl) on wn ?_
              refine h_nil ?_
              refine l_nil (q_then_normal ?_)
              refine c_if false rfl ?_
              refine c_skip ?_
              refine q_block_normal (q_then_normal ?_)
              refine c_region ?_
              refine JL_run 3 [] [3, 0] 0 ⟨[(3, vI (((i : Nat) : Int) + 1)), (0, .v (.slice s.A s.n s.c))], []⟩ [inR (((i : Nat) : Int) + 1)] [] (by kernel_rfl) (oc (by unfold inR; omega) on) wn ?_
              have hf0 : pairF s.xs i = 0 := by
                have hat : ∀ q, s.xs.getD q default = s.at q := fun _ => rfl
                unfold pairF
                simp only [hat]
                try simp only [h1, h2, h3, h4, h5, h6, emp_size, ne_eq, not_true_eq_false, not_false_eq_true, true_or, or_true, false_or, or_false, and_true, true_and, and_false, false_and, and_self, or_self, if_true, if_false, Bool.true_eq_false, Bool.false_eq_true, reduceIte, Classical.not_not, Bool.and_eq_true, decide_eq_true_eq]
                repeat (first | rw [if_pos (by omega)] | rw [if_neg (by omega)])
                all_goals first | rfl | (exfalso; omega)
              refine l_nil (q_loop (x := (i : Nat)) ((i + 1) : Nat) ⟨by omega, by rw [hI]; exact firstF_step (by omega) hf0⟩ (by omega) (s_start [3, 0] 0 (by kernel_rfl) rfl))
          | false =>
            simp only [inB, Bool.and_eq_true, Bool.and_eq_false_iff, decide_eq_true_eq, decide_eq_false_iff_not] at h5
            refine c_if true rfl ?_
            refine c_seq ?_
            refine c_region ?_
            refine JL_run 1 [] [2] 0 ⟨[(2, vI 2)], []⟩ [] [] (by kernel_rfl) on wn ?_
            refine l_nil (q_then_normal ?_)
            refine c_ret ?_
            refine q_then_ret (q_block_ret (q_then_ret (q_then_ret (q_block_ret (q_then_ret (q_ret (.inl rfl) [vI 2] rfl (fun bs w hS => ?_)))))))
            refine ⟨?_, hS.kp⟩
            simp only [retOf, den, List.map_cons, List.map_nil]
            have hf : pairF s.xs i = 2 := by
              have hat : ∀ q, s.xs.getD q default = s.at q := fun _ => rfl
              unfold pairF
              simp only [hat]
              try simp only [h1, h2, h3, h4, h5, emp_size, ne_eq, not_true_eq_false, not_false_eq_true, true_or, or_true, false_or, or_false, and_true, true_and, and_false, false_and, and_self, or_self, if_true, if_false, Bool.true_eq_false, Bool.false_eq_true, reduceIte, Classical.not_not, Bool.and_eq_true, decide_eq_true_eq]
              repeat (first | rw [if_pos (by omega)] | rw [if_neg (by omega)])
              all_goals first | rfl | (exfalso; omega)
            rw [hI, firstF_here (by omega) hf (by omega)]
      | false =>
        refine c_if true rfl ?_
        refine c_seq ?_
        refine c_region ?_
        refine JL_run 1 [] [2] 0 ⟨[(2, vI 4)], []⟩ [] [] (by kernel_rfl) on wn ?_
        refine l_nil (q_then_normal ?_)
        refine c_ret ?_
        refine q_then_ret (q_block_ret (q_then_ret (q_then_ret (q_block_ret (q_then_ret (q_ret (.inl rfl) [vI 4] rfl (fun bs w hS => ?_)))))))
        refine ⟨?_, hS.kp⟩
        simp only [retOf, den, List.map_cons, List.map_nil]
        have hf : pairF s.xs i = 4 := by
          have hat : ∀ q, s.xs.getD q default = s.at q := fun _ => rfl
          unfold pairF
          simp only [hat]
          try simp only [h1, h2, h3, emp_size, ne_eq, not_true_eq_false, not_false_eq_true, true_or, or_true, false_or, or_false, and_true, true_and, and_false, false_and, and_self, or_self, if_true, if_false, Bool.true_eq_false, Bool.false_eq_true, reduceIte, Classical.not_not, Bool.and_eq_true, decide_eq_true_eq]
          repeat (first | rw [if_pos (by omega)] | rw [if_neg (by omega)])
          all_goals first | rfl | (exfalso; omega)
        rw [hI, firstF_here (by omega) hf (by omega)]
    | false =>
      have h2 := of_decide_eq_false h2
      refine c_if false rfl ?_
      refine c_exit ?_
      refine q_then_exit (q_then_exit (q_block_hit (q_then_normal ?_)))
      refine c_seq ?_
      refine c_region ?_
      refine JL_run 1 [] [2] 0 ⟨[(2, vI 0)], []⟩ [] [] (by kernel_rfl) on wn ?_
      refine l_nil (q_then_normal ?_)
      refine c_ret ?_
      refine q_ret (.inl rfl) [vI 0] rfl (fun bs w hS => ?_)
      refine ⟨?_, hS.kp⟩
      simp only [retOf, den, List.map_cons, List.map_nil]
      rw [hI, firstF_end (by omega)]

theorem bytealg_CompareString (a b : ByteArray) (w : World) : Calls Try.prog 81 #[.string a, .string b] w fun e w' => e = .returned (.int .i64 (cmpS a b)) ∧ Kp [] w w' := by
  refine calls_J0 8 Try.func81 rfl rfl [.string a, .string b] rfl ?_
  refine c_seq ?_
  refine c_region ?_
  refine JL_run 1 [] [0, 1] 0 ⟨[(0, vS a), (1, vS b)], []⟩ [] [] (by kernel_rfl) on wn ?_
  refine l_nil (q_then_normal ?_)
  refine c_seq ?_
  refine c_region ?_
  refine JL_run 2 [] [6, 5] 0 ⟨[(6, vS b), (5, vS a)], []⟩ [] [] (by kernel_rfl) on wn ?_
  refine l_extern 82 [vS a, vS b] (.int .i64 (cmpS a b)) (fun bs w => by rw [run_callFunc_extern Try.func82 (by kernel_rfl) (by kernel_rfl) (by kernel_rfl) (e := Extern.BytealgCompare.compare) (by kernel_rfl)]; show ((Extern.BytealgCompare.compare #[.string a, .string b]).run _ w).andThen _ = _; rw [Lib.run_compareString]; rfl) rfl rfl rfl rfl ?_
  refine JL_run 1 [] [4] 0 ⟨[(4, vI (cmpS a b))], []⟩ [] [] (by kernel_rfl) on wn ?_
  refine l_nil (q_then_normal ?_)
  refine c_ret ?_
  refine q_ret (.inl rfl) [vI (cmpS a b)] rfl (fun bs w hS => ?_)
  exact ⟨rfl, hS.kp⟩

theorem strings_Compare (a b : ByteArray) (w : World) : Calls Try.prog 77 #[.string a, .string b] w fun e w' => e = .returned (.int .i64 (cmpS a b)) ∧ Kp [] w w' := by
  refine calls_J0 8 Try.func77 rfl rfl [.string a, .string b] rfl ?_
  refine c_seq ?_
  refine c_region ?_
  refine JL_run 1 [] [0, 1] 0 ⟨[(0, vS a), (1, vS b)], []⟩ [] [] (by kernel_rfl) on wn ?_
  refine l_nil (q_then_normal ?_)
  refine c_seq ?_
  refine c_region ?_
  refine JL_run 2 [] [6, 5] 0 ⟨[(6, vS b), (5, vS a)], []⟩ [] [] (by kernel_rfl) on wn ?_
  refine l_pure 81 [] [vS a, vS b] (.int .i64 (cmpS a b)) Try.call81 rfl rfl rfl rfl (fun bs w hS => bytealg_CompareString a b w) ?_
  refine JL_run 1 [] [4] 0 ⟨[(4, vI (cmpS a b))], []⟩ [] [] (by kernel_rfl) on wn ?_
  refine l_nil (q_then_normal ?_)
  refine c_ret ?_
  refine q_ret (.inl rfl) [vI (cmpS a b)] rfl (fun bs w hS => ?_)
  exact ⟨rfl, hS.kp⟩

theorem pair_find_1 (x : DPair) (t : ByteArray) (w : World) : Calls Try.prog 76 #[.agg #[.string x.name, .string x.value, .int .i64 x.version], .string t] w fun e w' => e = .returned (.int .i64 (cmpS x.name t)) ∧ Kp [] w w' := by
  refine calls_J0 9 Try.func76 rfl rfl [.agg #[.string x.name, .string x.value, .int .i64 x.version], .string t] rfl ?_
  refine c_seq ?_
  refine c_region ?_
  refine JL_run 2 [] [2, 1] 1 ⟨[(2, .p 0 0), (1, vS t)], [⟨75, [vS x.name, vS x.value, vI x.version]⟩]⟩ [] [] (by kernel_rfl) on wn ?_
  refine l_nil (q_then_normal ?_)
  refine c_seq ?_
  refine c_region ?_
  refine JL_run 3 [] [7, 6] 0 ⟨[(7, vS t), (6, vS x.name)], []⟩ [] [] (by kernel_rfl) on wn ?_
  refine l_pure 77 [] [vS x.name, vS t] (.int .i64 (cmpS x.name t)) Try.call77 rfl rfl rfl rfl (fun bs w hS => strings_Compare x.name t w) ?_
  refine JL_run 1 [] [4] 0 ⟨[(4, vI (cmpS x.name t))], []⟩ [] [] (by kernel_rfl) on wn ?_
  refine l_nil (q_then_normal ?_)
  refine c_ret ?_
  refine q_ret (.inl rfl) [vI (cmpS x.name t)] rfl (fun bs w hS => ?_)
  exact ⟨rfl, hS.kp⟩

theorem bs_pair_find_1 {B : Nat → Prop} (s : Sl DPair) (t : ByteArray) (w : World) (hs : s.rd B w) (hn : s.n ≤ 1048576) : Calls Try.prog 75 #[.slice s.A s.n s.c, .string t, .func (.func 76) #[] #[]] w fun e w' => e = .returned (.tuple #[.int .i64 (mBS (fun x : DPair => cmpS x.name t) s.xs : Nat), .bool (mBSf (fun x : DPair => cmpS x.name t) s.xs)]) ∧ Kp [] w w' := by
  have oks := Sl.rd.ok hs
  have ncs := Sl.ok.nc oks
  have hns : s.n = s.xs.length := rfl
  refine calls_J 49 [] Try.func75 rfl rfl [] [] [] [.v (.slice s.A s.n s.c), vS t, .fn 76 []] [.slice s.A s.n s.c, .string t, .func (.func 76) #[] #[]] rfl rfl (WS.start w) ?_
  refine c_seq ?_
  refine c_region ?_
  refine JL_run 2 [] [0, 1, 2] 0 ⟨[(0, .v (.slice s.A s.n s.c)), (1, vS t), (2, .fn 76 [])], []⟩ [] [] (by kernel_rfl) on wn ?_
  refine l_nil (q_then_normal ?_)
  refine c_seq ?_
  refine c_region ?_
  refine JL_run 3 [] [8, 0, 1, 2] 0 ⟨[(8, vI ((s.n : Nat) : Int)), (0, .v (.slice s.A s.n s.c)), (1, vS t), (2, .fn 76 [])], []⟩ [] [] (by kernel_rfl) on wn ?_
  refine l_nil (q_then_normal ?_)
  refine c_seq ?_
  refine c_region ?_
  refine JL_run 3 [] [10, 9, 8, 0, 1, 2] 0 ⟨[(10, vI ((s.n : Nat) : Int)), (9, vI 0), (8, vI ((s.n : Nat) : Int)), (0, .v (.slice s.A s.n s.c)), (1, vS t), (2, .fn 76 [])], []⟩ [] [] (by kernel_rfl) on wn ?_
  refine l_nil (q_then_normal ?_)
  refine c_seq ?_
  refine c_block ?_
  refine c_loop (σ := Nat × Nat × Nat) (fun ⟨i, j, f⟩ => i ≤ j ∧ j ≤ s.n ∧ j - i ≤ f ∧ mBS (fun x : DPair => cmpS x.name t) s.xs = bsGo (fun j => decide (cmpS (s.at j).name t < 0)) f i j) (fun ⟨i, j, f⟩ => f) (fun ⟨i, j, f⟩ => []) (fun ⟨i, j, f⟩ => ⟨[(10, vI ((j : Nat) : Int)), (9, vI ((i : Nat) : Int)), (8, vI ((s.n : Nat) : Int)), (0, .v (.slice s.A s.n s.c)), (1, vS t), (2, .fn 76 [])], []⟩) ⟨0, s.n, s.n⟩ ⟨Nat.zero_le _, Nat.le_refl _, Nat.le_refl _, rfl⟩ (s_start [10, 9, 8, 0, 1, 2] 0 (by kernel_rfl) rfl) ?_
  rintro ⟨i, j, f⟩ ⟨h1, h2, h3, hI⟩
  have hdiv : ((i : Int) + (j : Int)) / 2 = (((i + j) / 2 : Nat) : Int) := by omega
  refine c_seq ?_
  refine c_seq ?_
  refine c_region ?_
  refine JL_run 3 [] [17, 10, 9, 8, 0, 1, 2] 0 ⟨[(17, vB (decide (((i : Nat) : Int) < ((j : Nat) : Int)))), (10, vI ((j : Nat) : Int)), (9, vI ((i : Nat) : Int)), (8, vI ((s.n : Nat) : Int)), (0, .v (.slice s.A s.n s.c)), (1, vS t), (2, .fn 76 [])], []⟩ [] [] (by kernel_rfl) on wn ?_
  refine l_nil (q_then_normal ?_)
  cases h1 : decide (((i : Nat) : Int) < ((j : Nat) : Int)) with
  | true =>
    have h1 := of_decide_eq_true h1
    refine c_if true rfl ?_
    refine c_skip ?_
    refine q_then_normal ?_
    refine c_block ?_
    refine c_seq ?_
    refine c_region ?_
    refine JL_run 7 [(3, .val (.int .u64 (((i : Nat) : Int) + ((j : Nat) : Int)))), (4, .val (.int .u64 ((((i : Nat) : Int) + ((j : Nat) : Int)) / 2))), (5, .val (.int .i64 ((((i : Nat) : Int) + ((j : Nat) : Int)) / 2)))] [11, 10, 9, 8, 0, 1, 2] 0 ⟨[(11, vI ((((i : Nat) : Int) + ((j : Nat) : Int)) / 2)), (10, vI ((j : Nat) : Int)), (9, vI ((i : Nat) : Int)), (8, vI ((s.n : Nat) : Int)), (0, .v (.slice s.A s.n s.c)), (1, vS t), (2, .fn 76 [])], []⟩ [inR (((i : Nat) : Int) + ((j : Nat) : Int)), ∀ w, (convert 3 115 (.int .i64 (((i : Nat) : Int) + ((j : Nat) : Int))) : Sem Value).run Try.prog w = .ok (.int .u64 (((i : Nat) : Int) + ((j : Nat) : Int))) w, ∀ w, (do eqGuard .shr 115 (.tmp 21) (.const (.int .u64 1)) (.int .u64 (((i : Nat) : Int) + ((j : Nat) : Int))) (.int .u64 1); binOp .shr 115 (.int .u64 (((i : Nat) : Int) + ((j : Nat) : Int))) (.int .u64 1) : Sem Value).run Try.prog w = .ok (.int .u64 ((((i : Nat) : Int) + ((j : Nat) : Int)) / 2)) w, ∀ w, (convert 115 3 (.int .u64 ((((i : Nat) : Int) + ((j : Nat) : Int)) / 2)) : Sem Value).run Try.prog w = .ok (.int .i64 ((((i : Nat) : Int) + ((j : Nat) : Int)) / 2)) w] [] (by kernel_rfl) (oc (by unfold inR; omega) (oc (conv_i64_u64 Try.underlying3 Try.underlying115 (by omega) (by omega)) (oc shr_u64 (oc (conv_u64_i64 Try.underlying115 Try.underlying3 (by omega) (by omega)) on)))) wn ?_
    refine l_nil (q_then_normal ?_)
    refine c_seq ?_
    refine c_region ?_
    refine JL_run 6 [(3, .idx s.ad ((((i : Nat) : Int) + ((j : Nat) : Int)) / 2).toNat), (4, .ext [.string (s.at ((((i : Nat) : Int) + ((j : Nat) : Int)) / 2).toNat).name, .string (s.at ((((i : Nat) : Int) + ((j : Nat) : Int)) / 2).toNat).value, .int .i64 (s.at ((((i : Nat) : Int) + ((j : Nat) : Int)) / 2).toNat).version])] [29, 28, 24, 11, 10, 9, 8, 0, 1, 2] 0 ⟨[(29, vS t), (28, .v (.agg #[.string (s.at ((((i : Nat) : Int) + ((j : Nat) : Int)) / 2).toNat).name, .string (s.at ((((i : Nat) : Int) + ((j : Nat) : Int)) / 2).toNat).value, .int .i64 (s.at ((((i : Nat) : Int) + ((j : Nat) : Int)) / 2).toNat).version])), (24, .fn 76 []), (11, vI ((((i : Nat) : Int) + ((j : Nat) : Int)) / 2)), (10, vI ((j : Nat) : Int)), (9, vI ((i : Nat) : Int)), (8, vI ((s.n : Nat) : Int)), (0, .v (.slice s.A s.n s.c)), (1, vS t), (2, .fn 76 [])], []⟩ [s.A = some s.ad, (((i : Nat) : Int) + ((j : Nat) : Int)) / 2 = ((((((i : Nat) : Int) + ((j : Nat) : Int)) / 2).toNat : Nat) : Int), ((((i : Nat) : Int) + ((j : Nat) : Int)) / 2).toNat < s.n] [(s.ad.add (((((i : Nat) : Int) + ((j : Nat) : Int)) / 2).toNat * 3), [.string (s.at ((((i : Nat) : Int) + ((j : Nat) : Int)) / 2).toNat).name, .string (s.at ((((i : Nat) : Int) + ((j : Nat) : Int)) / 2).toNat).value, .int .i64 (s.at ((((i : Nat) : Int) + ((j : Nat) : Int)) / 2).toNat).version])] (by kernel_rfl) (oc (Sl.ok.own (s := s) (i := ((((i : Nat) : Int) + ((j : Nat) : Int)) / 2).toNat) oks (by omega)) (oc (by omega) (oc (by omega) on))) (fun w hk hr => ⟨(Sl.rd.all (s := s) (i := ((((i : Nat) : Int) + ((j : Nat) : Int)) / 2).toNat) (Sl.rd.kp hs hk) (by omega) rfl), trivial⟩) ?_
    refine l_pure 76 [] [.v (.agg #[.string (s.at ((((i : Nat) : Int) + ((j : Nat) : Int)) / 2).toNat).name, .string (s.at ((((i : Nat) : Int) + ((j : Nat) : Int)) / 2).toNat).value, .int .i64 (s.at ((((i : Nat) : Int) + ((j : Nat) : Int)) / 2).toNat).version]), vS t] (.int .i64 (cmpS (s.at ((((i : Nat) : Int) + ((j : Nat) : Int)) / 2).toNat).name t)) Try.call76 rfl rfl rfl rfl (fun bs w hS => pair_find_1 (s.at ((((i : Nat) : Int) + ((j : Nat) : Int)) / 2).toNat) t w) ?_
    refine JL_run 1 [] [31, 11, 10, 9, 8, 0, 1, 2] 0 ⟨[(31, vB (decide (cmpS (s.at ((((i : Nat) : Int) + ((j : Nat) : Int)) / 2).toNat).name t < 0))), (11, vI ((((i : Nat) : Int) + ((j : Nat) : Int)) / 2)), (10, vI ((j : Nat) : Int)), (9, vI ((i : Nat) : Int)), (8, vI ((s.n : Nat) : Int)), (0, .v (.slice s.A s.n s.c)), (1, vS t), (2, .fn 76 [])], []⟩ [] [] (by kernel_rfl) on wn ?_
    refine l_nil (q_then_normal ?_)
    cases h2 : decide (cmpS (s.at ((((i : Nat) : Int) + ((j : Nat) : Int)) / 2).toNat).name t < 0) with
    | true =>
      have h2 := of_decide_eq_true h2
      refine c_if true rfl ?_
      refine c_region ?_
      refine JL_run 3 [] [9, 10, 8, 0, 1, 2] 0 ⟨[(9, vI (((((i : Nat) : Int) + ((j : Nat) : Int)) / 2) + 1)), (10, vI ((j : Nat) : Int)), (8, vI ((s.n : Nat) : Int)), (0, .v (.slice s.A s.n s.c)), (1, vS t), (2, .fn 76 [])], []⟩ [inR (((((i : Nat) : Int) + ((j : Nat) : Int)) / 2) + 1)] [] (by kernel_rfl) (oc (by unfold inR; omega) on) wn ?_
      have hf1 : f = (f - 1) + 1 := by omega
      rw [hf1] at hI
      have hI2 := hI.trans (bsGo_up (by omega) (decide_eq_true (by assumption)))
      refine l_nil (q_block_normal (q_loop (x := (⟨i, j, f⟩ : Nat × Nat × Nat)) (⟨(i + j) / 2 + 1, j, f - 1⟩ : Nat × Nat × Nat) ⟨by omega, by omega, by omega, hI2⟩ (by show f - 1 < f; omega) (s_start [10, 9, 8, 0, 1, 2] 0 (by kernel_rfl) rfl)))
    | false =>
      have h2 := of_decide_eq_false h2
      refine c_if false rfl ?_
      refine c_region ?_
      refine JL_run 2 [] [10, 9, 8, 0, 1, 2] 0 ⟨[(10, vI ((((i : Nat) : Int) + ((j : Nat) : Int)) / 2)), (9, vI ((i : Nat) : Int)), (8, vI ((s.n : Nat) : Int)), (0, .v (.slice s.A s.n s.c)), (1, vS t), (2, .fn 76 [])], []⟩ [] [] (by kernel_rfl) on wn ?_
      have hf1 : f = (f - 1) + 1 := by omega
      rw [hf1] at hI
      have hI2 := hI.trans (bsGo_down (by omega) (decide_eq_false (by assumption)))
      refine l_nil (q_block_normal (q_loop (x := (⟨i, j, f⟩ : Nat × Nat × Nat)) (⟨i, (i + j) / 2, f - 1⟩ : Nat × Nat × Nat) ⟨by omega, by omega, by omega, hI2⟩ (by show f - 1 < f; omega) (s_start [10, 9, 8, 0, 1, 2] 0 (by kernel_rfl) rfl)))
  | false =>
    have h1 := of_decide_eq_false h1
    refine c_if false rfl ?_
    refine c_exit ?_
    refine q_then_exit (q_then_exit (q_block_hit (q_then_normal ?_)))
    refine c_seq ?_
    refine c_region ?_
    refine JL_run 5 [] [39, 35, 9, 0, 1, 2] 0 ⟨[(39, vB (decide (((i : Nat) : Int) < ((s.n : Nat) : Int)))), (35, vI ((i : Nat) : Int)), (9, vI ((i : Nat) : Int)), (0, .v (.slice s.A s.n s.c)), (1, vS t), (2, .fn 76 [])], []⟩ [] [] (by kernel_rfl) on wn ?_
    cases h3 : decide (((i : Nat) : Int) < ((s.n : Nat) : Int)) with
    | true =>
      have h3 := of_decide_eq_true h3
      refine JL_run 6 [(3, .idx s.ad i), (4, .ext [.string (s.at i).name, .string (s.at i).value, .int .i64 (s.at i).version])] [45, 44, 40, 39, 35] 0 ⟨[(45, vS t), (44, .v (.agg #[.string (s.at i).name, .string (s.at i).value, .int .i64 (s.at i).version])), (40, .fn 76 []), (39, vB true), (35, vI ((i : Nat) : Int))], []⟩ [s.A = some s.ad, ((i : Nat) : Int) = ((i : Nat) : Int), i < s.n] [(s.ad.add (i * 3), [.string (s.at i).name, .string (s.at i).value, .int .i64 (s.at i).version])] (by kernel_rfl) (oc (Sl.ok.own (s := s) (i := i) oks (by omega)) (oc rfl (oc (by omega) on))) (fun w hk hr => ⟨(Sl.rd.all (s := s) (i := i) (Sl.rd.kp hs hk) (by omega) rfl), trivial⟩) ?_
      refine l_pure 76 [] [.v (.agg #[.string (s.at i).name, .string (s.at i).value, .int .i64 (s.at i).version]), vS t] (.int .i64 (cmpS (s.at i).name t)) Try.call76 rfl rfl rfl rfl (fun bs w hS => pair_find_1 (s.at i) t w) ?_
      refine JL_run 4 [] [7, 6] 0 ⟨[(7, vB (decide (cmpS (s.at i).name t = 0))), (6, vI ((i : Nat) : Int))], []⟩ [] [] (by kernel_rfl) on wn ?_
      refine l_nil (q_then_normal ?_)
      refine c_ret ?_
      refine q_ret (.inl rfl) [vI ((i : Nat) : Int), vB (decide (cmpS (s.at i).name t = 0))] rfl (fun bs w hS => ?_)
      have hij : i = j := by omega
      subst hij
      have hr : mBS (fun x : DPair => cmpS x.name t) s.xs = i := by rw [hI]; exact bsGo_end _ _ _ _ (Nat.le_refl _)
      refine ⟨?_, hS.kp⟩
      have hr2 : mBSf (fun x : DPair => cmpS x.name t) s.xs = (decide (cmpS (s.at i).name t = 0)) := by
        unfold mBSf; rw [hr]
        rw [decide_eq_true (show i < s.xs.length by omega)]; rfl
      rw [hr, hr2]
      rfl
    | false =>
      have h3 := of_decide_eq_false h3
      refine JL_run 11 [] [7, 6] 0 ⟨[(7, vB false), (6, vI ((i : Nat) : Int))], []⟩ [] [] (by kernel_rfl) on wn ?_
      refine l_nil (q_then_normal ?_)
      refine c_ret ?_
      refine q_ret (.inl rfl) [vI ((i : Nat) : Int), vB false] rfl (fun bs w hS => ?_)
      have hij : i = j := by omega
      subst hij
      have hr : mBS (fun x : DPair => cmpS x.name t) s.xs = i := by rw [hI]; exact bsGo_end _ _ _ _ (Nat.le_refl _)
      refine ⟨?_, hS.kp⟩
      have hr2 : mBSf (fun x : DPair => cmpS x.name t) s.xs = false := by
        unfold mBSf; rw [hr]
        rw [decide_eq_false (show ¬ i < s.xs.length by omega)]; rfl
      rw [hr, hr2]
      rfl

theorem pair_find {B : Nat → Prop} (s : Sl DPair) (t : ByteArray) (w : World) (hs : s.rd B w) (hn : s.n ≤ 1048576) : Calls Try.prog 58 #[.slice s.A s.n s.c, .string t] w fun e w' => e = .returned (.tuple #[.int .i64 (mBS (fun x : DPair => cmpS x.name t) s.xs : Nat), .bool (mBSf (fun x : DPair => cmpS x.name t) s.xs)]) ∧ Kp [] w w' := by
  have oks := Sl.rd.ok hs
  have ncs := Sl.ok.nc oks
  have hns : s.n = s.xs.length := rfl
  refine calls_J0 11 Try.func58 rfl rfl [.slice s.A s.n s.c, .string t] rfl ?_
  refine c_seq ?_
  refine c_region ?_
  refine JL_run 2 [] [0, 1] 0 ⟨[(0, .v (.slice s.A s.n s.c)), (1, vS t)], []⟩ [] [] (by kernel_rfl) on wn ?_
  refine l_nil (q_then_normal ?_)
  refine c_seq ?_
  refine c_region ?_
  refine JL_run 2 [] [7, 6] 0 ⟨[(7, vS t), (6, .v (.slice s.A s.n s.c))], []⟩ [] [] (by kernel_rfl) on wn ?_
  refine l_pure 75 [] [.v (.slice s.A s.n s.c), vS t, .fn 76 []] (.tuple #[.int .i64 ((mBS (fun x : DPair => cmpS x.name t) s.xs : Nat) : Int), .bool (mBSf (fun x : DPair => cmpS x.name t) s.xs)]) Try.call75 rfl rfl rfl rfl (fun bs w hS => bs_pair_find_1 s t w (Sl.rd.kp hs hS.kp) (by omega)) ?_
  refine JL_run 4 [] [5, 4] 0 ⟨[(5, vB (mBSf (fun x : DPair => cmpS x.name t) s.xs)), (4, vI ((mBS (fun x : DPair => cmpS x.name t) s.xs : Nat) : Int))], []⟩ [] [] (by kernel_rfl) on wn ?_
  refine l_nil (q_then_normal ?_)
  refine c_ret ?_
  refine q_ret (.inl rfl) [vI ((mBS (fun x : DPair => cmpS x.name t) s.xs : Nat) : Int), vB (mBSf (fun x : DPair => cmpS x.name t) s.xs)] rfl (fun bs w hS => ?_)
  exact ⟨rfl, hS.kp⟩

theorem tackroomref_pairAt {B : Nat → Prop} (s : Sl DPair) (t : ByteArray) (w : World) (hs : s.rd B w) : Calls Try.prog 59 #[.slice s.A s.n s.c, .string t] w fun e w' => e = .returned (.int .i64 (mIdx (fun x : DPair => decide (x.name = t)) s.xs)) ∧ Kp [] w w' := by
  have oks := Sl.rd.ok hs
  have ncs := Sl.ok.nc oks
  have hns : s.n = s.xs.length := rfl
  refine calls_J0 20 Try.func59 rfl rfl [.slice s.A s.n s.c, .string t] rfl ?_
  refine c_seq ?_
  refine c_region ?_
  refine JL_run 1 [] [0, 1] 0 ⟨[(0, .v (.slice s.A s.n s.c)), (1, vS t)], []⟩ [] [] (by kernel_rfl) on wn ?_
  refine l_nil (q_then_normal ?_)
  refine c_seq ?_
  refine c_seq ?_
  refine c_region ?_
  refine JL_run 1 [] [5, 0, 1] 0 ⟨[(5, vI 0), (0, .v (.slice s.A s.n s.c)), (1, vS t)], []⟩ [] [] (by kernel_rfl) on wn ?_
  refine l_nil (q_then_normal ?_)
  refine c_block ?_
  refine c_loop (σ := Nat) (fun i => i ≤ s.n ∧ ∀ j, j < i → decide ((s.at j).name = t) = false) (fun i => s.n - i) (fun i => []) (fun i => ⟨[(5, vI ((i : Nat) : Int)), (0, .v (.slice s.A s.n s.c)), (1, vS t)], []⟩) 0 ⟨Nat.zero_le _, fun j hj => absurd hj (Nat.not_lt_zero _)⟩ (s_start [5, 0, 1] 0 (by kernel_rfl) rfl) ?_
  rintro i ⟨hi, hI⟩
  refine c_seq ?_
  refine c_seq ?_
  refine c_region ?_
  refine JL_run 4 [] [9, 5, 0, 1] 0 ⟨[(9, vB (decide (((i : Nat) : Int) < ((s.n : Nat) : Int)))), (5, vI ((i : Nat) : Int)), (0, .v (.slice s.A s.n s.c)), (1, vS t)], []⟩ [] [] (by kernel_rfl) on wn ?_
  refine l_nil (q_then_normal ?_)
  cases h1 : decide (((i : Nat) : Int) < ((s.n : Nat) : Int)) with
  | true =>
    have h1 := of_decide_eq_true h1
    refine c_if true rfl ?_
    refine c_skip ?_
    refine q_then_normal ?_
    refine c_seq ?_
    refine c_block ?_
    refine c_seq ?_
    refine c_region ?_
    refine JL_run 7 [(2, .idx s.ad i), (4, .ext [.string (s.at i).name])] [18, 5, 0, 1] 0 ⟨[(18, vB (decide ((s.at i).name = t))), (5, vI ((i : Nat) : Int)), (0, .v (.slice s.A s.n s.c)), (1, vS t)], []⟩ [s.A = some s.ad, ((i : Nat) : Int) = ((i : Nat) : Int), i < s.n] [((s.ad.add (i * 3)).add 0, [.string (s.at i).name])] (by kernel_rfl) (oc (Sl.ok.own (s := s) (i := i) oks (by omega)) (oc rfl (oc (by omega) on))) (fun w hk hr => ⟨(Sl.rd.fld (s := s) (i := i) (Sl.rd.kp hs hk) (by omega) 0 1 rfl), trivial⟩) ?_
    refine l_nil (q_then_normal ?_)
    cases h2 : decide ((s.at i).name = t) with
    | true =>
      have h2 := of_decide_eq_true h2
      refine c_if true rfl ?_
      refine c_seq ?_
      refine c_region ?_
      refine JL_run 2 [] [4] 0 ⟨[(4, vI ((i : Nat) : Int))], []⟩ [] [] (by kernel_rfl) on wn ?_
      refine l_nil (q_then_normal ?_)
      refine c_ret ?_
      refine q_block_ret (q_then_ret (q_then_ret (q_block_ret (q_then_ret (q_ret (.inl rfl) [vI ((i : Nat) : Int)] rfl (fun bs w hS => ?_))))))
      refine ⟨?_, hS.kp⟩
      rw [mIdx_here (p := (fun x : DPair => decide (x.name = t))) (i := i) (by omega) (decide_eq_true (by assumption)) hI]
      rfl
    | false =>
      have h2 := of_decide_eq_false h2
      refine c_if false rfl ?_
      refine c_skip ?_
      refine q_block_normal (q_then_normal ?_)
      refine c_region ?_
      refine JL_run 3 [] [5, 0, 1] 0 ⟨[(5, vI (((i : Nat) : Int) + 1)), (0, .v (.slice s.A s.n s.c)), (1, vS t)], []⟩ [inR (((i : Nat) : Int) + 1)] [] (by kernel_rfl) (oc (by unfold inR; omega) on) wn ?_
      refine l_nil (q_loop (x := (i : Nat)) ((i + 1) : Nat) ⟨by omega, fun j hj => by rcases Nat.lt_succ_iff_lt_or_eq.1 hj with h | h; exact hI j h; subst h; exact decide_eq_false (by assumption)⟩ (by omega) (s_start [5, 0, 1] 0 (by kernel_rfl) rfl))
  | false =>
    have h1 := of_decide_eq_false h1
    refine c_if false rfl ?_
    refine c_exit ?_
    refine q_then_exit (q_then_exit (q_block_hit (q_then_normal ?_)))
    refine c_seq ?_
    refine c_region ?_
    refine JL_run 1 [] [4] 0 ⟨[(4, vI (-1))], []⟩ [] [] (by kernel_rfl) on wn ?_
    refine l_nil (q_then_normal ?_)
    refine c_ret ?_
    refine q_ret (.inl rfl) [vI (-1)] rfl (fun bs w hS => ?_)
    refine ⟨?_, hS.kp⟩
    rw [mIdx_none (p := (fun x : DPair => decide (x.name = t))) fun j hj => hI j (by omega)]
    rfl

theorem pair_Get {B : Nat → Prop} (s : Sl DPair) (t : ByteArray) (w : World) (hs : s.rd B w) : Calls Try.prog 33 #[.slice s.A s.n s.c, .string t] w fun e w' => e = .returned (.tuple #[.agg #[.int .i64 ((mGot s.xs t).1.code), .int .i64 ((mGot s.xs t).1.n), .string ((mGot s.xs t).1.text)], .int .i64 ((mGot s.xs t).2)]) ∧ Kp [] w w' := by
  have oks := Sl.rd.ok hs
  have ncs := Sl.ok.nc oks
  have hns : s.n = s.xs.length := rfl
  refine calls_J0 35 Try.func33 rfl rfl [.slice s.A s.n s.c, .string t] rfl ?_
  refine c_seq ?_
  refine c_region ?_
  refine JL_run 2 [] [4, 0, 1] 1 ⟨[(4, .p 0 0), (0, .v (.slice s.A s.n s.c)), (1, vS t)], [⟨62, [vI 0, vI 0, vS emp]⟩]⟩ [] [] (by kernel_rfl) on wn ?_
  refine l_nil (q_then_normal ?_)
  refine c_seq ?_
  refine c_seq ?_
  refine c_region ?_
  refine JL_run 1 [] [9, 4, 0, 1] 1 ⟨[(9, .v (.slice s.A s.n s.c)), (4, .p 0 0), (0, .v (.slice s.A s.n s.c)), (1, vS t)], [⟨62, [vI 0, vI 0, vS emp]⟩]⟩ [] [] (by kernel_rfl) on wn ?_
  refine l_pure 25 [] [.v (.slice s.A s.n s.c)] (.int .i64 (mPairs s.xs)) Try.call25 rfl rfl rfl rfl (fun bs w hS => pair_Check s w (Sl.rd.kp hs hS.kp)) ?_
  refine JL_run 1 [] [6, 4, 0, 1] 1 ⟨[(6, vI (mPairs s.xs)), (4, .p 0 0), (0, .v (.slice s.A s.n s.c)), (1, vS t)], [⟨62, [vI 0, vI 0, vS emp]⟩]⟩ [] [] (by kernel_rfl) on wn ?_
  refine l_nil (q_then_normal ?_)
  refine c_seq ?_
  refine c_region ?_
  refine JL_run 2 [] [12, 6, 4, 0, 1] 1 ⟨[(12, vB (!(decide (mPairs s.xs = 0)))), (6, vI (mPairs s.xs)), (4, .p 0 0), (0, .v (.slice s.A s.n s.c)), (1, vS t)], [⟨62, [vI 0, vI 0, vS emp]⟩]⟩ [] [] (by kernel_rfl) on wn ?_
  refine l_nil (q_then_normal ?_)
  cases h1 : decide (mPairs s.xs = 0) with
  | true =>
    have h1 := of_decide_eq_true h1
    have hln := (mPairs_bd h1).1
    refine c_if false rfl ?_
    refine c_skip ?_
    refine q_then_normal ?_
    refine c_seq ?_
    refine c_region ?_
    refine JL_run 2 [] [17, 16, 4, 0] 1 ⟨[(17, vS t), (16, .v (.slice s.A s.n s.c)), (4, .p 0 0), (0, .v (.slice s.A s.n s.c))], [⟨62, [vI 0, vI 0, vS emp]⟩]⟩ [] [] (by kernel_rfl) on wn ?_
    refine l_pure 58 [] [.v (.slice s.A s.n s.c), vS t] (.tuple #[.int .i64 ((mBS (fun x : DPair => cmpS x.name t) s.xs : Nat) : Int), .bool (mBSf (fun x : DPair => cmpS x.name t) s.xs)]) Try.call58 rfl rfl rfl rfl (fun bs w hS => pair_find s t w (Sl.rd.kp hs hS.kp) (by omega)) ?_
    refine JL_run 5 [] [8, 7, 4, 0] 1 ⟨[(8, vB (mBSf (fun x : DPair => cmpS x.name t) s.xs)), (7, vI ((mBS (fun x : DPair => cmpS x.name t) s.xs : Nat) : Int)), (4, .p 0 0), (0, .v (.slice s.A s.n s.c))], [⟨62, [vI 0, vI 0, vS emp]⟩]⟩ [] [] (by kernel_rfl) on wn ?_
    refine l_nil (q_then_normal ?_)
    refine c_seq ?_
    refine c_seq ?_
    refine c_region ?_
    refine JL_run 2 [] [22, 7, 4, 0] 1 ⟨[(22, vB (!(mBSf (fun x : DPair => cmpS x.name t) s.xs))), (7, vI ((mBS (fun x : DPair => cmpS x.name t) s.xs : Nat) : Int)), (4, .p 0 0), (0, .v (.slice s.A s.n s.c))], [⟨62, [vI 0, vI 0, vS emp]⟩]⟩ [] [] (by kernel_rfl) on wn ?_
    refine l_nil (q_then_normal ?_)
    cases h2 : mBSf (fun x : DPair => cmpS x.name t) s.xs with
    | true =>
      have hlt := mBSf_lt h2
      refine c_if false rfl ?_
      refine c_skip ?_
      refine q_then_normal ?_
      refine c_seq ?_
      refine c_draw 13 [(0, false), (1, false), (2, false), (3, false), (4, false), (5, false), (6, false), (7, false), (8, false), (9, false), (10, false), (11, true), (12, false)] [0] [] Try_mixed (by kernel_rfl) (pq_then pq_body) (List.Sublist.refl _) ?_
      refine h_quiet [(2, .idx s.ad (((mBS (fun x : DPair => cmpS x.name t) s.xs : Nat) : Int)).toNat), (4, .ext [.int .i64 (s.at (((mBS (fun x : DPair => cmpS x.name t) s.xs : Nat) : Int)).toNat).version]), (7, .idx s.ad (((mBS (fun x : DPair => cmpS x.name t) s.xs : Nat) : Int)).toNat), (9, .ext [.string (s.at (((mBS (fun x : DPair => cmpS x.name t) s.xs : Nat) : Int)).toNat).value])] 11 [(34, .v (.agg #[.int .i64 0, .int .i64 (s.at (((mBS (fun x : DPair => cmpS x.name t) s.xs : Nat) : Int)).toNat).version, .string (s.at (((mBS (fun x : DPair => cmpS x.name t) s.xs : Nat) : Int)).toNat).value])), (33, vS (s.at (((mBS (fun x : DPair => cmpS x.name t) s.xs : Nat) : Int)).toNat).value), (32, .v (.pointer (some ((s.ad.add ((((mBS (fun x : DPair => cmpS x.name t) s.xs : Nat) : Int)).toNat * 3)).add 1)))), (31, .v (.pointer (some (s.ad.add ((((mBS (fun x : DPair => cmpS x.name t) s.xs : Nat) : Int)).toNat * 3))))), (30, vI ((mBS (fun x : DPair => cmpS x.name t) s.xs : Nat) : Int)), (29, .v (.slice s.A s.n s.c)), (28, vI (s.at (((mBS (fun x : DPair => cmpS x.name t) s.xs : Nat) : Int)).toNat).version), (27, .v (.pointer (some ((s.ad.add ((((mBS (fun x : DPair => cmpS x.name t) s.xs : Nat) : Int)).toNat * 3)).add 2)))), (26, .v (.pointer (some (s.ad.add ((((mBS (fun x : DPair => cmpS x.name t) s.xs : Nat) : Int)).toNat * 3))))), (25, vI ((mBS (fun x : DPair => cmpS x.name t) s.xs : Nat) : Int)), (24, .v (.slice s.A s.n s.c)), (22, vB false), (7, vI ((mBS (fun x : DPair => cmpS x.name t) s.xs : Nat) : Int)), (4, .p 0 0), (0, .v (.slice s.A s.n s.c))] [s.A = some s.ad, ((mBS (fun x : DPair => cmpS x.name t) s.xs : Nat) : Int) = (((((mBS (fun x : DPair => cmpS x.name t) s.xs : Nat) : Int)).toNat : Nat) : Int), (((mBS (fun x : DPair => cmpS x.name t) s.xs : Nat) : Int)).toNat < s.n, s.A = some s.ad, ((mBS (fun x : DPair => cmpS x.name t) s.xs : Nat) : Int) = (((((mBS (fun x : DPair => cmpS x.name t) s.xs : Nat) : Int)).toNat : Nat) : Int), (((mBS (fun x : DPair => cmpS x.name t) s.xs : Nat) : Int)).toNat < s.n] [((s.ad.add ((((mBS (fun x : DPair => cmpS x.name t) s.xs : Nat) : Int)).toNat * 3)).add 2, [.int .i64 (s.at (((mBS (fun x : DPair => cmpS x.name t) s.xs : Nat) : Int)).toNat).version]), ((s.ad.add ((((mBS (fun x : DPair => cmpS x.name t) s.xs : Nat) : Int)).toNat * 3)).add 1, [.string (s.at (((mBS (fun x : DPair => cmpS x.name t) s.xs : Nat) : Int)).toNat).value])] rfl rfl (by kernel_rfl) (oc (Sl.ok.own (s := s) (i := (((mBS (fun x : DPair => cmpS x.name t) s.xs : Nat) : Int)).toNat) oks (by omega)) (oc (by omega) (oc (by omega) (oc (Sl.ok.own (s := s) (i := (((mBS (fun x : DPair => cmpS x.name t) s.xs : Nat) : Int)).toNat) oks (by omega)) (oc (by omega) (oc (by omega) on)))))) (fun w hk hr => ⟨(Sl.rd.fld (s := s) (i := (((mBS (fun x : DPair => cmpS x.name t) s.xs : Nat) : Int)).toNat) (Sl.rd.kp hs hk) (by omega) 2 1 rfl), ⟨(Sl.rd.fld (s := s) (i := (((mBS (fun x : DPair => cmpS x.name t) s.xs : Nat) : Int)).toNat) (Sl.rd.kp hs hk) (by omega) 1 1 rfl), trivial⟩⟩) ?_
      refine h_local ⟨[(34, .v (.agg #[.int .i64 0, .int .i64 (s.at (((mBS (fun x : DPair => cmpS x.name t) s.xs : Nat) : Int)).toNat).version, .string (s.at (((mBS (fun x : DPair => cmpS x.name t) s.xs : Nat) : Int)).toNat).value])), (33, vS (s.at (((mBS (fun x : DPair => cmpS x.name t) s.xs : Nat) : Int)).toNat).value), (32, .v (.pointer (some ((s.ad.add ((((mBS (fun x : DPair => cmpS x.name t) s.xs : Nat) : Int)).toNat * 3)).add 1)))), (31, .v (.pointer (some (s.ad.add ((((mBS (fun x : DPair => cmpS x.name t) s.xs : Nat) : Int)).toNat * 3))))), (30, vI ((mBS (fun x : DPair => cmpS x.name t) s.xs : Nat) : Int)), (29, .v (.slice s.A s.n s.c)), (28, vI (s.at (((mBS (fun x : DPair => cmpS x.name t) s.xs : Nat) : Int)).toNat).version), (27, .v (.pointer (some ((s.ad.add ((((mBS (fun x : DPair => cmpS x.name t) s.xs : Nat) : Int)).toNat * 3)).add 2)))), (26, .v (.pointer (some (s.ad.add ((((mBS (fun x : DPair => cmpS x.name t) s.xs : Nat) : Int)).toNat * 3))))), (25, vI ((mBS (fun x : DPair => cmpS x.name t) s.xs : Nat) : Int)), (24, .v (.slice s.A s.n s.c)), (22, vB false), (7, vI ((mBS (fun x : DPair => cmpS x.name t) s.xs : Nat) : Int)), (4, .p 0 0), (0, .v (.slice s.A s.n s.c))], [⟨62, [vI 0, vI (s.at (((mBS (fun x : DPair => cmpS x.name t) s.xs : Nat) : Int)).toNat).version, vS (s.at (((mBS (fun x : DPair => cmpS x.name t) s.xs : Nat) : Int)).toNat).value]⟩]⟩ (by kernel_rfl) (fun bs0 bs w hp hl hS => hS.down hp hl rfl (le_mask le_nil) (List.Sublist.refl _)) ?_
      refine h_quiet [] 1 [(5, vI 0), (34, .v (.agg #[.int .i64 0, .int .i64 (s.at (((mBS (fun x : DPair => cmpS x.name t) s.xs : Nat) : Int)).toNat).version, .string (s.at (((mBS (fun x : DPair => cmpS x.name t) s.xs : Nat) : Int)).toNat).value])), (33, vS (s.at (((mBS (fun x : DPair => cmpS x.name t) s.xs : Nat) : Int)).toNat).value), (32, .v (.pointer (some ((s.ad.add ((((mBS (fun x : DPair => cmpS x.name t) s.xs : Nat) : Int)).toNat * 3)).add 1)))), (31, .v (.pointer (some (s.ad.add ((((mBS (fun x : DPair => cmpS x.name t) s.xs : Nat) : Int)).toNat * 3))))), (30, vI ((mBS (fun x : DPair => cmpS x.name t) s.xs : Nat) : Int)), (29, .v (.slice s.A s.n s.c)), (28, vI (s.at (((mBS (fun x : DPair => cmpS x.name t) s.xs : Nat) : Int)).toNat).version), (27, .v (.pointer (some ((s.ad.add ((((mBS (fun x : DPair => cmpS x.name t) s.xs : Nat) : Int)).toNat * 3)).add 2)))), (26, .v (.pointer (some (s.ad.add ((((mBS (fun x : DPair => cmpS x.name t) s.xs : Nat) : Int)).toNat * 3))))), (25, vI ((mBS (fun x : DPair => cmpS x.name t) s.xs : Nat) : Int)), (24, .v (.slice s.A s.n s.c)), (22, vB false), (7, vI ((mBS (fun x : DPair => cmpS x.name t) s.xs : Nat) : Int)), (4, .p 0 0), (0, .v (.slice s.A s.n s.c))] [] [] rfl rfl (by kernel_rfl) on wn ?_
      refine h_nil ?_
      refine l_nil (q_then_normal ?_)
      refine c_ret ?_
      refine q_ret (.inl rfl) [.v (.agg #[.int .i64 0, .int .i64 (s.at (((mBS (fun x : DPair => cmpS x.name t) s.xs : Nat) : Int)).toNat).version, .string (s.at (((mBS (fun x : DPair => cmpS x.name t) s.xs : Nat) : Int)).toNat).value]), vI 0] rfl (fun bs w hS => ?_)
      refine ⟨?_, hS.kp⟩
      simp only [retOf, den, List.map_cons, List.map_nil]
      have hb := (bsf_pair (l := s.xs) (by assumption) t).1
      rw [h2] at hb
      have hc := (bsf_pair (l := s.xs) (by assumption) t).2 (by assumption)
      have hd := of_decide_eq_true hb.symm
      rw [got_here (by assumption) (by omega), ← hc, Int.toNat_natCast]
      rfl
    | false =>
      refine c_if true rfl ?_
      refine c_seq ?_
      refine c_region ?_
      refine JL_run 3 [] [5, 4] 1 ⟨[(5, vI 0), (4, .p 0 0)], [⟨62, [vI 6, vI 0, vS emp]⟩]⟩ [] [] (by kernel_rfl) on wn ?_
      refine l_nil (q_then_normal ?_)
      refine c_ret ?_
      refine q_then_ret (q_ret (.inl rfl) [.v (.agg #[.int .i64 6, .int .i64 0, .string emp]), vI 0] rfl (fun bs w hS => ?_))
      refine ⟨?_, hS.kp⟩
      simp only [retOf, den, List.map_cons, List.map_nil]
      have hb := (bsf_pair (l := s.xs) (by assumption) t).1
      rw [h2] at hb
      rw [got_none (by assumption) (by have := of_decide_eq_false hb.symm; omega)]
  | false =>
    have h1 := of_decide_eq_false h1
    refine c_if true rfl ?_
    refine c_seq ?_
    refine c_region ?_
    refine JL_run 4 [] [5, 4] 1 ⟨[(5, vI (mPairs s.xs)), (4, .p 0 0)], [⟨62, [vI 0, vI 0, vS emp]⟩]⟩ [] [] (by kernel_rfl) on wn ?_
    refine l_nil (q_then_normal ?_)
    refine c_ret ?_
    refine q_then_ret (q_ret (.inl rfl) [.v (.agg #[.int .i64 0, .int .i64 0, .string emp]), vI (mPairs s.xs)] rfl (fun bs w hS => ?_))
    refine ⟨?_, hS.kp⟩
    simp only [retOf, den, List.map_cons, List.map_nil]
    rw [got_bad (by assumption)]

theorem ref_GotOf {B : Nat → Prop} (s : Sl DPair) (t : ByteArray) (w : World) (hs : s.rd B w) : Calls Try.prog 34 #[.slice s.A s.n s.c, .string t] w fun e w' => e = .returned (.tuple #[.agg #[.int .i64 ((mGot s.xs t).1.code), .int .i64 ((mGot s.xs t).1.n), .string ((mGot s.xs t).1.text)], .int .i64 ((mGot s.xs t).2)]) ∧ Kp [] w w' := by
  have oks := Sl.rd.ok hs
  have ncs := Sl.ok.nc oks
  have hns : s.n = s.xs.length := rfl
  have hbd := mIdx_bd (fun x : DPair => decide (x.name = t)) s.xs
  refine calls_J0 31 Try.func34 rfl rfl [.slice s.A s.n s.c, .string t] rfl ?_
  refine c_seq ?_
  refine c_region ?_
  refine JL_run 2 [] [4, 0, 1] 1 ⟨[(4, .p 0 0), (0, .v (.slice s.A s.n s.c)), (1, vS t)], [⟨62, [vI 0, vI 0, vS emp]⟩]⟩ [] [] (by kernel_rfl) on wn ?_
  refine l_nil (q_then_normal ?_)
  refine c_seq ?_
  refine c_region ?_
  refine JL_run 1 [] [8, 4, 0, 1] 1 ⟨[(8, .v (.slice s.A s.n s.c)), (4, .p 0 0), (0, .v (.slice s.A s.n s.c)), (1, vS t)], [⟨62, [vI 0, vI 0, vS emp]⟩]⟩ [] [] (by kernel_rfl) on wn ?_
  refine l_pure 26 [] [.v (.slice s.A s.n s.c)] (.int .i64 (mPairs s.xs)) Try.call26 rfl rfl rfl rfl (fun bs w hS => ref_PairsFault s w (Sl.rd.kp hs hS.kp)) ?_
  refine JL_run 1 [] [6, 4, 0, 1] 1 ⟨[(6, vI (mPairs s.xs)), (4, .p 0 0), (0, .v (.slice s.A s.n s.c)), (1, vS t)], [⟨62, [vI 0, vI 0, vS emp]⟩]⟩ [] [] (by kernel_rfl) on wn ?_
  refine l_nil (q_then_normal ?_)
  refine c_seq ?_
  refine c_seq ?_
  refine c_region ?_
  refine JL_run 2 [] [11, 6, 4, 0, 1] 1 ⟨[(11, vB (!(decide (mPairs s.xs = 0)))), (6, vI (mPairs s.xs)), (4, .p 0 0), (0, .v (.slice s.A s.n s.c)), (1, vS t)], [⟨62, [vI 0, vI 0, vS emp]⟩]⟩ [] [] (by kernel_rfl) on wn ?_
  refine l_nil (q_then_normal ?_)
  cases h1 : decide (mPairs s.xs = 0) with
  | true =>
    have h1 := of_decide_eq_true h1
    have hln := (mPairs_bd h1).1
    refine c_if false rfl ?_
    refine c_skip ?_
    refine q_then_normal ?_
    refine c_seq ?_
    refine c_region ?_
    refine JL_run 2 [] [15, 14, 4, 0] 1 ⟨[(15, vS t), (14, .v (.slice s.A s.n s.c)), (4, .p 0 0), (0, .v (.slice s.A s.n s.c))], [⟨62, [vI 0, vI 0, vS emp]⟩]⟩ [] [] (by kernel_rfl) on wn ?_
    refine l_pure 59 [] [.v (.slice s.A s.n s.c), vS t] (.int .i64 (mIdx (fun x : DPair => decide (x.name = t)) s.xs)) Try.call59 rfl rfl rfl rfl (fun bs w hS => tackroomref_pairAt s t w (Sl.rd.kp hs hS.kp)) ?_
    refine JL_run 1 [] [7, 4, 0] 1 ⟨[(7, vI (mIdx (fun x : DPair => decide (x.name = t)) s.xs)), (4, .p 0 0), (0, .v (.slice s.A s.n s.c))], [⟨62, [vI 0, vI 0, vS emp]⟩]⟩ [] [] (by kernel_rfl) on wn ?_
    refine l_nil (q_then_normal ?_)
    refine c_seq ?_
    refine c_seq ?_
    refine c_region ?_
    refine JL_run 2 [] [18, 7, 4, 0] 1 ⟨[(18, vB (decide (mIdx (fun x : DPair => decide (x.name = t)) s.xs < 0))), (7, vI (mIdx (fun x : DPair => decide (x.name = t)) s.xs)), (4, .p 0 0), (0, .v (.slice s.A s.n s.c))], [⟨62, [vI 0, vI 0, vS emp]⟩]⟩ [] [] (by kernel_rfl) on wn ?_
    refine l_nil (q_then_normal ?_)
    cases h2 : decide (mIdx (fun x : DPair => decide (x.name = t)) s.xs < 0) with
    | true =>
      have h2 := of_decide_eq_true h2
      refine c_if true rfl ?_
      refine c_seq ?_
      refine c_region ?_
      refine JL_run 3 [] [5, 4] 1 ⟨[(5, vI 0), (4, .p 0 0)], [⟨62, [vI 6, vI 0, vS emp]⟩]⟩ [] [] (by kernel_rfl) on wn ?_
      refine l_nil (q_then_normal ?_)
      refine c_ret ?_
      refine q_then_ret (q_ret (.inl rfl) [.v (.agg #[.int .i64 6, .int .i64 0, .string emp]), vI 0] rfl (fun bs w hS => ?_))
      refine ⟨?_, hS.kp⟩
      simp only [retOf, den, List.map_cons, List.map_nil]
      rw [got_none (by assumption) (by assumption)]
    | false =>
      have h2 := of_decide_eq_false h2
      refine c_if false rfl ?_
      refine c_skip ?_
      refine q_then_normal ?_
      refine c_seq ?_
      refine c_draw 13 [(0, false), (1, false), (2, false), (3, false), (4, false), (5, false), (6, false), (7, false), (8, false), (9, false), (10, false), (11, true), (12, false)] [0] [] Try_mixed (by kernel_rfl) (pq_then pq_body) (List.Sublist.refl _) ?_
      refine h_quiet [(2, .idx s.ad (mIdx (fun x : DPair => decide (x.name = t)) s.xs).toNat), (4, .ext [.int .i64 (s.at (mIdx (fun x : DPair => decide (x.name = t)) s.xs).toNat).version]), (7, .idx s.ad (mIdx (fun x : DPair => decide (x.name = t)) s.xs).toNat), (9, .ext [.string (s.at (mIdx (fun x : DPair => decide (x.name = t)) s.xs).toNat).value])] 11 [(30, .v (.agg #[.int .i64 0, .int .i64 (s.at (mIdx (fun x : DPair => decide (x.name = t)) s.xs).toNat).version, .string (s.at (mIdx (fun x : DPair => decide (x.name = t)) s.xs).toNat).value])), (29, vS (s.at (mIdx (fun x : DPair => decide (x.name = t)) s.xs).toNat).value), (28, .v (.pointer (some ((s.ad.add ((mIdx (fun x : DPair => decide (x.name = t)) s.xs).toNat * 3)).add 1)))), (27, .v (.pointer (some (s.ad.add ((mIdx (fun x : DPair => decide (x.name = t)) s.xs).toNat * 3))))), (26, vI (mIdx (fun x : DPair => decide (x.name = t)) s.xs)), (25, .v (.slice s.A s.n s.c)), (24, vI (s.at (mIdx (fun x : DPair => decide (x.name = t)) s.xs).toNat).version), (23, .v (.pointer (some ((s.ad.add ((mIdx (fun x : DPair => decide (x.name = t)) s.xs).toNat * 3)).add 2)))), (22, .v (.pointer (some (s.ad.add ((mIdx (fun x : DPair => decide (x.name = t)) s.xs).toNat * 3))))), (21, vI (mIdx (fun x : DPair => decide (x.name = t)) s.xs)), (20, .v (.slice s.A s.n s.c)), (18, vB false), (7, vI (mIdx (fun x : DPair => decide (x.name = t)) s.xs)), (4, .p 0 0), (0, .v (.slice s.A s.n s.c))] [s.A = some s.ad, mIdx (fun x : DPair => decide (x.name = t)) s.xs = (((mIdx (fun x : DPair => decide (x.name = t)) s.xs).toNat : Nat) : Int), (mIdx (fun x : DPair => decide (x.name = t)) s.xs).toNat < s.n, s.A = some s.ad, mIdx (fun x : DPair => decide (x.name = t)) s.xs = (((mIdx (fun x : DPair => decide (x.name = t)) s.xs).toNat : Nat) : Int), (mIdx (fun x : DPair => decide (x.name = t)) s.xs).toNat < s.n] [((s.ad.add ((mIdx (fun x : DPair => decide (x.name = t)) s.xs).toNat * 3)).add 2, [.int .i64 (s.at (mIdx (fun x : DPair => decide (x.name = t)) s.xs).toNat).version]), ((s.ad.add ((mIdx (fun x : DPair => decide (x.name = t)) s.xs).toNat * 3)).add 1, [.string (s.at (mIdx (fun x : DPair => decide (x.name = t)) s.xs).toNat).value])] rfl rfl (by kernel_rfl) (oc (Sl.ok.own (s := s) (i := (mIdx (fun x : DPair => decide (x.name = t)) s.xs).toNat) oks (by omega)) (oc (by omega) (oc (by omega) (oc (Sl.ok.own (s := s) (i := (mIdx (fun x : DPair => decide (x.name = t)) s.xs).toNat) oks (by omega)) (oc (by omega) (oc (by omega) on)))))) (fun w hk hr => ⟨(Sl.rd.fld (s := s) (i := (mIdx (fun x : DPair => decide (x.name = t)) s.xs).toNat) (Sl.rd.kp hs hk) (by omega) 2 1 rfl), ⟨(Sl.rd.fld (s := s) (i := (mIdx (fun x : DPair => decide (x.name = t)) s.xs).toNat) (Sl.rd.kp hs hk) (by omega) 1 1 rfl), trivial⟩⟩) ?_
      refine h_local ⟨[(30, .v (.agg #[.int .i64 0, .int .i64 (s.at (mIdx (fun x : DPair => decide (x.name = t)) s.xs).toNat).version, .string (s.at (mIdx (fun x : DPair => decide (x.name = t)) s.xs).toNat).value])), (29, vS (s.at (mIdx (fun x : DPair => decide (x.name = t)) s.xs).toNat).value), (28, .v (.pointer (some ((s.ad.add ((mIdx (fun x : DPair => decide (x.name = t)) s.xs).toNat * 3)).add 1)))), (27, .v (.pointer (some (s.ad.add ((mIdx (fun x : DPair => decide (x.name = t)) s.xs).toNat * 3))))), (26, vI (mIdx (fun x : DPair => decide (x.name = t)) s.xs)), (25, .v (.slice s.A s.n s.c)), (24, vI (s.at (mIdx (fun x : DPair => decide (x.name = t)) s.xs).toNat).version), (23, .v (.pointer (some ((s.ad.add ((mIdx (fun x : DPair => decide (x.name = t)) s.xs).toNat * 3)).add 2)))), (22, .v (.pointer (some (s.ad.add ((mIdx (fun x : DPair => decide (x.name = t)) s.xs).toNat * 3))))), (21, vI (mIdx (fun x : DPair => decide (x.name = t)) s.xs)), (20, .v (.slice s.A s.n s.c)), (18, vB false), (7, vI (mIdx (fun x : DPair => decide (x.name = t)) s.xs)), (4, .p 0 0), (0, .v (.slice s.A s.n s.c))], [⟨62, [vI 0, vI (s.at (mIdx (fun x : DPair => decide (x.name = t)) s.xs).toNat).version, vS (s.at (mIdx (fun x : DPair => decide (x.name = t)) s.xs).toNat).value]⟩]⟩ (by kernel_rfl) (fun bs0 bs w hp hl hS => hS.down hp hl rfl (le_mask le_nil) (List.Sublist.refl _)) ?_
      refine h_quiet [] 1 [(5, vI 0), (30, .v (.agg #[.int .i64 0, .int .i64 (s.at (mIdx (fun x : DPair => decide (x.name = t)) s.xs).toNat).version, .string (s.at (mIdx (fun x : DPair => decide (x.name = t)) s.xs).toNat).value])), (29, vS (s.at (mIdx (fun x : DPair => decide (x.name = t)) s.xs).toNat).value), (28, .v (.pointer (some ((s.ad.add ((mIdx (fun x : DPair => decide (x.name = t)) s.xs).toNat * 3)).add 1)))), (27, .v (.pointer (some (s.ad.add ((mIdx (fun x : DPair => decide (x.name = t)) s.xs).toNat * 3))))), (26, vI (mIdx (fun x : DPair => decide (x.name = t)) s.xs)), (25, .v (.slice s.A s.n s.c)), (24, vI (s.at (mIdx (fun x : DPair => decide (x.name = t)) s.xs).toNat).version), (23, .v (.pointer (some ((s.ad.add ((mIdx (fun x : DPair => decide (x.name = t)) s.xs).toNat * 3)).add 2)))), (22, .v (.pointer (some (s.ad.add ((mIdx (fun x : DPair => decide (x.name = t)) s.xs).toNat * 3))))), (21, vI (mIdx (fun x : DPair => decide (x.name = t)) s.xs)), (20, .v (.slice s.A s.n s.c)), (18, vB false), (7, vI (mIdx (fun x : DPair => decide (x.name = t)) s.xs)), (4, .p 0 0), (0, .v (.slice s.A s.n s.c))] [] [] rfl rfl (by kernel_rfl) on wn ?_
      refine h_nil ?_
      refine l_nil (q_then_normal ?_)
      refine c_ret ?_
      refine q_ret (.inl rfl) [.v (.agg #[.int .i64 0, .int .i64 (s.at (mIdx (fun x : DPair => decide (x.name = t)) s.xs).toNat).version, .string (s.at (mIdx (fun x : DPair => decide (x.name = t)) s.xs).toNat).value]), vI 0] rfl (fun bs w hS => ?_)
      refine ⟨?_, hS.kp⟩
      simp only [retOf, den, List.map_cons, List.map_nil]
      rw [got_here (by assumption) (by assumption)]
      rfl
  | false =>
    have h1 := of_decide_eq_false h1
    refine c_if true rfl ?_
    refine c_seq ?_
    refine c_region ?_
    refine JL_run 4 [] [5, 4] 1 ⟨[(5, vI (mPairs s.xs)), (4, .p 0 0)], [⟨62, [vI 0, vI 0, vS emp]⟩]⟩ [] [] (by kernel_rfl) on wn ?_
    refine l_nil (q_then_normal ?_)
    refine c_ret ?_
    refine q_then_ret (q_ret (.inl rfl) [.v (.agg #[.int .i64 0, .int .i64 0, .string emp]), vI (mPairs s.xs)] rfl (fun bs w hS => ?_))
    refine ⟨?_, hS.kp⟩
    simp only [retOf, den, List.map_cons, List.map_nil]
    rw [got_bad (by assumption)]

theorem law_PairGets {B : Nat → Prop} (s : Sl DPair) (t : ByteArray) (w : World) (hs : s.rd B w) : Calls Try.prog 12 #[.slice s.A s.n s.c, .string t] w fun e w' => e = .returned (.bool true) ∧ Kp [] w w' := by
  have oks := Sl.rd.ok hs
  have ncs := Sl.ok.nc oks
  have hns : s.n = s.xs.length := rfl
  refine calls_J0 29 Try.func12 rfl rfl [.slice s.A s.n s.c, .string t] rfl ?_
  refine c_seq ?_
  refine c_region ?_
  refine JL_run 1 [] [0, 1] 0 ⟨[(0, .v (.slice s.A s.n s.c)), (1, vS t)], []⟩ [] [] (by kernel_rfl) on wn ?_
  refine l_nil (q_then_normal ?_)
  refine c_seq ?_
  refine c_region ?_
  refine JL_run 2 [] [11, 10, 0, 1] 0 ⟨[(11, vS t), (10, .v (.slice s.A s.n s.c)), (0, .v (.slice s.A s.n s.c)), (1, vS t)], []⟩ [] [] (by kernel_rfl) on wn ?_
  refine l_pure 33 [] [.v (.slice s.A s.n s.c), vS t] (.tuple #[.agg #[.int .i64 ((mGot s.xs t).1.code), .int .i64 ((mGot s.xs t).1.n), .string ((mGot s.xs t).1.text)], .int .i64 ((mGot s.xs t).2)]) Try.call33 rfl rfl rfl rfl (fun bs w hS => pair_Get s t w (Sl.rd.kp hs hS.kp)) ?_
  refine JL_run 6 [] [6, 5, 0, 1] 1 ⟨[(6, vI ((mGot s.xs t).2)), (5, .p 0 0), (0, .v (.slice s.A s.n s.c)), (1, vS t)], [⟨62, [vI ((mGot s.xs t).1.code), vI ((mGot s.xs t).1.n), vS ((mGot s.xs t).1.text)]⟩]⟩ [] [] (by kernel_rfl) on wn ?_
  refine l_nil (q_then_normal ?_)
  refine c_seq ?_
  refine c_region ?_
  refine JL_run 2 [] [17, 16, 6, 5] 1 ⟨[(17, vS t), (16, .v (.slice s.A s.n s.c)), (6, vI ((mGot s.xs t).2)), (5, .p 0 0)], [⟨62, [vI ((mGot s.xs t).1.code), vI ((mGot s.xs t).1.n), vS ((mGot s.xs t).1.text)]⟩]⟩ [] [] (by kernel_rfl) on wn ?_
  refine l_pure 34 [] [.v (.slice s.A s.n s.c), vS t] (.tuple #[.agg #[.int .i64 ((mGot s.xs t).1.code), .int .i64 ((mGot s.xs t).1.n), .string ((mGot s.xs t).1.text)], .int .i64 ((mGot s.xs t).2)]) Try.call34 rfl rfl rfl rfl (fun bs w hS => ref_GotOf s t w (Sl.rd.kp hs hS.kp)) ?_
  refine JL_run 6 [] [8, 7, 6, 5] 2 ⟨[(8, vI ((mGot s.xs t).2)), (7, .p 1 0), (6, vI ((mGot s.xs t).2)), (5, .p 0 0)], [⟨62, [vI ((mGot s.xs t).1.code), vI ((mGot s.xs t).1.n), vS ((mGot s.xs t).1.text)]⟩, ⟨62, [vI ((mGot s.xs t).1.code), vI ((mGot s.xs t).1.n), vS ((mGot s.xs t).1.text)]⟩]⟩ [] [] (by kernel_rfl) on wn ?_
  refine l_nil (q_then_normal ?_)
  refine c_seq ?_
  refine c_region ?_
  refine JL_run 4 [(2, .val (.bool ((decide ((mGot s.xs t).1.code = (mGot s.xs t).1.code)) && ((decide ((mGot s.xs t).1.n = (mGot s.xs t).1.n)) && ((decide (((mGot s.xs t).1.text) = ((mGot s.xs t).1.text))) && true)))))] [24, 8, 6] 0 ⟨[(24, vB ((decide ((mGot s.xs t).1.code = (mGot s.xs t).1.code)) && ((decide ((mGot s.xs t).1.n = (mGot s.xs t).1.n)) && ((decide (((mGot s.xs t).1.text) = ((mGot s.xs t).1.text))) && true)))), (8, vI ((mGot s.xs t).2)), (6, vI ((mGot s.xs t).2))], []⟩ [∀ w, (do eqGuard .eql 62 (.tmp 21) (.tmp 22) (.agg #[.int .i64 ((mGot s.xs t).1.code), .int .i64 ((mGot s.xs t).1.n), .string ((mGot s.xs t).1.text)]) (.agg #[.int .i64 ((mGot s.xs t).1.code), .int .i64 ((mGot s.xs t).1.n), .string ((mGot s.xs t).1.text)]); binOp .eql 62 (.agg #[.int .i64 ((mGot s.xs t).1.code), .int .i64 ((mGot s.xs t).1.n), .string ((mGot s.xs t).1.text)]) (.agg #[.int .i64 ((mGot s.xs t).1.code), .int .i64 ((mGot s.xs t).1.n), .string ((mGot s.xs t).1.text)]) : Sem Value).run Try.prog w = .ok (.bool ((decide ((mGot s.xs t).1.code = (mGot s.xs t).1.code)) && ((decide ((mGot s.xs t).1.n = (mGot s.xs t).1.n)) && ((decide (((mGot s.xs t).1.text) = ((mGot s.xs t).1.text))) && true)))) w] [] (by kernel_rfl) (oc (eq_agg (by kernel_rfl) (by kernel_rfl)) on) wn ?_
  cases h1 : (decide ((mGot s.xs t).1.code = (mGot s.xs t).1.code)) && ((decide ((mGot s.xs t).1.n = (mGot s.xs t).1.n)) && ((decide (((mGot s.xs t).1.text) = ((mGot s.xs t).1.text))) && true)) with
  | true =>
    refine JL_run 5 [] [4] 0 ⟨[(4, vB (decide ((mGot s.xs t).2 = (mGot s.xs t).2)))], []⟩ [] [] (by kernel_rfl) on wn ?_
    refine l_nil (q_then_normal ?_)
    refine c_ret ?_
    refine q_ret (.inl rfl) [vB (decide ((mGot s.xs t).2 = (mGot s.xs t).2))] rfl (fun bs w hS => ?_)
    refine ⟨?_, hS.kp⟩
    simp [retOf, den]
  | false =>
    exfalso; simp at h1

end Go.Proofs.Ytececkgjacccmab.W
