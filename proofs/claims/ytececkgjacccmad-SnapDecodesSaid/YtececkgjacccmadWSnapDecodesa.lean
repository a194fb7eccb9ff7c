/-
  The functions that the law SnapDecodes reaches, walked: each returns what its model says.
  Conditions: those that each theorem states.
-/
import Derived.Test.YtececkgjacccmadMc
import Derived.Test.YtececkgjacccmadChecked
set_option linter.unusedVariables false
set_option linter.unusedSimpArgs false
set_option maxRecDepth 100000
namespace Go.Proofs.Ytececkgjacccmad.W
open Go.Proofs.Ytececkgjacccmad.Fw Go.RowKit

theorem Try_mixed : Try.prog.follows .mixedOrders = true := by kernel_rfl
theorem laid : laidOutB Try.prog = true := by kernel_rfl

theorem ref_In (n lo hi : Int) (w : World) : Calls Try.prog 64 #[.int .i64 n, .int .i64 lo, .int .i64 hi] w fun e w' => e = .returned (.bool (inB n lo hi)) ∧ Kp [] w w' := by
  refine calls_J0 15 Try.func64 rfl rfl [.int .i64 n, .int .i64 lo, .int .i64 hi] rfl ?_
  refine c_seq ?_
  refine c_region ?_
  refine JL_run 1 [] [0, 1, 2] 0 ⟨[(0, vI n), (1, vI lo), (2, vI hi)], []⟩ [] [] (by kernel_rfl) on wn ?_
  refine l_nil (q_then_normal ?_)
  refine c_seq ?_
  refine c_region ?_
  refine JL_run 4 [] [10, 0, 2] 0 ⟨[(10, vB (decide (lo ≤ n))), (0, vI n), (2, vI hi)], []⟩ [] [] (by kernel_rfl) on wn ?_
  cases h1 : decide (lo ≤ n) with
  | true =>
    have h1 := of_decide_eq_true h1
    refine JL_run 5 [] [6] 0 ⟨[(6, vB (decide (n ≤ hi)))], []⟩ [] [] (by kernel_rfl) on wn ?_
    refine l_nil (q_then_normal ?_)
    refine c_ret ?_
    refine q_ret (.inl rfl) [vB (decide (n ≤ hi))] rfl (fun bs w hS => ?_)
    exact ⟨by simp [retOf, den, inB, h1], hS.kp⟩
  | false =>
    have h1 := of_decide_eq_false h1
    refine JL_run 5 [] [6] 0 ⟨[(6, vB false)], []⟩ [] [] (by kernel_rfl) on wn ?_
    refine l_nil (q_then_normal ?_)
    refine c_ret ?_
    refine q_ret (.inl rfl) [vB false] rfl (fun bs w hS => ?_)
    exact ⟨by simp [retOf, den, inB, h1], hS.kp⟩

theorem lock_Name1 (c : UInt8) (w : World) : Calls Try.prog 131 #[.int .u8 (c.toNat : Int)] w fun e w' => e = .returned (.bool (nameBad c)) ∧ Kp [] w w' := by
  refine calls_J0 9 Try.func131 rfl rfl [.int .u8 (c.toNat : Int)] rfl ?_
  refine c_seq ?_
  refine c_region ?_
  refine JL_run 1 [] [0] 0 ⟨[(0, .v (.int .u8 (c.toNat : Int)))], []⟩ [] [] (by kernel_rfl) on wn ?_
  refine l_nil (q_then_normal ?_)
  refine c_seq ?_
  refine c_region ?_
  refine JL_run 3 [] [5, 0] 0 ⟨[(5, vB (decide ((c.toNat : Int) < 97))), (0, .v (.int .u8 (c.toNat : Int)))], []⟩ [] [] (by kernel_rfl) on wn ?_
  cases h1 : decide ((c.toNat : Int) < 97) with
  | true =>
    have h1 := of_decide_eq_true h1
    refine JL_run 4 [] [2] 0 ⟨[(2, vB true)], []⟩ [] [] (by kernel_rfl) on wn ?_
    refine l_nil (q_then_normal ?_)
    refine c_ret ?_
    refine q_ret (.inl rfl) [vB true] rfl (fun bs w hS => ?_)
    exact ⟨by simp [retOf, den, nameBad, h1], hS.kp⟩
  | false =>
    have h1 := of_decide_eq_false h1
    refine JL_run 4 [] [2] 0 ⟨[(2, vB (decide ((122 : Int) < (c.toNat : Int))))], []⟩ [] [] (by kernel_rfl) on wn ?_
    refine l_nil (q_then_normal ?_)
    refine c_ret ?_
    refine q_ret (.inl rfl) [vB (decide ((122 : Int) < (c.toNat : Int)))] rfl (fun bs w hS => ?_)
    exact ⟨by simp [retOf, den, nameBad, h1], hS.kp⟩

theorem idx_bytes {B : Nat → Prop} (s : Sl UInt8) (w : World) (hs : s.rd B w) : Calls Try.prog 153 #[.slice s.A s.n s.c, .func (.func 131) #[] #[]] w fun e w' => e = .returned (.int .i64 (mIdx nameBad s.xs)) ∧ Kp [] w w' := by
  have oks := Sl.rd.ok hs
  have ncs := Sl.ok.nc oks
  have hns : s.n = s.xs.length := rfl
  refine calls_J 19 [] Try.func153 rfl rfl [] [] [] [.v (.slice s.A s.n s.c), .fn 131 []] [.slice s.A s.n s.c, .func (.func 131) #[] #[]] rfl rfl (WS.start w) ?_
  refine c_seq ?_
  refine c_region ?_
  refine JL_run 1 [] [0, 1] 0 ⟨[(0, .v (.slice s.A s.n s.c)), (1, .fn 131 [])], []⟩ [] [] (by kernel_rfl) on wn ?_
  refine l_nil (q_then_normal ?_)
  refine c_seq ?_
  refine c_seq ?_
  refine c_region ?_
  refine JL_run 3 [] [8, 7, 0, 1] 0 ⟨[(8, vI 0), (7, vI ((s.n : Nat) : Int)), (0, .v (.slice s.A s.n s.c)), (1, .fn 131 [])], []⟩ [] [] (by kernel_rfl) on wn ?_
  refine l_nil (q_then_normal ?_)
  refine c_block ?_
  refine c_loop (σ := Nat) (fun i => i ≤ s.n ∧ ∀ j, j < i → nameBad (s.at j) = false) (fun i => s.n - i) (fun i => []) (fun i => ⟨[(8, vI ((i : Nat) : Int)), (7, vI ((s.n : Nat) : Int)), (0, .v (.slice s.A s.n s.c)), (1, .fn 131 [])], []⟩) 0 ⟨Nat.zero_le _, fun j hj => absurd hj (Nat.not_lt_zero _)⟩ (s_start [8, 7, 0, 1] 0 (by kernel_rfl) rfl) ?_
  rintro i ⟨hi, hI⟩
  refine c_seq ?_
  refine c_region ?_
  refine JL_run 1 [] [9, 8, 7, 0, 1] 0 ⟨[(9, vB (decide (((i : Nat) : Int) < ((s.n : Nat) : Int)))), (8, vI ((i : Nat) : Int)), (7, vI ((s.n : Nat) : Int)), (0, .v (.slice s.A s.n s.c)), (1, .fn 131 [])], []⟩ [] [] (by kernel_rfl) on wn ?_
  refine l_nil (q_then_normal ?_)
  refine c_seq ?_
  cases h1 : decide (((i : Nat) : Int) < ((s.n : Nat) : Int)) with
  | true =>
    have h1 := of_decide_eq_true h1
    refine c_if true rfl ?_
    refine c_skip ?_
    refine q_then_normal ?_
    refine c_seq ?_
    refine c_block ?_
    refine c_seq ?_
    refine c_region ?_
    refine JL_run 2 [] [5, 8, 7, 0, 1] 0 ⟨[(5, vI ((i : Nat) : Int)), (8, vI ((i : Nat) : Int)), (7, vI ((s.n : Nat) : Int)), (0, .v (.slice s.A s.n s.c)), (1, .fn 131 [])], []⟩ [] [] (by kernel_rfl) on wn ?_
    refine l_nil (q_then_normal ?_)
    refine c_seq ?_
    refine c_region ?_
    refine JL_run 5 [(3, .idx s.ad i), (4, .ext [.int .u8 ((s.at i).toNat : Int)])] [15, 11, 5, 8, 7, 0, 1] 0 ⟨[(15, .v (.int .u8 ((s.at i).toNat : Int))), (11, .fn 131 []), (5, vI ((i : Nat) : Int)), (8, vI ((i : Nat) : Int)), (7, vI ((s.n : Nat) : Int)), (0, .v (.slice s.A s.n s.c)), (1, .fn 131 [])], []⟩ [s.A = some s.ad, ((i : Nat) : Int) = ((i : Nat) : Int), i < s.n] [(s.ad.add (i * 1), [.int .u8 ((s.at i).toNat : Int)])] (by kernel_rfl) (oc (Sl.ok.own (s := s) (i := i) oks (by omega)) (oc rfl (oc (by omega) on))) (fun w hk hr => ⟨(Sl.rd.all (s := s) (i := i) (Sl.rd.kp hs hk) (by omega) rfl), trivial⟩) ?_
    refine l_pure 131 [] [.v (.int .u8 ((s.at i).toNat : Int))] (.bool (nameBad (s.at i))) Try.call131 rfl rfl rfl rfl (fun bs w hS => lock_Name1 _ w) ?_
    refine l_nil (q_then_normal ?_)
    cases h2 : nameBad (s.at i) with
    | true =>
      refine c_if true rfl ?_
      refine c_seq ?_
      refine c_region ?_
      refine JL_run 2 [] [4] 0 ⟨[(4, vI ((i : Nat) : Int))], []⟩ [] [] (by kernel_rfl) on wn ?_
      refine l_nil (q_then_normal ?_)
      refine c_ret ?_
      refine q_block_ret (q_then_ret (q_then_ret (q_block_ret (q_then_ret (q_ret (.inl rfl) [vI ((i : Nat) : Int)] rfl (fun bs w hS => ?_))))))
      refine ⟨?_, hS.kp⟩
      rw [mIdx_here (by omega) (by assumption) hI]
      rfl
    | false =>
      refine c_if false rfl ?_
      refine c_skip ?_
      refine q_block_normal (q_then_normal ?_)
      refine c_region ?_
      refine JL_run 2 [] [8, 7, 0, 1] 0 ⟨[(8, vI (((i : Nat) : Int) + 1)), (7, vI ((s.n : Nat) : Int)), (0, .v (.slice s.A s.n s.c)), (1, .fn 131 [])], []⟩ [inR (((i : Nat) : Int) + 1)] [] (by kernel_rfl) (oc (by unfold inR; omega) on) wn ?_
      refine l_nil (q_loop (x := (i : Nat)) ((i + 1) : Nat) ⟨by omega, fun j hj => by rcases Nat.lt_succ_iff_lt_or_eq.1 hj with h | h; exact hI j h; subst h; assumption⟩ (by omega) (s_start [8, 7, 0, 1] 0 (by kernel_rfl) rfl))
  | false =>
    have h1 := of_decide_eq_false h1
    refine c_if false rfl ?_
    refine c_exit ?_
    refine q_then_exit (q_then_exit (q_block_hit (q_then_normal ?_)))
    refine c_seq ?_
    refine c_region ?_
    refine JL_run 1 [] [4] 0 ⟨[(4, vI (-1))], []⟩ [] [] (by kernel_rfl) on wn ?_
    refine l_nil (q_then_normal ?_)
    refine c_ret ?_
    refine q_ret (.inl rfl) [vI (-1)] rfl (fun bs w hS => ?_)
    refine ⟨?_, hS.kp⟩
    rw [mIdx_none fun j hj => hI j (by omega)]
    rfl

theorem has_bytes {B : Nat → Prop} (s : Sl UInt8) (w : World) (hs : s.rd B w) : Calls Try.prog 130 #[.slice s.A s.n s.c, .func (.func 131) #[] #[]] w fun e w' => e = .returned (.bool (s.xs.any nameBad)) ∧ Kp [] w w' := by
  have oks := Sl.rd.ok hs
  have ncs := Sl.ok.nc oks
  have hns : s.n = s.xs.length := rfl
  refine calls_J 9 [] Try.func130 rfl rfl [] [] [] [.v (.slice s.A s.n s.c), .fn 131 []] [.slice s.A s.n s.c, .func (.func 131) #[] #[]] rfl rfl (WS.start w) ?_
  refine c_seq ?_
  refine c_region ?_
  refine JL_run 1 [] [0, 1] 0 ⟨[(0, .v (.slice s.A s.n s.c)), (1, .fn 131 [])], []⟩ [] [] (by kernel_rfl) on wn ?_
  refine l_nil (q_then_normal ?_)
  refine c_seq ?_
  refine c_region ?_
  refine JL_run 2 [] [6, 5] 0 ⟨[(6, .fn 131 []), (5, .v (.slice s.A s.n s.c))], []⟩ [] [] (by kernel_rfl) on wn ?_
  refine l_pure 153 [] [.v (.slice s.A s.n s.c), .fn 131 []] (.int .i64 (mIdx nameBad s.xs)) Try.call153 rfl rfl rfl rfl (fun bs w hS => idx_bytes _ w (Sl.rd.kp hs hS.kp)) ?_
  refine JL_run 2 [] [4] 0 ⟨[(4, vB (decide ((0 : Int) ≤ mIdx nameBad s.xs)))], []⟩ [] [] (by kernel_rfl) on wn ?_
  refine l_nil (q_then_normal ?_)
  refine c_ret ?_
  refine q_ret (.inl rfl) [vB (decide ((0 : Int) ≤ mIdx nameBad s.xs))] rfl (fun bs w hS => ?_)
  refine ⟨?_, hS.kp⟩
  simp only [retOf, den, List.map_cons, List.map_nil, mIdx_nonneg]

theorem lock_Name (s : ByteArray) (w : World) (hs : s.size ≤ 9223372036854775807) : Calls Try.prog 90 #[.string s] w fun e w' => e = .returned (.bool (mName s)) ∧ Kp [] w w' := by
  refine calls_J0 16 Try.func90 rfl rfl [.string s] rfl ?_
  refine c_seq ?_
  refine c_region ?_
  refine JL_run 1 [] [0] 0 ⟨[(0, vS s)], []⟩ [] [] (by kernel_rfl) on wn ?_
  refine l_nil (q_then_normal ?_)
  refine c_seq ?_
  refine c_region ?_
  refine JL_run 3 [] [5, 0] 0 ⟨[(5, vB (!(decide (s = emp)))), (0, vS s)], []⟩ [] [] (by kernel_rfl) on wn ?_
  cases h1 : decide (s = emp) with
  | true =>
    have h1 := of_decide_eq_true h1
    refine JL_run 11 [] [2] 0 ⟨[(2, vB false)], []⟩ [] [] (by kernel_rfl) on wn ?_
    refine l_nil (q_then_normal ?_)
    refine c_ret ?_
    refine q_ret (.inl rfl) [vB false] rfl (fun bs w hS => ?_)
    refine ⟨?_, hS.kp⟩
    simp [retOf, den, mName, *]
  | false =>
    have h1 := of_decide_eq_false h1
    refine JL_run 5 [] [10, 0] 0 ⟨[(10, vB (decide ((s.size : Int) ≤ 6))), (0, vS s)], []⟩ [] [] (by kernel_rfl) on wn ?_
    cases h2 : decide ((s.size : Int) ≤ 6) with
    | true =>
      have h2 := of_decide_eq_true h2
      refine JL_run 1 [] [11, 10] 0 ⟨[(11, vS s), (10, vB true)], []⟩ [] [] (by kernel_rfl) on wn ?_
      refine l_strbytes 5 s Try.underlying9 Try.underlying163 Try.underlying5 (by unfold maxLen; omega) rfl rfl rfl ?_
      rintro fp1 y1 hF1 hok1
      refine l_pure 130 [] [.v (.slice y1.A y1.n y1.c), .fn 131 []] (.bool (y1.xs.any nameBad)) Try.call130 rfl rfl rfl rfl (fun bs w hS => has_bytes _ w (hS.res _ (.head _))) ?_
      refine JL_run 3 [] [2] 0 ⟨[(2, vB (!(y1.xs.any nameBad)))], []⟩ [] [] (by kernel_rfl) on wn ?_
      refine l_nil (q_then_normal ?_)
      refine c_ret ?_
      refine q_ret (.inl rfl) [vB (!(y1.xs.any nameBad))] rfl (fun bs w hS => ?_)
      refine ⟨?_, hS.kp⟩
      simp [retOf, den, mName, *]
    | false =>
      have h2 := of_decide_eq_false h2
      refine JL_run 6 [] [2] 0 ⟨[(2, vB false)], []⟩ [] [] (by kernel_rfl) on wn ?_
      refine l_nil (q_then_normal ?_)
      refine c_ret ?_
      refine q_ret (.inl rfl) [vB false] rfl (fun bs w hS => ?_)
      refine ⟨?_, hS.kp⟩
      simp [retOf, den, mName, *]

theorem ref_NameMay (s : ByteArray) (w : World) (hs : s.size ≤ 9223372036854775807) : Calls Try.prog 95 #[.string s] w fun e w' => e = .returned (.bool (mName s)) ∧ Kp [] w w' := by
  refine calls_J0 19 Try.func95 rfl rfl [.string s] rfl ?_
  refine c_seq ?_
  refine c_region ?_
  refine JL_run 1 [] [0] 0 ⟨[(0, vS s)], []⟩ [] [] (by kernel_rfl) on wn ?_
  refine l_nil (q_then_normal ?_)
  refine c_seq ?_
  refine c_seq ?_
  refine c_region ?_
  refine JL_run 1 [] [3, 0] 0 ⟨[(3, vI 0), (0, vS s)], []⟩ [] [] (by kernel_rfl) on wn ?_
  refine l_nil (q_then_normal ?_)
  refine c_block ?_
  refine c_loop (σ := Nat) (fun i => i ≤ s.size ∧ ∀ j, j < i → nameBad (s.data.getD j 0) = false) (fun i => s.size - i) (fun i => []) (fun i => ⟨[(3, vI ((i : Nat) : Int)), (0, vS s)], []⟩) 0 ⟨Nat.zero_le _, fun j hj => absurd hj (Nat.not_lt_zero _)⟩ (s_start [3, 0] 0 (by kernel_rfl) rfl) ?_
  rintro i ⟨hi, hI⟩
  have hu := (s.data.getD i 0).toNat_lt
  refine c_seq ?_
  refine c_seq ?_
  refine c_region ?_
  refine JL_run 4 [] [7, 3, 0] 0 ⟨[(7, vB (decide (((i : Nat) : Int) < (s.size : Int)))), (3, vI ((i : Nat) : Int)), (0, vS s)], []⟩ [] [] (by kernel_rfl) on wn ?_
  refine l_nil (q_then_normal ?_)
  cases h1 : decide (((i : Nat) : Int) < (s.size : Int)) with
  | true =>
    have h1 := of_decide_eq_true h1
    refine c_if true rfl ?_
    refine c_skip ?_
    refine q_then_normal ?_
    refine c_seq ?_
    refine c_block ?_
    refine c_seq ?_
    refine c_region ?_
    refine JL_run 4 [(2, .sidx i)] [13, 3, 0] 0 ⟨[(13, vI ((s.data.getD i 0).toNat : Int)), (3, vI ((i : Nat) : Int)), (0, vS s)], []⟩ [((i : Nat) : Int) = ((i : Nat) : Int), i < s.size, 0 ≤ ((s.data.getD i 0).toNat : Int), ((s.data.getD i 0).toNat : Int) ≤ 255] [] (by kernel_rfl) (oc rfl (oc (by omega) (oc (by omega) (oc (by omega) on)))) wn ?_
    refine l_pure 64 [] [vI ((s.data.getD i 0).toNat : Int), vI 97, vI 122] (.bool (inB ((s.data.getD i 0).toNat : Int) 97 122)) Try.call64 rfl rfl rfl rfl (fun bs w hS => ref_In _ _ _ w) ?_
    refine JL_run 1 [] [15, 3, 0] 0 ⟨[(15, vB (!(inB ((s.data.getD i 0).toNat : Int) 97 122))), (3, vI ((i : Nat) : Int)), (0, vS s)], []⟩ [] [] (by kernel_rfl) on wn ?_
    refine l_nil (q_then_normal ?_)
    cases h2 : inB ((s.data.getD i 0).toNat : Int) 97 122 with
    | true =>
      refine c_if false rfl ?_
      refine c_skip ?_
      refine q_block_normal (q_then_normal ?_)
      refine c_region ?_
      refine JL_run 3 [] [3, 0] 0 ⟨[(3, vI (((i : Nat) : Int) + 1)), (0, vS s)], []⟩ [inR (((i : Nat) : Int) + 1)] [] (by kernel_rfl) (oc (by unfold inR; omega) on) wn ?_
      refine l_nil (q_loop (x := (i : Nat)) ((i + 1) : Nat) ⟨by omega, fun j hj => by rcases Nat.lt_succ_iff_lt_or_eq.1 hj with h | h; exact hI j h; subst h; simp only [inB, nameBad, Bool.and_eq_true, Bool.or_eq_false_iff, decide_eq_true_eq, decide_eq_false_iff_not] at *; omega⟩ (by omega) (s_start [3, 0] 0 (by kernel_rfl) rfl))
    | false =>
      refine c_if true rfl ?_
      refine c_seq ?_
      refine c_region ?_
      refine JL_run 1 [] [2] 0 ⟨[(2, vB false)], []⟩ [] [] (by kernel_rfl) on wn ?_
      refine l_nil (q_then_normal ?_)
      refine c_ret ?_
      refine q_block_ret (q_then_ret (q_then_ret (q_block_ret (q_then_ret (q_ret (.inl rfl) [vB false] rfl (fun bs w hS => ?_))))))
      refine ⟨?_, hS.kp⟩
      rw [mName_bad (i := i) (by omega) (by simp only [inB, nameBad, Bool.and_eq_false_iff, Bool.or_eq_true, decide_eq_true_eq, decide_eq_false_iff_not] at *; omega)]
      rfl
  | false =>
    have h1 := of_decide_eq_false h1
    refine c_if false rfl ?_
    refine c_exit ?_
    refine q_then_exit (q_then_exit (q_block_hit (q_then_normal ?_)))
    refine c_seq ?_
    refine c_region ?_
    refine JL_run 2 [] [17] 0 ⟨[(17, vI (s.size : Int))], []⟩ [] [] (by kernel_rfl) on wn ?_
    refine l_pure 64 [] [vI (s.size : Int), vI 1, vI 6] (.bool (inB (s.size : Int) 1 6)) Try.call64 rfl rfl rfl rfl (fun bs w hS => ref_In _ _ _ w) ?_
    refine JL_run 1 [] [2] 0 ⟨[(2, vB (inB (s.size : Int) 1 6))], []⟩ [] [] (by kernel_rfl) on wn ?_
    refine l_nil (q_then_normal ?_)
    refine c_ret ?_
    refine q_ret (.inl rfl) [vB (inB (s.size : Int) 1 6)] rfl (fun bs w hS => ?_)
    refine ⟨?_, hS.kp⟩
    simp only [retOf, den, List.map_cons, List.map_nil, mName_good fun j hj => hI j (by omega)]

theorem codec_ReadNumber (s : ByteArray) (w : World) (hs : s.size ≤ 9223372036854775807) : Calls Try.prog 147 #[.string s] w fun e w' => e = .returned (.tuple #[.int .i64 (mRead s).1, .string (mRead s).2.1, .int .i64 (mRead s).2.2]) ∧ Kp [] w w' := by
  refine calls_J0 46 Try.func147 rfl rfl [.string s] rfl ?_
  refine c_seq ?_
  refine c_region ?_
  refine JL_run 3 [] [0] 0 ⟨[(0, vS s)], []⟩ [] [] (by kernel_rfl) on wn ?_
  refine l_nil (q_then_normal ?_)
  refine c_seq ?_
  refine c_region ?_
  refine JL_run 1 [] [5, 0] 0 ⟨[(5, vI 0), (0, vS s)], []⟩ [] [] (by kernel_rfl) on wn ?_
  refine l_nil (q_then_normal ?_)
  refine c_seq ?_
  refine c_seq ?_
  refine c_region ?_
  refine JL_run 1 [] [6, 5, 0] 0 ⟨[(6, vI 0), (5, vI 0), (0, vS s)], []⟩ [] [] (by kernel_rfl) on wn ?_
  refine l_nil (q_then_normal ?_)
  refine c_block ?_
  refine c_loop (σ := Nat × Int) (fun ⟨i, n⟩ => RdIn s i n) (fun ⟨i, n⟩ => 6 - i) (fun ⟨i, n⟩ => []) (fun ⟨i, n⟩ => ⟨[(6, vI ((i : Nat) : Int)), (5, vI n), (0, vS s)], []⟩) ⟨0, 0⟩ (RdIn.start s) (s_start [6, 5, 0] 0 (by kernel_rfl) rfl) ?_
  rintro ⟨i, n⟩ hI
  have hle := hI.le
  have hsz := hI.sz
  have hlo := hI.lo
  have hhi := hI.hi
  have hu := (s.data.getD i 0).toNat_lt
  have hbt := and127_bd (s.data.getD i 0)
  refine c_seq ?_
  refine c_seq ?_
  refine c_region ?_
  refine JL_run 2 [] [8, 6, 5, 0] 0 ⟨[(8, vB (decide (((i : Nat) : Int) < 6))), (6, vI ((i : Nat) : Int)), (5, vI n), (0, vS s)], []⟩ [] [] (by kernel_rfl) on wn ?_
  refine l_nil (q_then_normal ?_)
  cases h1 : decide (((i : Nat) : Int) < 6) with
  | true =>
    have h1 := of_decide_eq_true h1
    refine c_if true rfl ?_
    refine c_skip ?_
    refine q_then_normal ?_
    refine c_seq ?_
    refine c_block ?_
    refine c_seq ?_
    refine c_seq ?_
    refine c_region ?_
    refine JL_run 4 [] [14, 6, 5, 0] 0 ⟨[(14, vB (decide (((i : Nat) : Int) = (s.size : Int)))), (6, vI ((i : Nat) : Int)), (5, vI n), (0, vS s)], []⟩ [] [] (by kernel_rfl) on wn ?_
    refine l_nil (q_then_normal ?_)
    cases h2 : decide (((i : Nat) : Int) = (s.size : Int)) with
    | true =>
      have h2 := of_decide_eq_true h2
      refine c_if true rfl ?_
      refine c_seq ?_
      refine c_region ?_
      refine JL_run 3 [] [4, 3, 2] 0 ⟨[(4, vI 5), (3, vS emp), (2, vI 0)], []⟩ [] [] (by kernel_rfl) on wn ?_
      refine l_nil (q_then_normal ?_)
      refine c_ret ?_
      refine q_then_ret (q_block_ret (q_then_ret (q_then_ret (q_block_ret (q_then_ret (q_ret (.inl rfl) [vI 0, vS emp, vI 5] rfl (fun bs w hS => ?_)))))))
      refine ⟨?_, hS.kp⟩
      rw [hI.short (by omega) (by omega)]
      simp only [retOf, den, List.map_cons, List.map_nil]
    | false =>
      have h2 := of_decide_eq_false h2
      refine c_if false rfl ?_
      refine c_skip ?_
      refine q_then_normal ?_
      refine c_seq ?_
      refine c_region ?_
      refine JL_run 11 [(3, .sidx i)] [5, 6, 0] 0 ⟨[(5, vI (bits .or .i64 n (IntKind.i64.wrap ((bits .and .u8 ((s.data.getD i 0).toNat : Int) 127) * 2 ^ ((7 : Int) * ((i : Nat) : Int) : Int).toNat)))), (6, vI ((i : Nat) : Int)), (0, vS s)], []⟩ [((i : Nat) : Int) = ((i : Nat) : Int), i < s.size, 0 ≤ (bits .and .u8 ((s.data.getD i 0).toNat : Int) 127), (bits .and .u8 ((s.data.getD i 0).toNat : Int) 127) ≤ 255, inR ((7 : Int) * ((i : Nat) : Int)), (0 : Int) ≤ (7 : Int) * ((i : Nat) : Int), (7 : Int) * ((i : Nat) : Int) ≤ (64 : Int)] [] (by kernel_rfl) (oc rfl (oc (by omega) (oc (by omega) (oc (by omega) (oc (by unfold inR; omega) (oc (by omega) (oc (by omega) on))))))) wn ?_
      refine l_nil (q_then_normal ?_)
      refine c_seq ?_
      refine c_seq ?_
      refine c_region ?_
      refine JL_run 4 [(2, .sidx i)] [28, 5, 6, 0] 0 ⟨[(28, vB (decide ((128 : Int) ≤ ((s.data.getD i 0).toNat : Int)))), (5, vI (bits .or .i64 n (IntKind.i64.wrap ((bits .and .u8 ((s.data.getD i 0).toNat : Int) 127) * 2 ^ ((7 : Int) * ((i : Nat) : Int) : Int).toNat)))), (6, vI ((i : Nat) : Int)), (0, vS s)], []⟩ [((i : Nat) : Int) = ((i : Nat) : Int), i < s.size] [] (by kernel_rfl) (oc rfl (oc (by omega) on)) wn ?_
      refine l_nil (q_then_normal ?_)
      cases h3 : decide ((128 : Int) ≤ ((s.data.getD i 0).toNat : Int)) with
      | true =>
        have h3 := of_decide_eq_true h3
        refine c_if true rfl ?_
        refine c_exit ?_
        refine q_then_exit (q_block_hit (q_then_normal ?_))
        refine c_region ?_
        refine JL_run 3 [] [6, 5, 0] 0 ⟨[(6, vI (((i : Nat) : Int) + 1)), (5, vI (bits .or .i64 n (IntKind.i64.wrap ((bits .and .u8 ((s.data.getD i 0).toNat : Int) 127) * 2 ^ ((7 : Int) * ((i : Nat) : Int) : Int).toNat)))), (0, vS s)], []⟩ [inR (((i : Nat) : Int) + 1)] [] (by kernel_rfl) (oc (by unfold inR; omega) on) wn ?_
        refine l_nil (q_loop (x := (⟨i, n⟩ : Nat × Int)) (⟨i + 1, bits .or .i64 n (IntKind.i64.wrap ((bits .and .u8 ((s.data.getD i 0).toNat : Int) 127) * 2 ^ ((7 : Int) * ((i : Nat) : Int) : Int).toNat))⟩ : Nat × Int) (by show RdIn s (i + 1) _; rw [or_shift s i n hI.lo hI.hi (by omega)]; exact hI.step (by omega) (by omega) (by omega)) (by show 6 - (i + 1) < 6 - i; omega) (s_start [6, 5, 0] 0 (by kernel_rfl) rfl))
      | false =>
        have h3 := of_decide_eq_false h3
        refine c_if false rfl ?_
        refine c_skip ?_
        refine q_then_normal ?_
        refine c_seq ?_
        refine c_seq ?_
        refine c_region ?_
        refine JL_run 5 [(2, .sidx i)] [33, 5, 6, 0] 0 ⟨[(33, vB (decide (((s.data.getD i 0).toNat : Int) = 0))), (5, vI (bits .or .i64 n (IntKind.i64.wrap ((bits .and .u8 ((s.data.getD i 0).toNat : Int) 127) * 2 ^ ((7 : Int) * ((i : Nat) : Int) : Int).toNat)))), (6, vI ((i : Nat) : Int)), (0, vS s)], []⟩ [((i : Nat) : Int) = ((i : Nat) : Int), i < s.size] [] (by kernel_rfl) (oc rfl (oc (by omega) on)) wn ?_
        cases h4 : decide (((s.data.getD i 0).toNat : Int) = 0) with
        | true =>
          have h4 := of_decide_eq_true h4
          refine JL_run 4 [] [37, 5, 6, 0] 0 ⟨[(37, vB (decide ((0 : Int) < ((i : Nat) : Int)))), (5, vI (bits .or .i64 n (IntKind.i64.wrap ((bits .and .u8 ((s.data.getD i 0).toNat : Int) 127) * 2 ^ ((7 : Int) * ((i : Nat) : Int) : Int).toNat)))), (6, vI ((i : Nat) : Int)), (0, vS s)], []⟩ [] [] (by kernel_rfl) on wn ?_
          cases h5 : decide ((0 : Int) < ((i : Nat) : Int)) with
          | true =>
            have h5 := of_decide_eq_true h5
            refine JL_run 3 [] [40, 5, 6, 0] 0 ⟨[(40, vB true), (5, vI (bits .or .i64 n (IntKind.i64.wrap ((bits .and .u8 ((s.data.getD i 0).toNat : Int) 127) * 2 ^ ((7 : Int) * ((i : Nat) : Int) : Int).toNat)))), (6, vI ((i : Nat) : Int)), (0, vS s)], []⟩ [] [] (by kernel_rfl) on wn ?_
            refine l_nil (q_then_normal ?_)
            refine c_if true rfl ?_
            refine c_seq ?_
            refine c_region ?_
            refine JL_run 3 [] [4, 3, 2] 0 ⟨[(4, vI 4), (3, vS emp), (2, vI 0)], []⟩ [] [] (by kernel_rfl) on wn ?_
            refine l_nil (q_then_normal ?_)
            refine c_ret ?_
            refine q_then_ret (q_block_ret (q_then_ret (q_then_ret (q_block_ret (q_then_ret (q_ret (.inl rfl) [vI 0, vS emp, vI 4] rfl (fun bs w hS => ?_)))))))
            refine ⟨?_, hS.kp⟩
            have hor := or_shift s i n hI.lo hI.hi (by omega)
            try rw [hor] at h5
            try rw [hor]
            rw [hI.last (by omega) (by omega) (by omega), if_pos (by omega)]
            simp only [retOf, den, List.map_cons, List.map_nil]
          | false =>
            have h5 := of_decide_eq_false h5
            refine JL_run 3 [] [40, 5, 6, 0] 0 ⟨[(40, vB (decide ((1099511627776 : Int) < bits .or .i64 n (IntKind.i64.wrap ((bits .and .u8 ((s.data.getD i 0).toNat : Int) 127) * 2 ^ ((7 : Int) * ((i : Nat) : Int) : Int).toNat))))), (5, vI (bits .or .i64 n (IntKind.i64.wrap ((bits .and .u8 ((s.data.getD i 0).toNat : Int) 127) * 2 ^ ((7 : Int) * ((i : Nat) : Int) : Int).toNat)))), (6, vI ((i : Nat) : Int)), (0, vS s)], []⟩ [] [] (by kernel_rfl) on wn ?_
            refine l_nil (q_then_normal ?_)
            cases h6 : decide ((1099511627776 : Int) < bits .or .i64 n (IntKind.i64.wrap ((bits .and .u8 ((s.data.getD i 0).toNat : Int) 127) * 2 ^ ((7 : Int) * ((i : Nat) : Int) : Int).toNat))) with
            | true =>
              have h6 := of_decide_eq_true h6
              refine c_if true rfl ?_
              refine c_seq ?_
              refine c_region ?_
              refine JL_run 3 [] [4, 3, 2] 0 ⟨[(4, vI 4), (3, vS emp), (2, vI 0)], []⟩ [] [] (by kernel_rfl) on wn ?_
              refine l_nil (q_then_normal ?_)
              refine c_ret ?_
              refine q_then_ret (q_block_ret (q_then_ret (q_then_ret (q_block_ret (q_then_ret (q_ret (.inl rfl) [vI 0, vS emp, vI 4] rfl (fun bs w hS => ?_)))))))
              refine ⟨?_, hS.kp⟩
              have hor := or_shift s i n hI.lo hI.hi (by omega)
              try rw [hor] at h6
              try rw [hor]
              rw [hI.last (by omega) (by omega) (by omega), if_pos (by omega)]
              simp only [retOf, den, List.map_cons, List.map_nil]
            | false =>
              have h6 := of_decide_eq_false h6
              refine c_if false rfl ?_
              refine c_skip ?_
              refine q_then_normal ?_
              refine c_seq ?_
              refine c_draw 8 [] (.p 0 (.p 1 (.p 2 (.p 3 (.p 4 (.p 5 (.p 6 (.p 7 .nil)))))))) [] [] Try_mixed (by kernel_rfl) (pq_then (pq_block (pq_then (pq_then (pq_block (pq_then pq_body)))))) .slnil ?_
              refine h_quiet [(4, .sl (i + 1) s.size)] [(0, true), (1, true), (2, true), (3, true), (4, true), (5, true), (6, true), (7, true)] [(4, vI 0), (3, vS (s.extract (i + 1) s.size)), (2, vI (bits .or .i64 n (IntKind.i64.wrap ((bits .and .u8 ((s.data.getD i 0).toNat : Int) 127) * 2 ^ ((7 : Int) * ((i : Nat) : Int) : Int).toNat)))), (45, vS (s.extract (i + 1) s.size)), (44, vI (((i : Nat) : Int) + 1)), (43, vI ((i : Nat) : Int)), (42, vS s), (41, vI (bits .or .i64 n (IntKind.i64.wrap ((bits .and .u8 ((s.data.getD i 0).toNat : Int) 127) * 2 ^ ((7 : Int) * ((i : Nat) : Int) : Int).toNat)))), (40, vB false), (5, vI (bits .or .i64 n (IntKind.i64.wrap ((bits .and .u8 ((s.data.getD i 0).toNat : Int) 127) * 2 ^ ((7 : Int) * ((i : Nat) : Int) : Int).toNat)))), (6, vI ((i : Nat) : Int)), (0, vS s)] [inR (((i : Nat) : Int) + 1), ((i : Nat) : Int) + 1 = (((i + 1) : Nat) : Int), s.size = s.size, (i + 1) ≤ s.size] [] rfl (by kernel_rfl) (oc (by unfold inR; omega) (oc (by omega) (oc rfl (oc (by omega) on)))) wn ?_
              refine h_nil ?_
              refine l_nil (q_then_normal ?_)
              refine c_ret ?_
              refine q_block_ret (q_then_ret (q_then_ret (q_block_ret (q_then_ret (q_ret (.inl rfl) [vI (bits .or .i64 n (IntKind.i64.wrap ((bits .and .u8 ((s.data.getD i 0).toNat : Int) 127) * 2 ^ ((7 : Int) * ((i : Nat) : Int) : Int).toNat))), vS (s.extract (i + 1) s.size), vI 0] rfl (fun bs w hS => ?_))))))
              refine ⟨?_, hS.kp⟩
              have hor := or_shift s i n hI.lo hI.hi (by omega)
              try rw [hor] at h6
              try rw [hor]
              rw [hI.last (by omega) (by omega) (by omega), if_neg (by omega)]
              simp only [retOf, den, List.map_cons, List.map_nil]
        | false =>
          have h4 := of_decide_eq_false h4
          refine JL_run 7 [] [40, 5, 6, 0] 0 ⟨[(40, vB (decide ((1099511627776 : Int) < bits .or .i64 n (IntKind.i64.wrap ((bits .and .u8 ((s.data.getD i 0).toNat : Int) 127) * 2 ^ ((7 : Int) * ((i : Nat) : Int) : Int).toNat))))), (5, vI (bits .or .i64 n (IntKind.i64.wrap ((bits .and .u8 ((s.data.getD i 0).toNat : Int) 127) * 2 ^ ((7 : Int) * ((i : Nat) : Int) : Int).toNat)))), (6, vI ((i : Nat) : Int)), (0, vS s)], []⟩ [] [] (by kernel_rfl) on wn ?_
          refine l_nil (q_then_normal ?_)
          cases h7 : decide ((1099511627776 : Int) < bits .or .i64 n (IntKind.i64.wrap ((bits .and .u8 ((s.data.getD i 0).toNat : Int) 127) * 2 ^ ((7 : Int) * ((i : Nat) : Int) : Int).toNat))) with
          | true =>
            have h7 := of_decide_eq_true h7
            refine c_if true rfl ?_
            refine c_seq ?_
            refine c_region ?_
            refine JL_run 3 [] [4, 3, 2] 0 ⟨[(4, vI 4), (3, vS emp), (2, vI 0)], []⟩ [] [] (by kernel_rfl) on wn ?_
            refine l_nil (q_then_normal ?_)
            refine c_ret ?_
            refine q_then_ret (q_block_ret (q_then_ret (q_then_ret (q_block_ret (q_then_ret (q_ret (.inl rfl) [vI 0, vS emp, vI 4] rfl (fun bs w hS => ?_)))))))
            refine ⟨?_, hS.kp⟩
            have hor := or_shift s i n hI.lo hI.hi (by omega)
            try rw [hor] at h7
            try rw [hor]
            rw [hI.last (by omega) (by omega) (by omega), if_pos (by omega)]
            simp only [retOf, den, List.map_cons, List.map_nil]
          | false =>
            have h7 := of_decide_eq_false h7
            refine c_if false rfl ?_
            refine c_skip ?_
            refine q_then_normal ?_
            refine c_seq ?_
            refine c_draw 8 [] (.p 0 (.p 1 (.p 2 (.p 3 (.p 4 (.p 5 (.p 6 (.p 7 .nil)))))))) [] [] Try_mixed (by kernel_rfl) (pq_then (pq_block (pq_then (pq_then (pq_block (pq_then pq_body)))))) .slnil ?_
            refine h_quiet [(4, .sl (i + 1) s.size)] [(0, true), (1, true), (2, true), (3, true), (4, true), (5, true), (6, true), (7, true)] [(4, vI 0), (3, vS (s.extract (i + 1) s.size)), (2, vI (bits .or .i64 n (IntKind.i64.wrap ((bits .and .u8 ((s.data.getD i 0).toNat : Int) 127) * 2 ^ ((7 : Int) * ((i : Nat) : Int) : Int).toNat)))), (45, vS (s.extract (i + 1) s.size)), (44, vI (((i : Nat) : Int) + 1)), (43, vI ((i : Nat) : Int)), (42, vS s), (41, vI (bits .or .i64 n (IntKind.i64.wrap ((bits .and .u8 ((s.data.getD i 0).toNat : Int) 127) * 2 ^ ((7 : Int) * ((i : Nat) : Int) : Int).toNat)))), (40, vB false), (5, vI (bits .or .i64 n (IntKind.i64.wrap ((bits .and .u8 ((s.data.getD i 0).toNat : Int) 127) * 2 ^ ((7 : Int) * ((i : Nat) : Int) : Int).toNat)))), (6, vI ((i : Nat) : Int)), (0, vS s)] [inR (((i : Nat) : Int) + 1), ((i : Nat) : Int) + 1 = (((i + 1) : Nat) : Int), s.size = s.size, (i + 1) ≤ s.size] [] rfl (by kernel_rfl) (oc (by unfold inR; omega) (oc (by omega) (oc rfl (oc (by omega) on)))) wn ?_
            refine h_nil ?_
            refine l_nil (q_then_normal ?_)
            refine c_ret ?_
            refine q_block_ret (q_then_ret (q_then_ret (q_block_ret (q_then_ret (q_ret (.inl rfl) [vI (bits .or .i64 n (IntKind.i64.wrap ((bits .and .u8 ((s.data.getD i 0).toNat : Int) 127) * 2 ^ ((7 : Int) * ((i : Nat) : Int) : Int).toNat))), vS (s.extract (i + 1) s.size), vI 0] rfl (fun bs w hS => ?_))))))
            refine ⟨?_, hS.kp⟩
            have hor := or_shift s i n hI.lo hI.hi (by omega)
            try rw [hor] at h7
            try rw [hor]
            rw [hI.last (by omega) (by omega) (by omega), if_neg (by omega)]
            simp only [retOf, den, List.map_cons, List.map_nil]
  | false =>
    have h1 := of_decide_eq_false h1
    refine c_if false rfl ?_
    refine c_exit ?_
    refine q_then_exit (q_then_exit (q_block_hit (q_then_normal ?_)))
    refine c_seq ?_
    refine c_region ?_
    refine JL_run 3 [] [4, 3, 2] 0 ⟨[(4, vI 4), (3, vS emp), (2, vI 0)], []⟩ [] [] (by kernel_rfl) on wn ?_
    refine l_nil (q_then_normal ?_)
    refine c_ret ?_
    refine q_ret (.inl rfl) [vI 0, vS emp, vI 4] rfl (fun bs w hS => ?_)
    refine ⟨?_, hS.kp⟩
    rw [hI.out (by omega)]
    simp only [retOf, den, List.map_cons, List.map_nil]

theorem ref_NumberOf (s : ByteArray) (w : World) (hs : s.size ≤ 9223372036854775807) : Calls Try.prog 116 #[.string s] w fun e w' => e = .returned (.tuple #[.int .i64 (mRead s).1, .string (mRead s).2.1, .int .i64 (mRead s).2.2]) ∧ Kp [] w w' := by
  refine calls_J0 48 Try.func116 rfl rfl [.string s] rfl ?_
  refine c_seq ?_
  refine c_region ?_
  refine JL_run 3 [] [0] 0 ⟨[(0, vS s)], []⟩ [] [] (by kernel_rfl) on wn ?_
  refine l_nil (q_then_normal ?_)
  refine c_seq ?_
  refine c_region ?_
  refine JL_run 1 [] [5, 0] 0 ⟨[(5, vI 0), (0, vS s)], []⟩ [] [] (by kernel_rfl) on wn ?_
  refine l_nil (q_then_normal ?_)
  refine c_seq ?_
  refine c_region ?_
  refine JL_run 1 [] [6, 5, 0] 0 ⟨[(6, vI 1), (5, vI 0), (0, vS s)], []⟩ [] [] (by kernel_rfl) on wn ?_
  refine l_nil (q_then_normal ?_)
  refine c_seq ?_
  refine c_seq ?_
  refine c_region ?_
  refine JL_run 1 [] [7, 6, 5, 0] 0 ⟨[(7, vI 0), (6, vI 1), (5, vI 0), (0, vS s)], []⟩ [] [] (by kernel_rfl) on wn ?_
  refine l_nil (q_then_normal ?_)
  refine c_block ?_
  refine c_loop (σ := Nat × Int) (fun ⟨i, n⟩ => RdIn s i n) (fun ⟨i, n⟩ => 6 - i) (fun ⟨i, n⟩ => []) (fun ⟨i, n⟩ => ⟨[(7, vI ((i : Nat) : Int)), (6, vI ((128 : Int) ^ i)), (5, vI n), (0, vS s)], []⟩) ⟨0, 0⟩ (RdIn.start s) (s_start [7, 6, 5, 0] 0 (by kernel_rfl) rfl) ?_
  rintro ⟨i, n⟩ hI
  have hle := hI.le
  have hsz := hI.sz
  have hlo := hI.lo
  have hhi := hI.hi
  have hu := (s.data.getD i 0).toNat_lt
  have hbt := unit_bd (s.data.getD i 0) i hle
  refine c_seq ?_
  refine c_seq ?_
  refine c_region ?_
  refine JL_run 2 [] [9, 7, 6, 5, 0] 0 ⟨[(9, vB (decide (((i : Nat) : Int) < 6))), (7, vI ((i : Nat) : Int)), (6, vI ((128 : Int) ^ i)), (5, vI n), (0, vS s)], []⟩ [] [] (by kernel_rfl) on wn ?_
  refine l_nil (q_then_normal ?_)
  cases h1 : decide (((i : Nat) : Int) < 6) with
  | true =>
    have h1 := of_decide_eq_true h1
    refine c_if true rfl ?_
    refine c_skip ?_
    refine q_then_normal ?_
    refine c_seq ?_
    refine c_block ?_
    refine c_seq ?_
    refine c_seq ?_
    refine c_region ?_
    refine JL_run 4 [] [15, 7, 6, 5, 0] 0 ⟨[(15, vB (decide ((s.size : Int) ≤ ((i : Nat) : Int)))), (7, vI ((i : Nat) : Int)), (6, vI ((128 : Int) ^ i)), (5, vI n), (0, vS s)], []⟩ [] [] (by kernel_rfl) on wn ?_
    refine l_nil (q_then_normal ?_)
    cases h2 : decide ((s.size : Int) ≤ ((i : Nat) : Int)) with
    | true =>
      have h2 := of_decide_eq_true h2
      refine c_if true rfl ?_
      refine c_seq ?_
      refine c_region ?_
      refine JL_run 3 [] [4, 3, 2] 0 ⟨[(4, vI 5), (3, vS emp), (2, vI 0)], []⟩ [] [] (by kernel_rfl) on wn ?_
      refine l_nil (q_then_normal ?_)
      refine c_ret ?_
      refine q_then_ret (q_block_ret (q_then_ret (q_then_ret (q_block_ret (q_then_ret (q_ret (.inl rfl) [vI 0, vS emp, vI 5] rfl (fun bs w hS => ?_)))))))
      refine ⟨?_, hS.kp⟩
      rw [hI.short (by omega) (by omega)]
      simp only [retOf, den, List.map_cons, List.map_nil]
    | false =>
      have h2 := of_decide_eq_false h2
      refine c_if false rfl ?_
      refine c_skip ?_
      refine q_then_normal ?_
      refine c_seq ?_
      refine c_region ?_
      refine JL_run 10 [(4, .sidx i)] [5, 7, 6, 0] 0 ⟨[(5, vI (n + (((128 : Int) ^ i) * (((s.data.getD i 0).toNat : Int) % 128)))), (7, vI ((i : Nat) : Int)), (6, vI ((128 : Int) ^ i)), (0, vS s)], []⟩ [((i : Nat) : Int) = ((i : Nat) : Int), i < s.size, 0 ≤ ((s.data.getD i 0).toNat : Int), ((s.data.getD i 0).toNat : Int) ≤ 255, 0 ≤ ((s.data.getD i 0).toNat : Int), (0 : Int) < 128, inR (((128 : Int) ^ i) * (((s.data.getD i 0).toNat : Int) % 128)), inR (n + (((128 : Int) ^ i) * (((s.data.getD i 0).toNat : Int) % 128)))] [] (by kernel_rfl) (oc rfl (oc (by omega) (oc (by omega) (oc (by omega) (oc (by omega) (oc (by omega) (oc (by unfold inR; omega) (oc (by unfold inR; omega) on)))))))) wn ?_
      refine l_nil (q_then_normal ?_)
      refine c_seq ?_
      refine c_region ?_
      refine JL_run 3 [] [6, 5, 7, 0] 0 ⟨[(6, vI (((128 : Int) ^ i) * 128)), (5, vI (n + (((128 : Int) ^ i) * (((s.data.getD i 0).toNat : Int) % 128)))), (7, vI ((i : Nat) : Int)), (0, vS s)], []⟩ [inR (((128 : Int) ^ i) * 128)] [] (by kernel_rfl) (oc (by unfold inR; omega) on) wn ?_
      refine l_nil (q_then_normal ?_)
      refine c_seq ?_
      refine c_region ?_
      refine JL_run 4 [(2, .sidx i)] [30, 6, 5, 7, 0] 0 ⟨[(30, vB (decide (((s.data.getD i 0).toNat : Int) < 128))), (6, vI (((128 : Int) ^ i) * 128)), (5, vI (n + (((128 : Int) ^ i) * (((s.data.getD i 0).toNat : Int) % 128)))), (7, vI ((i : Nat) : Int)), (0, vS s)], []⟩ [((i : Nat) : Int) = ((i : Nat) : Int), i < s.size] [] (by kernel_rfl) (oc rfl (oc (by omega) on)) wn ?_
      refine l_nil (q_then_normal ?_)
      cases h3 : decide (((s.data.getD i 0).toNat : Int) < 128) with
      | true =>
        have h3 := of_decide_eq_true h3
        refine c_if true rfl ?_
        refine c_seq ?_
        refine c_seq ?_
        refine c_region ?_
        refine JL_run 3 [] [33, 5, 7, 0] 0 ⟨[(33, vB (decide ((0 : Int) < ((i : Nat) : Int)))), (5, vI (n + (((128 : Int) ^ i) * (((s.data.getD i 0).toNat : Int) % 128)))), (7, vI ((i : Nat) : Int)), (0, vS s)], []⟩ [] [] (by kernel_rfl) on wn ?_
        cases h4 : decide ((0 : Int) < ((i : Nat) : Int)) with
        | true =>
          have h4 := of_decide_eq_true h4
          refine JL_run 6 [(2, .sidx i)] [39, 5, 7, 0] 0 ⟨[(39, vB (decide (((s.data.getD i 0).toNat : Int) = 0))), (5, vI (n + (((128 : Int) ^ i) * (((s.data.getD i 0).toNat : Int) % 128)))), (7, vI ((i : Nat) : Int)), (0, vS s)], []⟩ [((i : Nat) : Int) = ((i : Nat) : Int), i < s.size] [] (by kernel_rfl) (oc rfl (oc (by omega) on)) wn ?_
          cases h5 : decide (((s.data.getD i 0).toNat : Int) = 0) with
          | true =>
            have h5 := of_decide_eq_true h5
            refine JL_run 3 [] [42, 5, 7, 0] 0 ⟨[(42, vB true), (5, vI (n + (((128 : Int) ^ i) * (((s.data.getD i 0).toNat : Int) % 128)))), (7, vI ((i : Nat) : Int)), (0, vS s)], []⟩ [] [] (by kernel_rfl) on wn ?_
            refine l_nil (q_then_normal ?_)
            refine c_if true rfl ?_
            refine c_seq ?_
            refine c_region ?_
            refine JL_run 3 [] [4, 3, 2] 0 ⟨[(4, vI 4), (3, vS emp), (2, vI 0)], []⟩ [] [] (by kernel_rfl) on wn ?_
            refine l_nil (q_then_normal ?_)
            refine c_ret ?_
            refine q_then_ret (q_block_ret (q_then_ret (q_then_ret (q_block_ret (q_then_ret (q_ret (.inl rfl) [vI 0, vS emp, vI 4] rfl (fun bs w hS => ?_)))))))
            refine ⟨?_, hS.kp⟩
            rw [hI.last (by omega) (by omega) (by omega), if_pos (by omega)]
            simp only [retOf, den, List.map_cons, List.map_nil]
          | false =>
            have h5 := of_decide_eq_false h5
            refine JL_run 3 [] [42, 5, 7, 0] 0 ⟨[(42, vB (decide ((1099511627776 : Int) < n + (((128 : Int) ^ i) * (((s.data.getD i 0).toNat : Int) % 128))))), (5, vI (n + (((128 : Int) ^ i) * (((s.data.getD i 0).toNat : Int) % 128)))), (7, vI ((i : Nat) : Int)), (0, vS s)], []⟩ [] [] (by kernel_rfl) on wn ?_
            refine l_nil (q_then_normal ?_)
            cases h6 : decide ((1099511627776 : Int) < n + (((128 : Int) ^ i) * (((s.data.getD i 0).toNat : Int) % 128))) with
            | true =>
              have h6 := of_decide_eq_true h6
              refine c_if true rfl ?_
              refine c_seq ?_
              refine c_region ?_
              refine JL_run 3 [] [4, 3, 2] 0 ⟨[(4, vI 4), (3, vS emp), (2, vI 0)], []⟩ [] [] (by kernel_rfl) on wn ?_
              refine l_nil (q_then_normal ?_)
              refine c_ret ?_
              refine q_then_ret (q_block_ret (q_then_ret (q_then_ret (q_block_ret (q_then_ret (q_ret (.inl rfl) [vI 0, vS emp, vI 4] rfl (fun bs w hS => ?_)))))))
              refine ⟨?_, hS.kp⟩
              rw [hI.last (by omega) (by omega) (by omega), if_pos (by omega)]
              simp only [retOf, den, List.map_cons, List.map_nil]
            | false =>
              have h6 := of_decide_eq_false h6
              refine c_if false rfl ?_
              refine c_skip ?_
              refine q_then_normal ?_
              refine c_seq ?_
              refine c_draw 8 [] (.p 0 (.p 1 (.p 2 (.p 3 (.p 4 (.p 5 (.p 6 (.p 7 .nil)))))))) [] [] Try_mixed (by kernel_rfl) (pq_then (pq_block (pq_then (pq_then (pq_block (pq_then pq_body)))))) .slnil ?_
              refine h_quiet [(4, .sl (i + 1) s.size)] [(0, true), (1, true), (2, true), (3, true), (4, true), (5, true), (6, true), (7, true)] [(4, vI 0), (3, vS (s.extract (i + 1) s.size)), (2, vI (n + (((128 : Int) ^ i) * (((s.data.getD i 0).toNat : Int) % 128)))), (47, vS (s.extract (i + 1) s.size)), (46, vI (((i : Nat) : Int) + 1)), (45, vI ((i : Nat) : Int)), (44, vS s), (43, vI (n + (((128 : Int) ^ i) * (((s.data.getD i 0).toNat : Int) % 128)))), (42, vB false), (5, vI (n + (((128 : Int) ^ i) * (((s.data.getD i 0).toNat : Int) % 128)))), (7, vI ((i : Nat) : Int)), (0, vS s)] [inR (((i : Nat) : Int) + 1), ((i : Nat) : Int) + 1 = (((i + 1) : Nat) : Int), s.size = s.size, (i + 1) ≤ s.size] [] rfl (by kernel_rfl) (oc (by unfold inR; omega) (oc (by omega) (oc rfl (oc (by omega) on)))) wn ?_
              refine h_nil ?_
              refine l_nil (q_then_normal ?_)
              refine c_ret ?_
              refine q_block_ret (q_then_ret (q_then_ret (q_block_ret (q_then_ret (q_ret (.inl rfl) [vI (n + (((128 : Int) ^ i) * (((s.data.getD i 0).toNat : Int) % 128))), vS (s.extract (i + 1) s.size), vI 0] rfl (fun bs w hS => ?_))))))
              refine ⟨?_, hS.kp⟩
              rw [hI.last (by omega) (by omega) (by omega), if_neg (by omega)]
              simp only [retOf, den, List.map_cons, List.map_nil]
        | false =>
          have h4 := of_decide_eq_false h4
          refine JL_run 9 [] [42, 5, 7, 0] 0 ⟨[(42, vB (decide ((1099511627776 : Int) < n + (((128 : Int) ^ i) * (((s.data.getD i 0).toNat : Int) % 128))))), (5, vI (n + (((128 : Int) ^ i) * (((s.data.getD i 0).toNat : Int) % 128)))), (7, vI ((i : Nat) : Int)), (0, vS s)], []⟩ [] [] (by kernel_rfl) on wn ?_
          refine l_nil (q_then_normal ?_)
          cases h7 : decide ((1099511627776 : Int) < n + (((128 : Int) ^ i) * (((s.data.getD i 0).toNat : Int) % 128))) with
          | true =>
            have h7 := of_decide_eq_true h7
            refine c_if true rfl ?_
            refine c_seq ?_
            refine c_region ?_
            refine JL_run 3 [] [4, 3, 2] 0 ⟨[(4, vI 4), (3, vS emp), (2, vI 0)], []⟩ [] [] (by kernel_rfl) on wn ?_
            refine l_nil (q_then_normal ?_)
            refine c_ret ?_
            refine q_then_ret (q_block_ret (q_then_ret (q_then_ret (q_block_ret (q_then_ret (q_ret (.inl rfl) [vI 0, vS emp, vI 4] rfl (fun bs w hS => ?_)))))))
            refine ⟨?_, hS.kp⟩
            rw [hI.last (by omega) (by omega) (by omega), if_pos (by omega)]
            simp only [retOf, den, List.map_cons, List.map_nil]
          | false =>
            have h7 := of_decide_eq_false h7
            refine c_if false rfl ?_
            refine c_skip ?_
            refine q_then_normal ?_
            refine c_seq ?_
            refine c_draw 8 [] (.p 0 (.p 1 (.p 2 (.p 3 (.p 4 (.p 5 (.p 6 (.p 7 .nil)))))))) [] [] Try_mixed (by kernel_rfl) (pq_then (pq_block (pq_then (pq_then (pq_block (pq_then pq_body)))))) .slnil ?_
            refine h_quiet [(4, .sl (i + 1) s.size)] [(0, true), (1, true), (2, true), (3, true), (4, true), (5, true), (6, true), (7, true)] [(4, vI 0), (3, vS (s.extract (i + 1) s.size)), (2, vI (n + (((128 : Int) ^ i) * (((s.data.getD i 0).toNat : Int) % 128)))), (47, vS (s.extract (i + 1) s.size)), (46, vI (((i : Nat) : Int) + 1)), (45, vI ((i : Nat) : Int)), (44, vS s), (43, vI (n + (((128 : Int) ^ i) * (((s.data.getD i 0).toNat : Int) % 128)))), (42, vB false), (5, vI (n + (((128 : Int) ^ i) * (((s.data.getD i 0).toNat : Int) % 128)))), (7, vI ((i : Nat) : Int)), (0, vS s)] [inR (((i : Nat) : Int) + 1), ((i : Nat) : Int) + 1 = (((i + 1) : Nat) : Int), s.size = s.size, (i + 1) ≤ s.size] [] rfl (by kernel_rfl) (oc (by unfold inR; omega) (oc (by omega) (oc rfl (oc (by omega) on)))) wn ?_
            refine h_nil ?_
            refine l_nil (q_then_normal ?_)
            refine c_ret ?_
            refine q_block_ret (q_then_ret (q_then_ret (q_block_ret (q_then_ret (q_ret (.inl rfl) [vI (n + (((128 : Int) ^ i) * (((s.data.getD i 0).toNat : Int) % 128))), vS (s.extract (i + 1) s.size), vI 0] rfl (fun bs w hS => ?_))))))
            refine ⟨?_, hS.kp⟩
            rw [hI.last (by omega) (by omega) (by omega), if_neg (by omega)]
            simp only [retOf, den, List.map_cons, List.map_nil]
      | false =>
        have h3 := of_decide_eq_false h3
        refine c_if false rfl ?_
        refine c_skip ?_
        refine q_block_normal (q_then_normal ?_)
        refine c_region ?_
        refine JL_run 3 [] [7, 6, 5, 0] 0 ⟨[(7, vI (((i : Nat) : Int) + 1)), (6, vI (((128 : Int) ^ i) * 128)), (5, vI (n + (((128 : Int) ^ i) * (((s.data.getD i 0).toNat : Int) % 128)))), (0, vS s)], []⟩ [inR (((i : Nat) : Int) + 1)] [] (by kernel_rfl) (oc (by unfold inR; omega) on) wn ?_
        refine l_nil (q_loop (x := (⟨i, n⟩ : Nat × Int)) (⟨i + 1, n + (((128 : Int) ^ i) * (((s.data.getD i 0).toNat : Int) % 128))⟩ : Nat × Int) (hI.step (by omega) (by omega) (by omega)) (by show 6 - (i + 1) < 6 - i; omega) (s_start [7, 6, 5, 0] 0 (by simp only [Int.pow_succ]; kernel_rfl) rfl))
  | false =>
    have h1 := of_decide_eq_false h1
    refine c_if false rfl ?_
    refine c_exit ?_
    refine q_then_exit (q_then_exit (q_block_hit (q_then_normal ?_)))
    refine c_seq ?_
    refine c_region ?_
    refine JL_run 3 [] [4, 3, 2] 0 ⟨[(4, vI 4), (3, vS emp), (2, vI 0)], []⟩ [] [] (by kernel_rfl) on wn ?_
    refine l_nil (q_then_normal ?_)
    refine c_ret ?_
    refine q_ret (.inl rfl) [vI 0, vS emp, vI 4] rfl (fun bs w hS => ?_)
    refine ⟨?_, hS.kp⟩
    rw [hI.out (by omega)]
    simp only [retOf, den, List.map_cons, List.map_nil]

theorem codec_ReadText (s : ByteArray) (w : World) (hs : s.size ≤ 9223372036854775807) : Calls Try.prog 148 #[.string s] w fun e w' => e = .returned (.tuple #[.string (mTell s).1, .string (mTell s).2.1, .int .i64 (mTell s).2.2]) ∧ Kp [] w w' := by
  have hb := mRead_bd s
  refine calls_J0 29 Try.func148 rfl rfl [.string s] rfl ?_
  refine c_seq ?_
  refine c_region ?_
  refine JL_run 3 [] [0] 0 ⟨[(0, vS s)], []⟩ [] [] (by kernel_rfl) on wn ?_
  refine l_nil (q_then_normal ?_)
  refine c_seq ?_
  refine c_region ?_
  refine JL_run 1 [] [9] 0 ⟨[(9, vS s)], []⟩ [] [] (by kernel_rfl) on wn ?_
  refine l_pure 147 [] [vS s] (.tuple #[.int .i64 (mRead s).1, .string (mRead s).2.1, .int .i64 (mRead s).2.2]) Try.call147 rfl rfl rfl rfl (fun bs w hS => codec_ReadNumber _ w (by first | assumption | omega | (simp only [emp_size]; omega))) ?_
  refine JL_run 7 [] [7, 6, 5] 0 ⟨[(7, vI (mRead s).2.2), (6, vS (mRead s).2.1), (5, vI (mRead s).1)], []⟩ [] [] (by kernel_rfl) on wn ?_
  refine l_nil (q_then_normal ?_)
  refine c_seq ?_
  refine c_seq ?_
  refine c_region ?_
  refine JL_run 2 [] [15, 7, 6, 5] 0 ⟨[(15, vB (!(decide ((mRead s).2.2 = 0)))), (7, vI (mRead s).2.2), (6, vS (mRead s).2.1), (5, vI (mRead s).1)], []⟩ [] [] (by kernel_rfl) on wn ?_
  refine l_nil (q_then_normal ?_)
  cases h1 : decide ((mRead s).2.2 = 0) with
  | true =>
    have h1 := of_decide_eq_true h1
    refine c_if false rfl ?_
    refine c_skip ?_
    refine q_then_normal ?_
    refine c_seq ?_
    refine c_seq ?_
    refine c_region ?_
    refine JL_run 2 [] [18, 6, 5] 0 ⟨[(18, vB (decide ((5000 : Int) < (mRead s).1))), (6, vS (mRead s).2.1), (5, vI (mRead s).1)], []⟩ [] [] (by kernel_rfl) on wn ?_
    refine l_nil (q_then_normal ?_)
    cases h2 : decide ((5000 : Int) < (mRead s).1) with
    | true =>
      have h2 := of_decide_eq_true h2
      refine c_if true rfl ?_
      refine c_seq ?_
      refine c_region ?_
      refine JL_run 3 [] [4, 3, 2] 0 ⟨[(4, vI 1), (3, vS emp), (2, vS emp)], []⟩ [] [] (by kernel_rfl) on wn ?_
      refine l_nil (q_then_normal ?_)
      refine c_ret ?_
      refine q_then_ret (q_ret (.inl rfl) [vS emp, vS emp, vI 1] rfl (fun bs w hS => ?_))
      refine ⟨?_, hS.kp⟩
      simp only [retOf, den, List.map_cons, List.map_nil]
      unfold mTell
      try simp only [h1, h2, emp_size, ne_eq, not_true_eq_false, not_false_eq_true, true_or, or_true, false_or, or_false, and_true, true_and, and_false, false_and, and_self, or_self, if_true, if_false, Bool.true_eq_false, Bool.false_eq_true, reduceIte, Classical.not_not, Bool.and_eq_true, decide_eq_true_eq]
      repeat (first | rw [if_pos (by omega)] | rw [if_neg (by omega)])
      all_goals first | rfl | (exfalso; omega)
    | false =>
      have h2 := of_decide_eq_false h2
      refine c_if false rfl ?_
      refine c_skip ?_
      refine q_then_normal ?_
      refine c_seq ?_
      refine c_seq ?_
      refine c_region ?_
      refine JL_run 4 [] [22, 6, 5] 0 ⟨[(22, vB (decide (((mRead s).2.1.size : Int) < (mRead s).1))), (6, vS (mRead s).2.1), (5, vI (mRead s).1)], []⟩ [] [] (by kernel_rfl) on wn ?_
      refine l_nil (q_then_normal ?_)
      cases h3 : decide (((mRead s).2.1.size : Int) < (mRead s).1) with
      | true =>
        have h3 := of_decide_eq_true h3
        refine c_if true rfl ?_
        refine c_seq ?_
        refine c_region ?_
        refine JL_run 3 [] [4, 3, 2] 0 ⟨[(4, vI 5), (3, vS emp), (2, vS emp)], []⟩ [] [] (by kernel_rfl) on wn ?_
        refine l_nil (q_then_normal ?_)
        refine c_ret ?_
        refine q_then_ret (q_ret (.inl rfl) [vS emp, vS emp, vI 5] rfl (fun bs w hS => ?_))
        refine ⟨?_, hS.kp⟩
        simp only [retOf, den, List.map_cons, List.map_nil]
        unfold mTell
        try simp only [h1, h2, h3, emp_size, ne_eq, not_true_eq_false, not_false_eq_true, true_or, or_true, false_or, or_false, and_true, true_and, and_false, false_and, and_self, or_self, if_true, if_false, Bool.true_eq_false, Bool.false_eq_true, reduceIte, Classical.not_not, Bool.and_eq_true, decide_eq_true_eq]
        repeat (first | rw [if_pos (by omega)] | rw [if_neg (by omega)])
        all_goals first | rfl | (exfalso; omega)
      | false =>
        have h3 := of_decide_eq_false h3
        refine c_if false rfl ?_
        refine c_skip ?_
        refine q_then_normal ?_
        refine c_seq ?_
        refine c_draw 9 [] (.p 0 (.p 1 (.p 2 (.p 3 (.p 4 (.p 5 (.p 6 (.p 7 (.p 8 .nil))))))))) [] [] Try_mixed (by kernel_rfl) (pq_then pq_body) .slnil ?_
        refine h_quiet [(2, .sl 0 (mRead s).1.toNat), (5, .sl (mRead s).1.toNat (mRead s).2.1.size)] [(0, true), (1, true), (2, true), (3, true), (4, true), (5, true), (6, true), (7, true), (8, true)] [(4, vI 0), (3, vS ((mRead s).2.1.extract (mRead s).1.toNat (mRead s).2.1.size)), (2, vS ((mRead s).2.1.extract 0 (mRead s).1.toNat)), (28, vS ((mRead s).2.1.extract (mRead s).1.toNat (mRead s).2.1.size)), (27, vI (mRead s).1), (26, vS (mRead s).2.1), (25, vS ((mRead s).2.1.extract 0 (mRead s).1.toNat)), (24, vI (mRead s).1), (23, vS (mRead s).2.1), (22, vB false), (6, vS (mRead s).2.1), (5, vI (mRead s).1)] [0 = 0, (mRead s).1 = (((mRead s).1.toNat : Nat) : Int), (mRead s).1.toNat ≤ (mRead s).2.1.size, (mRead s).1 = (((mRead s).1.toNat : Nat) : Int), (mRead s).2.1.size = (mRead s).2.1.size, (mRead s).1.toNat ≤ (mRead s).2.1.size] [] rfl (by kernel_rfl) (oc rfl (oc (by omega) (oc (by omega) (oc (by omega) (oc rfl (oc (by omega) on)))))) wn ?_
        refine h_nil ?_
        refine l_nil (q_then_normal ?_)
        refine c_ret ?_
        refine q_ret (.inl rfl) [vS ((mRead s).2.1.extract 0 (mRead s).1.toNat), vS ((mRead s).2.1.extract (mRead s).1.toNat (mRead s).2.1.size), vI 0] rfl (fun bs w hS => ?_)
        refine ⟨?_, hS.kp⟩
        simp only [retOf, den, List.map_cons, List.map_nil]
        unfold mTell
        try simp only [h1, h2, h3, emp_size, ne_eq, not_true_eq_false, not_false_eq_true, true_or, or_true, false_or, or_false, and_true, true_and, and_false, false_and, and_self, or_self, if_true, if_false, Bool.true_eq_false, Bool.false_eq_true, reduceIte, Classical.not_not, Bool.and_eq_true, decide_eq_true_eq]
        repeat (first | rw [if_pos (by omega)] | rw [if_neg (by omega)])
        all_goals first | rfl | (exfalso; omega)
  | false =>
    have h1 := of_decide_eq_false h1
    refine c_if true rfl ?_
    refine c_seq ?_
    refine c_region ?_
    refine JL_run 4 [] [4, 3, 2] 0 ⟨[(4, vI (mRead s).2.2), (3, vS emp), (2, vS emp)], []⟩ [] [] (by kernel_rfl) on wn ?_
    refine l_nil (q_then_normal ?_)
    refine c_ret ?_
    refine q_then_ret (q_ret (.inl rfl) [vS emp, vS emp, vI (mRead s).2.2] rfl (fun bs w hS => ?_))
    refine ⟨?_, hS.kp⟩
    simp only [retOf, den, List.map_cons, List.map_nil]
    unfold mTell
    try simp only [h1, emp_size, ne_eq, not_true_eq_false, not_false_eq_true, true_or, or_true, false_or, or_false, and_true, true_and, and_false, false_and, and_self, or_self, if_true, if_false, Bool.true_eq_false, Bool.false_eq_true, reduceIte, Classical.not_not, Bool.and_eq_true, decide_eq_true_eq]
    repeat (first | rw [if_pos (by omega)] | rw [if_neg (by omega)])
    all_goals first | rfl | (exfalso; omega)

theorem ref_TextOf (s : ByteArray) (w : World) (hs : s.size ≤ 9223372036854775807) : Calls Try.prog 117 #[.string s] w fun e w' => e = .returned (.tuple #[.string (mTell s).1, .string (mTell s).2.1, .int .i64 (mTell s).2.2]) ∧ Kp [] w w' := by
  have hb := mRead_bd s
  refine calls_J0 37 Try.func117 rfl rfl [.string s] rfl ?_
  refine c_seq ?_
  refine c_region ?_
  refine JL_run 3 [] [0] 0 ⟨[(0, vS s)], []⟩ [] [] (by kernel_rfl) on wn ?_
  refine l_nil (q_then_normal ?_)
  refine c_seq ?_
  refine c_region ?_
  refine JL_run 1 [] [9] 0 ⟨[(9, vS s)], []⟩ [] [] (by kernel_rfl) on wn ?_
  refine l_pure 116 [] [vS s] (.tuple #[.int .i64 (mRead s).1, .string (mRead s).2.1, .int .i64 (mRead s).2.2]) Try.call116 rfl rfl rfl rfl (fun bs w hS => ref_NumberOf _ w (by first | assumption | omega | (simp only [emp_size]; omega))) ?_
  refine JL_run 7 [] [7, 6, 5] 0 ⟨[(7, vI (mRead s).2.2), (6, vS (mRead s).2.1), (5, vI (mRead s).1)], []⟩ [] [] (by kernel_rfl) on wn ?_
  refine l_nil (q_then_normal ?_)
  refine c_seq ?_
  refine c_seq ?_
  refine c_region ?_
  refine JL_run 3 [] [16, 7, 6, 5] 0 ⟨[(16, vB (decide ((mRead s).2.2 = 0))), (7, vI (mRead s).2.2), (6, vS (mRead s).2.1), (5, vI (mRead s).1)], []⟩ [] [] (by kernel_rfl) on wn ?_
  cases h1 : decide ((mRead s).2.2 = 0) with
  | true =>
    have h1 := of_decide_eq_true h1
    refine JL_run 3 [] [19, 7, 6, 5] 0 ⟨[(19, vB (decide ((5000 : Int) < (mRead s).1))), (7, vI (mRead s).2.2), (6, vS (mRead s).2.1), (5, vI (mRead s).1)], []⟩ [] [] (by kernel_rfl) on wn ?_
    refine l_nil (q_then_normal ?_)
    cases h2 : decide ((5000 : Int) < (mRead s).1) with
    | true =>
      have h2 := of_decide_eq_true h2
      refine c_if true rfl ?_
      refine c_region ?_
      refine JL_run 1 [] [7, 6, 5] 0 ⟨[(7, vI 1), (6, vS (mRead s).2.1), (5, vI (mRead s).1)], []⟩ [] [] (by kernel_rfl) on wn ?_
      refine l_nil (q_then_normal ?_)
      refine c_seq ?_
      refine c_seq ?_
      refine c_region ?_
      refine JL_run 8 [] [27, 7, 6, 5] 0 ⟨[(27, vB false), (7, vI 1), (6, vS (mRead s).2.1), (5, vI (mRead s).1)], []⟩ [] [] (by kernel_rfl) on wn ?_
      refine l_nil (q_then_normal ?_)
      refine c_if false rfl ?_
      refine c_skip ?_
      refine q_then_normal ?_
      refine c_seq ?_
      refine c_seq ?_
      refine c_region ?_
      refine JL_run 2 [] [29, 7, 6, 5] 0 ⟨[(29, vB true), (7, vI 1), (6, vS (mRead s).2.1), (5, vI (mRead s).1)], []⟩ [] [] (by kernel_rfl) on wn ?_
      refine l_nil (q_then_normal ?_)
      refine c_if true rfl ?_
      refine c_seq ?_
      refine c_region ?_
      refine JL_run 4 [] [4, 3, 2] 0 ⟨[(4, vI 1), (3, vS emp), (2, vS emp)], []⟩ [] [] (by kernel_rfl) on wn ?_
      refine l_nil (q_then_normal ?_)
      refine c_ret ?_
      refine q_then_ret (q_ret (.inl rfl) [vS emp, vS emp, vI 1] rfl (fun bs w hS => ?_))
      refine ⟨?_, hS.kp⟩
      simp only [retOf, den, List.map_cons, List.map_nil]
      unfold mTell
      try simp only [h1, h2, emp_size, ne_eq, not_true_eq_false, not_false_eq_true, true_or, or_true, false_or, or_false, and_true, true_and, and_false, false_and, and_self, or_self, if_true, if_false, Bool.true_eq_false, Bool.false_eq_true, reduceIte, Classical.not_not, Bool.and_eq_true, decide_eq_true_eq]
      repeat (first | rw [if_pos (by omega)] | rw [if_neg (by omega)])
      all_goals first | rfl | (exfalso; omega)
    | false =>
      have h2 := of_decide_eq_false h2
      refine c_if false rfl ?_
      refine c_skip ?_
      refine q_then_normal ?_
      refine c_seq ?_
      refine c_seq ?_
      refine c_region ?_
      refine JL_run 3 [] [22, 7, 6, 5] 0 ⟨[(22, vB (decide ((mRead s).2.2 = 0))), (7, vI (mRead s).2.2), (6, vS (mRead s).2.1), (5, vI (mRead s).1)], []⟩ [] [] (by kernel_rfl) on wn ?_
      cases h3 : decide ((mRead s).2.2 = 0) with
      | true =>
        have h3 := of_decide_eq_true h3
        refine JL_run 5 [] [27, 7, 6, 5] 0 ⟨[(27, vB (decide (((mRead s).2.1.size : Int) < (mRead s).1))), (7, vI (mRead s).2.2), (6, vS (mRead s).2.1), (5, vI (mRead s).1)], []⟩ [] [] (by kernel_rfl) on wn ?_
        refine l_nil (q_then_normal ?_)
        cases h4 : decide (((mRead s).2.1.size : Int) < (mRead s).1) with
        | true =>
          have h4 := of_decide_eq_true h4
          refine c_if true rfl ?_
          refine c_region ?_
          refine JL_run 1 [] [7, 6, 5] 0 ⟨[(7, vI 5), (6, vS (mRead s).2.1), (5, vI (mRead s).1)], []⟩ [] [] (by kernel_rfl) on wn ?_
          refine l_nil (q_then_normal ?_)
          refine c_seq ?_
          refine c_seq ?_
          refine c_region ?_
          refine JL_run 2 [] [29, 7, 6, 5] 0 ⟨[(29, vB true), (7, vI 5), (6, vS (mRead s).2.1), (5, vI (mRead s).1)], []⟩ [] [] (by kernel_rfl) on wn ?_
          refine l_nil (q_then_normal ?_)
          refine c_if true rfl ?_
          refine c_seq ?_
          refine c_region ?_
          refine JL_run 4 [] [4, 3, 2] 0 ⟨[(4, vI 5), (3, vS emp), (2, vS emp)], []⟩ [] [] (by kernel_rfl) on wn ?_
          refine l_nil (q_then_normal ?_)
          refine c_ret ?_
          refine q_then_ret (q_ret (.inl rfl) [vS emp, vS emp, vI 5] rfl (fun bs w hS => ?_))
          refine ⟨?_, hS.kp⟩
          simp only [retOf, den, List.map_cons, List.map_nil]
          unfold mTell
          try simp only [h1, h2, h3, h4, emp_size, ne_eq, not_true_eq_false, not_false_eq_true, true_or, or_true, false_or, or_false, and_true, true_and, and_false, false_and, and_self, or_self, if_true, if_false, Bool.true_eq_false, Bool.false_eq_true, reduceIte, Classical.not_not, Bool.and_eq_true, decide_eq_true_eq]
          repeat (first | rw [if_pos (by omega)] | rw [if_neg (by omega)])
          all_goals first | rfl | (exfalso; omega)
        | false =>
          have h4 := of_decide_eq_false h4
          refine c_if false rfl ?_
          refine c_skip ?_
          refine q_then_normal ?_
          refine c_seq ?_
          refine c_seq ?_
          refine c_region ?_
          refine JL_run 2 [] [29, 7, 6, 5] 0 ⟨[(29, vB (!(decide ((mRead s).2.2 = 0)))), (7, vI (mRead s).2.2), (6, vS (mRead s).2.1), (5, vI (mRead s).1)], []⟩ [] [] (by kernel_rfl) on wn ?_
          refine l_nil (q_then_normal ?_)
          cases h5 : decide ((mRead s).2.2 = 0) with
          | true =>
            have h5 := of_decide_eq_true h5
            refine c_if false rfl ?_
            refine c_skip ?_
            refine q_then_normal ?_
            refine c_seq ?_
            refine c_draw 9 [] (.p 0 (.p 1 (.p 2 (.p 3 (.p 4 (.p 5 (.p 6 (.p 7 (.p 8 .nil))))))))) [] [] Try_mixed (by kernel_rfl) (pq_then pq_body) .slnil ?_
            refine h_quiet [(2, .sl 0 (mRead s).1.toNat), (5, .sl (mRead s).1.toNat (mRead s).2.1.size)] [(0, true), (1, true), (2, true), (3, true), (4, true), (5, true), (6, true), (7, true), (8, true)] [(4, vI 0), (3, vS ((mRead s).2.1.extract (mRead s).1.toNat (mRead s).2.1.size)), (2, vS ((mRead s).2.1.extract 0 (mRead s).1.toNat)), (36, vS ((mRead s).2.1.extract (mRead s).1.toNat (mRead s).2.1.size)), (35, vI (mRead s).1), (34, vS (mRead s).2.1), (33, vS ((mRead s).2.1.extract 0 (mRead s).1.toNat)), (32, vI (mRead s).1), (31, vS (mRead s).2.1), (29, vB false), (7, vI (mRead s).2.2), (6, vS (mRead s).2.1), (5, vI (mRead s).1)] [0 = 0, (mRead s).1 = (((mRead s).1.toNat : Nat) : Int), (mRead s).1.toNat ≤ (mRead s).2.1.size, (mRead s).1 = (((mRead s).1.toNat : Nat) : Int), (mRead s).2.1.size = (mRead s).2.1.size, (mRead s).1.toNat ≤ (mRead s).2.1.size] [] rfl (by kernel_rfl) (oc rfl (oc (by omega) (oc (by omega) (oc (by omega) (oc rfl (oc (by omega) on)))))) wn ?_
            refine h_nil ?_
            refine l_nil (q_then_normal ?_)
            refine c_ret ?_
            refine q_ret (.inl rfl) [vS ((mRead s).2.1.extract 0 (mRead s).1.toNat), vS ((mRead s).2.1.extract (mRead s).1.toNat (mRead s).2.1.size), vI 0] rfl (fun bs w hS => ?_)
            refine ⟨?_, hS.kp⟩
            simp only [retOf, den, List.map_cons, List.map_nil]
            unfold mTell
            try simp only [h1, h2, h3, h4, h5, emp_size, ne_eq, not_true_eq_false, not_false_eq_true, true_or, or_true, false_or, or_false, and_true, true_and, and_false, false_and, and_self, or_self, if_true, if_false, Bool.true_eq_false, Bool.false_eq_true, reduceIte, Classical.not_not, Bool.and_eq_true, decide_eq_true_eq]
            repeat (first | rw [if_pos (by omega)] | rw [if_neg (by omega)])
            all_goals first | rfl | (exfalso; omega)
          | false =>
            have h5 := of_decide_eq_false h5
            exact absurd h1 h5
      | false =>
        have h3 := of_decide_eq_false h3
        exact absurd h1 h3
  | false =>
    have h1 := of_decide_eq_false h1
    refine JL_run 3 [] [19, 7, 6, 5] 0 ⟨[(19, vB false), (7, vI (mRead s).2.2), (6, vS (mRead s).2.1), (5, vI (mRead s).1)], []⟩ [] [] (by kernel_rfl) on wn ?_
    refine l_nil (q_then_normal ?_)
    refine c_if false rfl ?_
    refine c_skip ?_
    refine q_then_normal ?_
    refine c_seq ?_
    refine c_seq ?_
    refine c_region ?_
    refine JL_run 3 [] [22, 7, 6, 5] 0 ⟨[(22, vB (decide ((mRead s).2.2 = 0))), (7, vI (mRead s).2.2), (6, vS (mRead s).2.1), (5, vI (mRead s).1)], []⟩ [] [] (by kernel_rfl) on wn ?_
    cases h6 : decide ((mRead s).2.2 = 0) with
    | true =>
      have h6 := of_decide_eq_true h6
      exact absurd h6 h1
    | false =>
      have h6 := of_decide_eq_false h6
      refine JL_run 5 [] [27, 7, 6, 5] 0 ⟨[(27, vB false), (7, vI (mRead s).2.2), (6, vS (mRead s).2.1), (5, vI (mRead s).1)], []⟩ [] [] (by kernel_rfl) on wn ?_
      refine l_nil (q_then_normal ?_)
      refine c_if false rfl ?_
      refine c_skip ?_
      refine q_then_normal ?_
      refine c_seq ?_
      refine c_seq ?_
      refine c_region ?_
      refine JL_run 2 [] [29, 7, 6, 5] 0 ⟨[(29, vB (!(decide ((mRead s).2.2 = 0)))), (7, vI (mRead s).2.2), (6, vS (mRead s).2.1), (5, vI (mRead s).1)], []⟩ [] [] (by kernel_rfl) on wn ?_
      refine l_nil (q_then_normal ?_)
      cases h7 : decide ((mRead s).2.2 = 0) with
      | true =>
        have h7 := of_decide_eq_true h7
        exact absurd h7 h1
      | false =>
        have h7 := of_decide_eq_false h7
        refine c_if true rfl ?_
        refine c_seq ?_
        refine c_region ?_
        refine JL_run 4 [] [4, 3, 2] 0 ⟨[(4, vI (mRead s).2.2), (3, vS emp), (2, vS emp)], []⟩ [] [] (by kernel_rfl) on wn ?_
        refine l_nil (q_then_normal ?_)
        refine c_ret ?_
        refine q_then_ret (q_ret (.inl rfl) [vS emp, vS emp, vI (mRead s).2.2] rfl (fun bs w hS => ?_))
        refine ⟨?_, hS.kp⟩
        simp only [retOf, den, List.map_cons, List.map_nil]
        unfold mTell
        try simp only [h1, h6, h7, emp_size, ne_eq, not_true_eq_false, not_false_eq_true, true_or, or_true, false_or, or_false, and_true, true_and, and_false, false_and, and_self, or_self, if_true, if_false, Bool.true_eq_false, Bool.false_eq_true, reduceIte, Classical.not_not, Bool.and_eq_true, decide_eq_true_eq]
        repeat (first | rw [if_pos (by omega)] | rw [if_neg (by omega)])
        all_goals first | rfl | (exfalso; omega)

theorem lock_client (n : Int) (w : World) : Calls Try.prog 108 #[.int .i64 n] w fun e w' => e = .returned (.bool (inB n 1 9)) ∧ Kp [] w w' := by
  refine calls_J0 9 Try.func108 rfl rfl [.int .i64 n] rfl ?_
  refine c_seq ?_
  refine c_region ?_
  refine JL_run 1 [] [0] 0 ⟨[(0, vI n)], []⟩ [] [] (by kernel_rfl) on wn ?_
  refine l_nil (q_then_normal ?_)
  refine c_seq ?_
  refine c_region ?_
  refine JL_run 3 [] [5, 0] 0 ⟨[(5, vB (decide ((1 : Int) ≤ n))), (0, vI n)], []⟩ [] [] (by kernel_rfl) on wn ?_
  cases h1 : decide ((1 : Int) ≤ n) with
  | true =>
    have h1 := of_decide_eq_true h1
    refine JL_run 4 [] [2] 0 ⟨[(2, vB (decide (n ≤ 9)))], []⟩ [] [] (by kernel_rfl) on wn ?_
    refine l_nil (q_then_normal ?_)
    refine c_ret ?_
    refine q_ret (.inl rfl) [vB (decide (n ≤ 9))] rfl (fun bs w hS => ?_)
    exact ⟨by simp [retOf, den, inB, h1], hS.kp⟩
  | false =>
    have h1 := of_decide_eq_false h1
    refine JL_run 4 [] [2] 0 ⟨[(2, vB false)], []⟩ [] [] (by kernel_rfl) on wn ?_
    refine l_nil (q_then_normal ?_)
    refine c_ret ?_
    refine q_ret (.inl rfl) [vB false] rfl (fun bs w hS => ?_)
    exact ⟨by simp [retOf, den, inB, h1], hS.kp⟩

theorem idx_ints {B : Nat → Prop} (s : Sl Int) (k : Nat) (n : Int) (w : World) (hs : s.rd B w) (hk : k ≤ s.n) : Calls Try.prog 51 #[.slice s.A k s.c, .int .i64 n] w fun e w' => e = .returned (.int .i64 (mIdx (fun z => decide (z = n)) (s.xs.take k))) ∧ Kp [] w w' := by
  have oks := Sl.rd.ok hs
  have ncs := Sl.ok.nc oks
  have hns : s.n = s.xs.length := rfl
  refine calls_J0 19 Try.func51 rfl rfl [.slice s.A k s.c, .int .i64 n] rfl ?_
  refine c_seq ?_
  refine c_region ?_
  refine JL_run 1 [] [0, 1] 0 ⟨[(0, .v (.slice s.A k s.c)), (1, vI n)], []⟩ [] [] (by kernel_rfl) on wn ?_
  refine l_nil (q_then_normal ?_)
  refine c_seq ?_
  refine c_seq ?_
  refine c_region ?_
  refine JL_run 3 [] [8, 7, 0, 1] 0 ⟨[(8, vI 0), (7, vI ((k : Nat) : Int)), (0, .v (.slice s.A k s.c)), (1, vI n)], []⟩ [] [] (by kernel_rfl) on wn ?_
  refine l_nil (q_then_normal ?_)
  refine c_block ?_
  refine c_loop (σ := Nat) (fun i => i ≤ k ∧ ∀ j, j < i → decide (s.at j = n) = false) (fun i => k - i) (fun i => []) (fun i => ⟨[(8, vI ((i : Nat) : Int)), (7, vI ((k : Nat) : Int)), (0, .v (.slice s.A k s.c)), (1, vI n)], []⟩) 0 ⟨Nat.zero_le _, fun j hj => absurd hj (Nat.not_lt_zero _)⟩ (s_start [8, 7, 0, 1] 0 (by kernel_rfl) rfl) ?_
  rintro i ⟨hi, hI⟩
  refine c_seq ?_
  refine c_region ?_
  refine JL_run 1 [] [9, 8, 7, 0, 1] 0 ⟨[(9, vB (decide (((i : Nat) : Int) < ((k : Nat) : Int)))), (8, vI ((i : Nat) : Int)), (7, vI ((k : Nat) : Int)), (0, .v (.slice s.A k s.c)), (1, vI n)], []⟩ [] [] (by kernel_rfl) on wn ?_
  refine l_nil (q_then_normal ?_)
  refine c_seq ?_
  cases h1 : decide (((i : Nat) : Int) < ((k : Nat) : Int)) with
  | true =>
    have h1 := of_decide_eq_true h1
    refine c_if true rfl ?_
    refine c_skip ?_
    refine q_then_normal ?_
    refine c_seq ?_
    refine c_block ?_
    refine c_seq ?_
    refine c_region ?_
    refine JL_run 2 [] [5, 8, 7, 0, 1] 0 ⟨[(5, vI ((i : Nat) : Int)), (8, vI ((i : Nat) : Int)), (7, vI ((k : Nat) : Int)), (0, .v (.slice s.A k s.c)), (1, vI n)], []⟩ [] [] (by kernel_rfl) on wn ?_
    refine l_nil (q_then_normal ?_)
    refine c_seq ?_
    refine c_region ?_
    refine JL_run 6 [(3, .idx s.ad i), (4, .ext [.int .i64 (s.at i)])] [16, 5, 8, 7, 0, 1] 0 ⟨[(16, vB (decide (n = (s.at i)))), (5, vI ((i : Nat) : Int)), (8, vI ((i : Nat) : Int)), (7, vI ((k : Nat) : Int)), (0, .v (.slice s.A k s.c)), (1, vI n)], []⟩ [s.A = some s.ad, ((i : Nat) : Int) = ((i : Nat) : Int), i < k] [(s.ad.add (i * 1), [.int .i64 (s.at i)])] (by kernel_rfl) (oc (Sl.ok.own (s := s) (i := i) oks (by omega)) (oc rfl (oc (by omega) on))) (fun w hk hr => ⟨(Sl.rd.all (s := s) (i := i) (Sl.rd.kp hs hk) (by omega) rfl), trivial⟩) ?_
    refine l_nil (q_then_normal ?_)
    cases h2 : decide (n = (s.at i)) with
    | true =>
      have h2 := of_decide_eq_true h2
      refine c_if true rfl ?_
      refine c_seq ?_
      refine c_region ?_
      refine JL_run 2 [] [4] 0 ⟨[(4, vI ((i : Nat) : Int))], []⟩ [] [] (by kernel_rfl) on wn ?_
      refine l_nil (q_then_normal ?_)
      refine c_ret ?_
      refine q_block_ret (q_then_ret (q_then_ret (q_block_ret (q_then_ret (q_ret (.inl rfl) [vI ((i : Nat) : Int)] rfl (fun bs w hS => ?_))))))
      refine ⟨?_, hS.kp⟩
      rw [mIdxT_here (i := i) hk (by omega) (decide_eq_true (by omega)) hI]
      rfl
    | false =>
      have h2 := of_decide_eq_false h2
      refine c_if false rfl ?_
      refine c_skip ?_
      refine q_block_normal (q_then_normal ?_)
      refine c_region ?_
      refine JL_run 2 [] [8, 7, 0, 1] 0 ⟨[(8, vI (((i : Nat) : Int) + 1)), (7, vI ((k : Nat) : Int)), (0, .v (.slice s.A k s.c)), (1, vI n)], []⟩ [inR (((i : Nat) : Int) + 1)] [] (by kernel_rfl) (oc (by unfold inR; omega) on) wn ?_
      refine l_nil (q_loop (x := (i : Nat)) ((i + 1) : Nat) ⟨by omega, fun j hj => by rcases Nat.lt_succ_iff_lt_or_eq.1 hj with h | h; exact hI j h; subst h; exact decide_eq_false (fun e => by omega)⟩ (by omega) (s_start [8, 7, 0, 1] 0 (by kernel_rfl) rfl))
  | false =>
    have h1 := of_decide_eq_false h1
    refine c_if false rfl ?_
    refine c_exit ?_
    refine q_then_exit (q_then_exit (q_block_hit (q_then_normal ?_)))
    refine c_seq ?_
    refine c_region ?_
    refine JL_run 1 [] [4] 0 ⟨[(4, vI (-1))], []⟩ [] [] (by kernel_rfl) on wn ?_
    refine l_nil (q_then_normal ?_)
    refine c_ret ?_
    refine q_ret (.inl rfl) [vI (-1)] rfl (fun bs w hS => ?_)
    refine ⟨?_, hS.kp⟩
    rw [mIdxT_none hk fun j hj => hI j (by omega)]
    rfl

theorem has_ints {B : Nat → Prop} (s : Sl Int) (k : Nat) (n : Int) (w : World) (hs : s.rd B w) (hk : k ≤ s.n) : Calls Try.prog 102 #[.slice s.A k s.c, .int .i64 n] w fun e w' => e = .returned (.bool ((s.xs.take k).any fun z => decide (z = n))) ∧ Kp [] w w' := by
  have oks := Sl.rd.ok hs
  have ncs := Sl.ok.nc oks
  have hns : s.n = s.xs.length := rfl
  refine calls_J0 9 Try.func102 rfl rfl [.slice s.A k s.c, .int .i64 n] rfl ?_
  refine c_seq ?_
  refine c_region ?_
  refine JL_run 1 [] [0, 1] 0 ⟨[(0, .v (.slice s.A k s.c)), (1, vI n)], []⟩ [] [] (by kernel_rfl) on wn ?_
  refine l_nil (q_then_normal ?_)
  refine c_seq ?_
  refine c_region ?_
  refine JL_run 2 [] [6, 5] 0 ⟨[(6, vI n), (5, .v (.slice s.A k s.c))], []⟩ [] [] (by kernel_rfl) on wn ?_
  refine l_pure 51 [] [.v (.slice s.A k s.c), vI n] (.int .i64 (mIdx (fun z => decide (z = n)) (s.xs.take k))) Try.call51 rfl rfl rfl rfl (fun bs w hS => idx_ints s k n w (Sl.rd.kp hs hS.kp) (by omega)) ?_
  refine JL_run 2 [] [4] 0 ⟨[(4, vB (decide ((0 : Int) ≤ mIdx (fun z => decide (z = n)) (s.xs.take k))))], []⟩ [] [] (by kernel_rfl) on wn ?_
  refine l_nil (q_then_normal ?_)
  refine c_ret ?_
  refine q_ret (.inl rfl) [vB (decide ((0 : Int) ≤ mIdx (fun z => decide (z = n)) (s.xs.take k)))] rfl (fun bs w hS => ?_)
  refine ⟨?_, hS.kp⟩
  simp only [retOf, den, List.map_cons, List.map_nil, mIdx_nonneg]

theorem ref_has {B : Nat → Prop} (s : Sl Int) (k : Nat) (n : Int) (w : World) (hs : s.rd B w) (hk : k ≤ s.n) : Calls Try.prog 57 #[.slice s.A k s.c, .int .i64 n] w fun e w' => e = .returned (.bool ((s.xs.take k).any fun z => decide (z = n))) ∧ Kp [] w w' := by
  have oks := Sl.rd.ok hs
  have ncs := Sl.ok.nc oks
  have hns : s.n = s.xs.length := rfl
  refine calls_J0 18 Try.func57 rfl rfl [.slice s.A k s.c, .int .i64 n] rfl ?_
  refine c_seq ?_
  refine c_region ?_
  refine JL_run 1 [] [0, 1] 0 ⟨[(0, .v (.slice s.A k s.c)), (1, vI n)], []⟩ [] [] (by kernel_rfl) on wn ?_
  refine l_nil (q_then_normal ?_)
  refine c_seq ?_
  refine c_seq ?_
  refine c_region ?_
  refine JL_run 1 [] [5, 0, 1] 0 ⟨[(5, vI 0), (0, .v (.slice s.A k s.c)), (1, vI n)], []⟩ [] [] (by kernel_rfl) on wn ?_
  refine l_nil (q_then_normal ?_)
  refine c_block ?_
  refine c_loop (σ := Nat) (fun i => i ≤ k ∧ ∀ j, j < i → ¬ s.at j = n) (fun i => k - i) (fun i => []) (fun i => ⟨[(5, vI ((i : Nat) : Int)), (0, .v (.slice s.A k s.c)), (1, vI n)], []⟩) 0 ⟨Nat.zero_le _, fun j hj => absurd hj (Nat.not_lt_zero _)⟩ (s_start [5, 0, 1] 0 (by kernel_rfl) rfl) ?_
  rintro i ⟨hi, hI⟩
  refine c_seq ?_
  refine c_seq ?_
  refine c_region ?_
  refine JL_run 4 [] [9, 5, 0, 1] 0 ⟨[(9, vB (decide (((i : Nat) : Int) < ((k : Nat) : Int)))), (5, vI ((i : Nat) : Int)), (0, .v (.slice s.A k s.c)), (1, vI n)], []⟩ [] [] (by kernel_rfl) on wn ?_
  refine l_nil (q_then_normal ?_)
  cases h1 : decide (((i : Nat) : Int) < ((k : Nat) : Int)) with
  | true =>
    have h1 := of_decide_eq_true h1
    refine c_if true rfl ?_
    refine c_skip ?_
    refine q_then_normal ?_
    refine c_seq ?_
    refine c_block ?_
    refine c_seq ?_
    refine c_region ?_
    refine JL_run 6 [(2, .idx s.ad i), (3, .ext [.int .i64 (s.at i)])] [17, 5, 0, 1] 0 ⟨[(17, vB (decide ((s.at i) = n))), (5, vI ((i : Nat) : Int)), (0, .v (.slice s.A k s.c)), (1, vI n)], []⟩ [s.A = some s.ad, ((i : Nat) : Int) = ((i : Nat) : Int), i < k] [(s.ad.add (i * 1), [.int .i64 (s.at i)])] (by kernel_rfl) (oc (Sl.ok.own (s := s) (i := i) oks (by omega)) (oc rfl (oc (by omega) on))) (fun w hk hr => ⟨(Sl.rd.all (s := s) (i := i) (Sl.rd.kp hs hk) (by omega) rfl), trivial⟩) ?_
    refine l_nil (q_then_normal ?_)
    cases h2 : decide ((s.at i) = n) with
    | true =>
      have h2 := of_decide_eq_true h2
      refine c_if true rfl ?_
      refine c_seq ?_
      refine c_region ?_
      refine JL_run 1 [] [4] 0 ⟨[(4, vB true)], []⟩ [] [] (by kernel_rfl) on wn ?_
      refine l_nil (q_then_normal ?_)
      refine c_ret ?_
      refine q_block_ret (q_then_ret (q_then_ret (q_block_ret (q_then_ret (q_ret (.inl rfl) [vB true] rfl (fun bs w hS => ?_))))))
      refine ⟨?_, hS.kp⟩
      rw [any_here (j := i) hk (by omega) (by assumption)]
      rfl
    | false =>
      have h2 := of_decide_eq_false h2
      refine c_if false rfl ?_
      refine c_skip ?_
      refine q_block_normal (q_then_normal ?_)
      refine c_region ?_
      refine JL_run 3 [] [5, 0, 1] 0 ⟨[(5, vI (((i : Nat) : Int) + 1)), (0, .v (.slice s.A k s.c)), (1, vI n)], []⟩ [inR (((i : Nat) : Int) + 1)] [] (by kernel_rfl) (oc (by unfold inR; omega) on) wn ?_
      refine l_nil (q_loop (x := (i : Nat)) ((i + 1) : Nat) ⟨by omega, fun j hj => by rcases Nat.lt_succ_iff_lt_or_eq.1 hj with h | h; exact hI j h; subst h; assumption⟩ (by omega) (s_start [5, 0, 1] 0 (by kernel_rfl) rfl))
  | false =>
    have h1 := of_decide_eq_false h1
    refine c_if false rfl ?_
    refine c_exit ?_
    refine q_then_exit (q_then_exit (q_block_hit (q_then_normal ?_)))
    refine c_seq ?_
    refine c_region ?_
    refine JL_run 1 [] [4] 0 ⟨[(4, vB false)], []⟩ [] [] (by kernel_rfl) on wn ?_
    refine l_nil (q_then_normal ?_)
    refine c_ret ?_
    refine q_ret (.inl rfl) [vB false] rfl (fun bs w hS => ?_)
    refine ⟨?_, hS.kp⟩
    rw [any_none hk fun j hj => hI j (by omega)]
    rfl

theorem lock_line {B : Nat → Prop} (x : CLock) (w : World) (hx : Rds.sub B w x) : Calls Try.prog 144 #[.agg #[.string x.name, .int .i64 x.holder, .int .i64 x.fence, .slice x.line.A x.line.n x.line.c]] w fun e w' => e = .returned (.bool (lineOk x.abs)) ∧ Kp [] w w' := by
  have okx := Rds.okof hx
  have ncx := Sl.ok.nc okx.2
  have hnx : x.line.n = x.line.xs.length := rfl
  have hll : x.abs.line.length = x.line.n := rfl
  have hho : x.abs.holder = x.holder := rfl
  have hp : ∀ q, posOk x.abs q = (inB (x.line.at q) 1 9 && (!decide (x.line.at q = x.holder) && !((x.line.xs.take q).any fun z => decide (z = x.line.at q)))) := fun _ => rfl
  refine calls_J0 46 Try.func144 rfl rfl [.agg #[.string x.name, .int .i64 x.holder, .int .i64 x.fence, .slice x.line.A x.line.n x.line.c]] rfl ?_
  refine c_seq ?_
  refine c_region ?_
  refine JL_run 2 [] [1] 1 ⟨[(1, .p 0 0)], [⟨80, [vS x.name, vI x.holder, vI x.fence, .v (.slice x.line.A x.line.n x.line.c)]⟩]⟩ [] [] (by kernel_rfl) on wn ?_
  refine l_nil (q_then_normal ?_)
  refine c_seq ?_
  refine c_seq ?_
  refine c_region ?_
  refine JL_run 4 [] [8, 7, 6, 1] 1 ⟨[(8, vI 0), (7, vI ((x.line.n : Nat) : Int)), (6, .v (.slice x.line.A x.line.n x.line.c)), (1, .p 0 0)], [⟨80, [vS x.name, vI x.holder, vI x.fence, .v (.slice x.line.A x.line.n x.line.c)]⟩]⟩ [] [] (by kernel_rfl) on wn ?_
  refine l_nil (q_then_normal ?_)
  refine c_block ?_
  refine c_loop (σ := Nat) (fun i => i ≤ x.line.n ∧ allTo (posOk x.abs) i = true) (fun i => x.line.n - i) (fun i => []) (fun i => ⟨[(8, vI ((i : Nat) : Int)), (7, vI ((x.line.n : Nat) : Int)), (6, .v (.slice x.line.A x.line.n x.line.c)), (1, .p 0 0)], [⟨80, [vS x.name, vI x.holder, vI x.fence, .v (.slice x.line.A x.line.n x.line.c)]⟩]⟩) 0 ⟨Nat.zero_le _, rfl⟩ (s_start [8, 7, 6, 1] 1 (by kernel_rfl) rfl) ?_
  rintro i ⟨hi, hI⟩
  refine c_seq ?_
  refine c_region ?_
  refine JL_run 1 [] [9, 8, 7, 6, 1] 1 ⟨[(9, vB (decide (((i : Nat) : Int) < ((x.line.n : Nat) : Int)))), (8, vI ((i : Nat) : Int)), (7, vI ((x.line.n : Nat) : Int)), (6, .v (.slice x.line.A x.line.n x.line.c)), (1, .p 0 0)], [⟨80, [vS x.name, vI x.holder, vI x.fence, .v (.slice x.line.A x.line.n x.line.c)]⟩]⟩ [] [] (by kernel_rfl) on wn ?_
  refine l_nil (q_then_normal ?_)
  refine c_seq ?_
  cases h1 : decide (((i : Nat) : Int) < ((x.line.n : Nat) : Int)) with
  | true =>
    have h1 := of_decide_eq_true h1
    refine c_if true rfl ?_
    refine c_skip ?_
    refine q_then_normal ?_
    refine c_seq ?_
    refine c_block ?_
    refine c_seq ?_
    refine c_region ?_
    refine JL_run 5 [(1, .idx x.line.ad i), (2, .ext [.int .i64 (x.line.at i)])] [4, 3, 8, 7, 6, 1] 1 ⟨[(4, vI (x.line.at i)), (3, vI ((i : Nat) : Int)), (8, vI ((i : Nat) : Int)), (7, vI ((x.line.n : Nat) : Int)), (6, .v (.slice x.line.A x.line.n x.line.c)), (1, .p 0 0)], [⟨80, [vS x.name, vI x.holder, vI x.fence, .v (.slice x.line.A x.line.n x.line.c)]⟩]⟩ [x.line.A = some x.line.ad, ((i : Nat) : Int) = ((i : Nat) : Int), i < x.line.n] [(x.line.ad.add (i * 1), [.int .i64 (x.line.at i)])] (by kernel_rfl) (oc (Sl.ok.own (s := x.line) (i := i) (And.right okx) (by omega)) (oc rfl (oc (by omega) on))) (fun w hk hr => ⟨(Sl.rd.all (s := x.line) (i := i) (And.right (Rds.kp hx hk)) (by omega) rfl), trivial⟩) ?_
    refine l_nil (q_then_normal ?_)
    refine c_seq ?_
    refine c_region ?_
    refine JL_run 1 [] [13, 4, 3, 8, 7, 6, 1] 1 ⟨[(13, vI (x.line.at i)), (4, vI (x.line.at i)), (3, vI ((i : Nat) : Int)), (8, vI ((i : Nat) : Int)), (7, vI ((x.line.n : Nat) : Int)), (6, .v (.slice x.line.A x.line.n x.line.c)), (1, .p 0 0)], [⟨80, [vS x.name, vI x.holder, vI x.fence, .v (.slice x.line.A x.line.n x.line.c)]⟩]⟩ [] [] (by kernel_rfl) on wn ?_
    refine l_pure 108 [] [vI (x.line.at i)] (.bool (inB (x.line.at i) 1 9)) Try.call108 rfl rfl rfl rfl (fun bs w hS => lock_client (x.line.at i) w) ?_
    refine JL_run 2 [] [16, 4, 3, 8, 7, 6, 1] 1 ⟨[(16, vB (!(inB (x.line.at i) 1 9))), (4, vI (x.line.at i)), (3, vI ((i : Nat) : Int)), (8, vI ((i : Nat) : Int)), (7, vI ((x.line.n : Nat) : Int)), (6, .v (.slice x.line.A x.line.n x.line.c)), (1, .p 0 0)], [⟨80, [vS x.name, vI x.holder, vI x.fence, .v (.slice x.line.A x.line.n x.line.c)]⟩]⟩ [] [] (by kernel_rfl) on wn ?_
    cases h2 : inB (x.line.at i) 1 9 with
    | true =>
      refine JL_run 6 [] [22, 4, 3, 8, 7, 6, 1] 1 ⟨[(22, vB (decide ((x.line.at i) = x.holder))), (4, vI (x.line.at i)), (3, vI ((i : Nat) : Int)), (8, vI ((i : Nat) : Int)), (7, vI ((x.line.n : Nat) : Int)), (6, .v (.slice x.line.A x.line.n x.line.c)), (1, .p 0 0)], [⟨80, [vS x.name, vI x.holder, vI x.fence, .v (.slice x.line.A x.line.n x.line.c)]⟩]⟩ [] [] (by kernel_rfl) on wn ?_
      cases h3 : decide ((x.line.at i) = x.holder) with
      | true =>
        have h3 := of_decide_eq_true h3
        refine JL_run 7 [] [29, 8, 7, 6, 1] 1 ⟨[(29, vB true), (8, vI ((i : Nat) : Int)), (7, vI ((x.line.n : Nat) : Int)), (6, .v (.slice x.line.A x.line.n x.line.c)), (1, .p 0 0)], [⟨80, [vS x.name, vI x.holder, vI x.fence, .v (.slice x.line.A x.line.n x.line.c)]⟩]⟩ [] [] (by kernel_rfl) on wn ?_
        refine l_nil (q_then_normal ?_)
        refine c_if true rfl ?_
        refine c_seq ?_
        refine c_region ?_
        refine JL_run 1 [] [2] 0 ⟨[(2, vB false)], []⟩ [] [] (by kernel_rfl) on wn ?_
        refine l_nil (q_then_normal ?_)
        refine c_ret ?_
        refine q_block_ret (q_then_ret (q_then_ret (q_block_ret (q_then_ret (q_ret (.inl rfl) [vB false] rfl (fun bs w hS => ?_))))))
        refine ⟨?_, hS.kp⟩
        have hb : posOk x.abs i = false := by rw [hp]; simp [h1, h2, h3]
        have hm : lineOk x.abs = false := by unfold lineOk; rw [allTo_bad hb (show i < x.abs.line.length by rw [hll]; omega)]; rfl
        rw [hm]
        rfl
      | false =>
        have h3 := of_decide_eq_false h3
        refine JL_run 5 [(3, .sl 0 i)] [27, 26, 22, 8, 7, 6, 1] 1 ⟨[(27, vI (x.line.at i)), (26, .v (.slice x.line.A i x.line.c)), (22, vB false), (8, vI ((i : Nat) : Int)), (7, vI ((x.line.n : Nat) : Int)), (6, .v (.slice x.line.A x.line.n x.line.c)), (1, .p 0 0)], [⟨80, [vS x.name, vI x.holder, vI x.fence, .v (.slice x.line.A x.line.n x.line.c)]⟩]⟩ [0 = 0, ((i : Nat) : Int) = ((i : Nat) : Int), i ≤ x.line.c] [] (by kernel_rfl) (oc rfl (oc rfl (oc (by omega) on))) wn ?_
        refine l_pure 102 [] [.v (.slice x.line.A i x.line.c), vI (x.line.at i)] (.bool ((x.line.xs.take i).any fun z => decide (z = (x.line.at i)))) Try.call102 rfl rfl rfl rfl (fun bs w hS => has_ints x.line i (x.line.at i) w (And.right (Rds.kp hx hS.kp)) (by omega)) ?_
        refine JL_run 1 [] [29, 8, 7, 6, 1] 1 ⟨[(29, vB ((x.line.xs.take i).any fun z => decide (z = (x.line.at i)))), (8, vI ((i : Nat) : Int)), (7, vI ((x.line.n : Nat) : Int)), (6, .v (.slice x.line.A x.line.n x.line.c)), (1, .p 0 0)], [⟨80, [vS x.name, vI x.holder, vI x.fence, .v (.slice x.line.A x.line.n x.line.c)]⟩]⟩ [] [] (by kernel_rfl) on wn ?_
        refine l_nil (q_then_normal ?_)
        cases h4 : (x.line.xs.take i).any fun z => decide (z = (x.line.at i)) with
        | true =>
          refine c_if true rfl ?_
          refine c_seq ?_
          refine c_region ?_
          refine JL_run 1 [] [2] 0 ⟨[(2, vB false)], []⟩ [] [] (by kernel_rfl) on wn ?_
          refine l_nil (q_then_normal ?_)
          refine c_ret ?_
          refine q_block_ret (q_then_ret (q_then_ret (q_block_ret (q_then_ret (q_ret (.inl rfl) [vB false] rfl (fun bs w hS => ?_))))))
          refine ⟨?_, hS.kp⟩
          have hb : posOk x.abs i = false := by rw [hp]; simp [h1, h2, h3, h4]
          have hm : lineOk x.abs = false := by unfold lineOk; rw [allTo_bad hb (show i < x.abs.line.length by rw [hll]; omega)]; rfl
          rw [hm]
          rfl
        | false =>
          refine c_if false rfl ?_
          refine c_skip ?_
          refine q_block_normal (q_then_normal ?_)
          refine c_region ?_
          refine JL_run 2 [] [8, 7, 6, 1] 1 ⟨[(8, vI (((i : Nat) : Int) + 1)), (7, vI ((x.line.n : Nat) : Int)), (6, .v (.slice x.line.A x.line.n x.line.c)), (1, .p 0 0)], [⟨80, [vS x.name, vI x.holder, vI x.fence, .v (.slice x.line.A x.line.n x.line.c)]⟩]⟩ [inR (((i : Nat) : Int) + 1)] [] (by kernel_rfl) (oc (by unfold inR; omega) on) wn ?_
          refine l_nil (q_loop (x := (i : Nat)) ((i + 1) : Nat) ⟨by omega, by show (allTo _ i && posOk x.abs i) = true; rw [hI, hp]; simp [*]⟩ (by omega) (s_start [8, 7, 6, 1] 1 (by kernel_rfl) rfl))
    | false =>
      refine JL_run 13 [] [29, 8, 7, 6, 1] 1 ⟨[(29, vB true), (8, vI ((i : Nat) : Int)), (7, vI ((x.line.n : Nat) : Int)), (6, .v (.slice x.line.A x.line.n x.line.c)), (1, .p 0 0)], [⟨80, [vS x.name, vI x.holder, vI x.fence, .v (.slice x.line.A x.line.n x.line.c)]⟩]⟩ [] [] (by kernel_rfl) on wn ?_
      refine l_nil (q_then_normal ?_)
      refine c_if true rfl ?_
      refine c_seq ?_
      refine c_region ?_
      refine JL_run 1 [] [2] 0 ⟨[(2, vB false)], []⟩ [] [] (by kernel_rfl) on wn ?_
      refine l_nil (q_then_normal ?_)
      refine c_ret ?_
      refine q_block_ret (q_then_ret (q_then_ret (q_block_ret (q_then_ret (q_ret (.inl rfl) [vB false] rfl (fun bs w hS => ?_))))))
      refine ⟨?_, hS.kp⟩
      have hb : posOk x.abs i = false := by rw [hp]; simp [h1, h2]
      have hm : lineOk x.abs = false := by unfold lineOk; rw [allTo_bad hb (show i < x.abs.line.length by rw [hll]; omega)]; rfl
      rw [hm]
      rfl
  | false =>
    have h1 := of_decide_eq_false h1
    refine c_if false rfl ?_
    refine c_exit ?_
    refine q_then_exit (q_then_exit (q_block_hit (q_then_normal ?_)))
    refine c_seq ?_
    refine c_region ?_
    refine JL_run 5 [] [35, 1] 1 ⟨[(35, vB (decide (((x.line.n : Nat) : Int) ≤ 3))), (1, .p 0 0)], [⟨80, [vS x.name, vI x.holder, vI x.fence, .v (.slice x.line.A x.line.n x.line.c)]⟩]⟩ [] [] (by kernel_rfl) on wn ?_
    cases h5 : decide (((x.line.n : Nat) : Int) ≤ 3) with
    | true =>
      have h5 := of_decide_eq_true h5
      refine JL_run 4 [] [39, 35, 1] 1 ⟨[(39, vB (!(decide (x.holder = 0)))), (35, vB true), (1, .p 0 0)], [⟨80, [vS x.name, vI x.holder, vI x.fence, .v (.slice x.line.A x.line.n x.line.c)]⟩]⟩ [] [] (by kernel_rfl) on wn ?_
      cases h6 : decide (x.holder = 0) with
      | true =>
        have h6 := of_decide_eq_true h6
        refine JL_run 7 [] [2] 0 ⟨[(2, vB (decide (((x.line.n : Nat) : Int) = 0)))], []⟩ [] [] (by kernel_rfl) on wn ?_
        refine l_nil (q_then_normal ?_)
        refine c_ret ?_
        refine q_ret (.inl rfl) [vB (decide (((x.line.n : Nat) : Int) = 0))] rfl (fun bs w hS => ?_)
        refine ⟨?_, hS.kp⟩
        have hall : allTo (posOk x.abs) x.line.n = true := by rw [show x.line.n = i by omega]; exact hI
        have hm : lineOk x.abs = (decide (((x.line.n : Nat) : Int) = 0)) := by
          rw [Bool.eq_iff_iff]
          simp only [lineOk, hll, hho, hall, Bool.true_and, Bool.and_eq_true, Bool.or_eq_true, Bool.not_eq_true', decide_eq_true_eq, decide_eq_false_iff_not, Bool.false_eq_true, iff_true, iff_false]
          omega
        rw [hm]
        rfl
      | false =>
        have h6 := of_decide_eq_false h6
        refine JL_run 7 [] [2] 0 ⟨[(2, vB true)], []⟩ [] [] (by kernel_rfl) on wn ?_
        refine l_nil (q_then_normal ?_)
        refine c_ret ?_
        refine q_ret (.inl rfl) [vB true] rfl (fun bs w hS => ?_)
        refine ⟨?_, hS.kp⟩
        have hall : allTo (posOk x.abs) x.line.n = true := by rw [show x.line.n = i by omega]; exact hI
        have hm : lineOk x.abs = (true) := by
          rw [Bool.eq_iff_iff]
          simp only [lineOk, hll, hho, hall, Bool.true_and, Bool.and_eq_true, Bool.or_eq_true, Bool.not_eq_true', decide_eq_true_eq, decide_eq_false_iff_not, Bool.false_eq_true, iff_true, iff_false]
          omega
        rw [hm]
        rfl
    | false =>
      have h5 := of_decide_eq_false h5
      refine JL_run 11 [] [2] 0 ⟨[(2, vB false)], []⟩ [] [] (by kernel_rfl) on wn ?_
      refine l_nil (q_then_normal ?_)
      refine c_ret ?_
      refine q_ret (.inl rfl) [vB false] rfl (fun bs w hS => ?_)
      refine ⟨?_, hS.kp⟩
      have hall : allTo (posOk x.abs) x.line.n = true := by rw [show x.line.n = i by omega]; exact hI
      have hm : lineOk x.abs = (false) := by
        rw [Bool.eq_iff_iff]
        simp only [lineOk, hll, hho, hall, Bool.true_and, Bool.and_eq_true, Bool.or_eq_true, Bool.not_eq_true', decide_eq_true_eq, decide_eq_false_iff_not, Bool.false_eq_true, iff_true, iff_false]
        omega
      rw [hm]
      rfl

theorem lock_Check {B : Nat → Prop} (s : Sl CLock) (w : World) (hs : s.rd B w) : Calls Try.prog 107 #[.slice s.A s.n s.c] w fun e w' => e = .returned (.int .i64 (mLocks (s.xs.map CLock.abs))) ∧ Kp [] w w' := by
  have oks := Sl.rd.ok hs
  have ncs := Sl.ok.nc oks
  have hns : s.n = s.xs.length := rfl
  have hat : ∀ q, (s.xs.map CLock.abs).getD q default = (s.at q).abs := fun q => abs_at q
  have hq1 : ∀ q, (s.at q).abs.name = (s.at q).name := fun _ => rfl
  have hq2 : ∀ q, (s.at q).abs.holder = (s.at q).holder := fun _ => rfl
  have hq3 : ∀ q, (s.at q).abs.fence = (s.at q).fence := fun _ => rfl
  have hml : (s.xs.map CLock.abs).length = s.n := by simp
  refine calls_J0 57 Try.func107 rfl rfl [.slice s.A s.n s.c] rfl ?_
  refine c_seq ?_
  refine c_region ?_
  refine JL_run 1 [] [0] 0 ⟨[(0, .v (.slice s.A s.n s.c))], []⟩ [] [] (by kernel_rfl) on wn ?_
  refine l_nil (q_then_normal ?_)
  refine c_seq ?_
  refine c_seq ?_
  refine c_region ?_
  refine JL_run 3 [] [7, 0] 0 ⟨[(7, vB (decide ((5 : Int) < ((s.n : Nat) : Int)))), (0, .v (.slice s.A s.n s.c))], []⟩ [] [] (by kernel_rfl) on wn ?_
  refine l_nil (q_then_normal ?_)
  cases h1 : decide ((5 : Int) < ((s.n : Nat) : Int)) with
  | true =>
    have h1 := of_decide_eq_true h1
    refine c_if true rfl ?_
    refine c_seq ?_
    refine c_region ?_
    refine JL_run 1 [] [2] 0 ⟨[(2, vI 1)], []⟩ [] [] (by kernel_rfl) on wn ?_
    refine l_nil (q_then_normal ?_)
    refine c_ret ?_
    refine q_then_ret (q_ret (.inl rfl) [vI 1] rfl (fun bs w hS => ?_))
    refine ⟨?_, hS.kp⟩
    simp only [retOf, den, List.map_cons, List.map_nil]
    have hm : mLocks (s.xs.map CLock.abs) = 1 := by
      unfold mLocks; rw [hml, if_pos (by omega)]
    rw [hm]
  | false =>
    have h1 := of_decide_eq_false h1
    refine c_if false rfl ?_
    refine c_skip ?_
    refine q_then_normal ?_
    refine c_seq ?_
    refine c_seq ?_
    refine c_region ?_
    refine JL_run 3 [] [10, 9, 8, 0] 0 ⟨[(10, vI 0), (9, vI ((s.n : Nat) : Int)), (8, .v (.slice s.A s.n s.c)), (0, .v (.slice s.A s.n s.c))], []⟩ [] [] (by kernel_rfl) on wn ?_
    refine l_nil (q_then_normal ?_)
    refine c_block ?_
    refine c_loop (σ := Nat) (fun i => i ≤ s.n ∧ mLocks (s.xs.map CLock.abs) = firstF (lockF (s.xs.map CLock.abs)) (s.n - i) i) (fun i => s.n - i) (fun i => []) (fun i => ⟨[(10, vI ((i : Nat) : Int)), (9, vI ((s.n : Nat) : Int)), (8, .v (.slice s.A s.n s.c)), (0, .v (.slice s.A s.n s.c))], []⟩) 0 ⟨Nat.zero_le _, by unfold mLocks; rw [hml, if_neg (by omega)]⟩ (s_start [10, 9, 8, 0] 0 (by kernel_rfl) rfl) ?_
    rintro i ⟨hi, hI⟩
    refine c_seq ?_
    refine c_region ?_
    refine JL_run 1 [] [11, 10, 9, 8, 0] 0 ⟨[(11, vB (decide (((i : Nat) : Int) < ((s.n : Nat) : Int)))), (10, vI ((i : Nat) : Int)), (9, vI ((s.n : Nat) : Int)), (8, .v (.slice s.A s.n s.c)), (0, .v (.slice s.A s.n s.c))], []⟩ [] [] (by kernel_rfl) on wn ?_
    refine l_nil (q_then_normal ?_)
    refine c_seq ?_
    cases h2 : decide (((i : Nat) : Int) < ((s.n : Nat) : Int)) with
    | true =>
      have h2 := of_decide_eq_true h2
      refine c_if true rfl ?_
      refine c_skip ?_
      refine q_then_normal ?_
      refine c_seq ?_
      refine c_block ?_
      refine c_seq ?_
      refine c_region ?_
      refine JL_run 6 [(1, .idx s.ad i), (2, .ext [.string (s.at i).name, .int .i64 (s.at i).holder, .int .i64 (s.at i).fence, .slice (s.at i).line.A (s.at i).line.n (s.at i).line.c])] [3, 4, 10, 9, 8, 0] 1 ⟨[(3, vI ((i : Nat) : Int)), (4, .p 0 0), (10, vI ((i : Nat) : Int)), (9, vI ((s.n : Nat) : Int)), (8, .v (.slice s.A s.n s.c)), (0, .v (.slice s.A s.n s.c))], [⟨80, [vS (s.at i).name, vI (s.at i).holder, vI (s.at i).fence, .v (.slice (s.at i).line.A (s.at i).line.n (s.at i).line.c)]⟩]⟩ [s.A = some s.ad, ((i : Nat) : Int) = ((i : Nat) : Int), i < s.n] [(s.ad.add (i * 4), [.string (s.at i).name, .int .i64 (s.at i).holder, .int .i64 (s.at i).fence, .slice (s.at i).line.A (s.at i).line.n (s.at i).line.c])] (by kernel_rfl) (oc (Sl.ok.own (s := s) (i := i) oks (by omega)) (oc rfl (oc (by omega) on))) (fun w hk hr => ⟨(Sl.rd.all (s := s) (i := i) (Sl.rd.kp hs hk) (by omega) rfl), trivial⟩) ?_
      refine l_nil (q_then_normal ?_)
      refine c_seq ?_
      refine c_seq ?_
      refine c_region ?_
      refine JL_run 2 [] [16, 3, 4, 10, 9, 8, 0] 1 ⟨[(16, vS (s.at i).name), (3, vI ((i : Nat) : Int)), (4, .p 0 0), (10, vI ((i : Nat) : Int)), (9, vI ((s.n : Nat) : Int)), (8, .v (.slice s.A s.n s.c)), (0, .v (.slice s.A s.n s.c))], [⟨80, [vS (s.at i).name, vI (s.at i).holder, vI (s.at i).fence, .v (.slice (s.at i).line.A (s.at i).line.n (s.at i).line.c)]⟩]⟩ [] [] (by kernel_rfl) on wn ?_
      refine l_pure 90 [] [vS (s.at i).name] (.bool (mName (s.at i).name)) Try.call90 rfl rfl rfl rfl (fun bs w hS => lock_Name _ w (And.left (Sl.ok.at (s := s) (i := i) oks (by omega)))) ?_
      refine JL_run 2 [] [19, 3, 4, 10, 9, 8, 0] 1 ⟨[(19, vB (!(mName (s.at i).name))), (3, vI ((i : Nat) : Int)), (4, .p 0 0), (10, vI ((i : Nat) : Int)), (9, vI ((s.n : Nat) : Int)), (8, .v (.slice s.A s.n s.c)), (0, .v (.slice s.A s.n s.c))], [⟨80, [vS (s.at i).name, vI (s.at i).holder, vI (s.at i).fence, .v (.slice (s.at i).line.A (s.at i).line.n (s.at i).line.c)]⟩]⟩ [] [] (by kernel_rfl) on wn ?_
      cases h3 : mName (s.at i).name with
      | true =>
        refine JL_run 4 [] [23, 19, 3, 4, 10, 9, 8, 0] 1 ⟨[(23, vB (!(decide ((s.at i).holder = 0)))), (19, vB false), (3, vI ((i : Nat) : Int)), (4, .p 0 0), (10, vI ((i : Nat) : Int)), (9, vI ((s.n : Nat) : Int)), (8, .v (.slice s.A s.n s.c)), (0, .v (.slice s.A s.n s.c))], [⟨80, [vS (s.at i).name, vI (s.at i).holder, vI (s.at i).fence, .v (.slice (s.at i).line.A (s.at i).line.n (s.at i).line.c)]⟩]⟩ [] [] (by kernel_rfl) on wn ?_
        cases h4 : decide ((s.at i).holder = 0) with
        | true =>
          have h4 := of_decide_eq_true h4
          refine JL_run 8 [] [31, 30, 3, 4, 10, 9, 8, 0] 1 ⟨[(31, .v (.agg #[.string (s.at i).name, .int .i64 (s.at i).holder, .int .i64 (s.at i).fence, .slice (s.at i).line.A (s.at i).line.n (s.at i).line.c])), (30, vB false), (3, vI ((i : Nat) : Int)), (4, .p 0 0), (10, vI ((i : Nat) : Int)), (9, vI ((s.n : Nat) : Int)), (8, .v (.slice s.A s.n s.c)), (0, .v (.slice s.A s.n s.c))], [⟨80, [vS (s.at i).name, vI (s.at i).holder, vI (s.at i).fence, .v (.slice (s.at i).line.A (s.at i).line.n (s.at i).line.c)]⟩]⟩ [] [] (by kernel_rfl) on wn ?_
          refine l_pure 144 [] [.v (.agg #[.string (s.at i).name, .int .i64 (s.at i).holder, .int .i64 (s.at i).fence, .slice (s.at i).line.A (s.at i).line.n (s.at i).line.c])] (.bool (lineOk (s.at i).abs)) Try.call144 rfl rfl rfl rfl (fun bs w hS => lock_line (s.at i) w (Sl.rd.sub (s := s) (i := i) (Sl.rd.kp hs hS.kp) (by omega))) ?_
          refine JL_run 2 [] [34, 3, 4, 10, 9, 8, 0] 1 ⟨[(34, vB (!(lineOk (s.at i).abs))), (3, vI ((i : Nat) : Int)), (4, .p 0 0), (10, vI ((i : Nat) : Int)), (9, vI ((s.n : Nat) : Int)), (8, .v (.slice s.A s.n s.c)), (0, .v (.slice s.A s.n s.c))], [⟨80, [vS (s.at i).name, vI (s.at i).holder, vI (s.at i).fence, .v (.slice (s.at i).line.A (s.at i).line.n (s.at i).line.c)]⟩]⟩ [] [] (by kernel_rfl) on wn ?_
          refine l_nil (q_then_normal ?_)
          cases h5 : lineOk (s.at i).abs with
          | true =>
            refine c_if false rfl ?_
            refine c_skip ?_
            refine q_then_normal ?_
            refine c_seq ?_
            refine c_seq ?_
            refine c_region ?_
            refine JL_run 4 [] [38, 3, 4, 10, 9, 8, 0] 1 ⟨[(38, vB (decide ((s.at i).fence < 1))), (3, vI ((i : Nat) : Int)), (4, .p 0 0), (10, vI ((i : Nat) : Int)), (9, vI ((s.n : Nat) : Int)), (8, .v (.slice s.A s.n s.c)), (0, .v (.slice s.A s.n s.c))], [⟨80, [vS (s.at i).name, vI (s.at i).holder, vI (s.at i).fence, .v (.slice (s.at i).line.A (s.at i).line.n (s.at i).line.c)]⟩]⟩ [] [] (by kernel_rfl) on wn ?_
            cases h6 : decide ((s.at i).fence < 1) with
            | true =>
              have h6 := of_decide_eq_true h6
              refine JL_run 4 [] [42, 3, 4, 10, 9, 8, 0] 1 ⟨[(42, vB true), (3, vI ((i : Nat) : Int)), (4, .p 0 0), (10, vI ((i : Nat) : Int)), (9, vI ((s.n : Nat) : Int)), (8, .v (.slice s.A s.n s.c)), (0, .v (.slice s.A s.n s.c))], [⟨80, [vS (s.at i).name, vI (s.at i).holder, vI (s.at i).fence, .v (.slice (s.at i).line.A (s.at i).line.n (s.at i).line.c)]⟩]⟩ [] [] (by kernel_rfl) on wn ?_
              refine l_nil (q_then_normal ?_)
              refine c_if true rfl ?_
              refine c_seq ?_
              refine c_region ?_
              refine JL_run 1 [] [2] 0 ⟨[(2, vI 2)], []⟩ [] [] (by kernel_rfl) on wn ?_
              refine l_nil (q_then_normal ?_)
              refine c_ret ?_
              refine q_then_ret (q_block_ret (q_then_ret (q_then_ret (q_block_ret (q_then_ret (q_ret (.inl rfl) [vI 2] rfl (fun bs w hS => ?_)))))))
              refine ⟨?_, hS.kp⟩
              simp only [retOf, den, List.map_cons, List.map_nil]
              have hf : lockF (s.xs.map CLock.abs) i = 2 := by
                unfold lockF
                simp only [hat, hq1, hq2, hq3]
                try simp only [h1, h2, h3, h4, h5, h6, emp_size, ne_eq, not_true_eq_false, not_false_eq_true, true_or, or_true, false_or, or_false, and_true, true_and, and_false, false_and, and_self, or_self, if_true, if_false, Bool.true_eq_false, Bool.false_eq_true, reduceIte, Classical.not_not, Bool.and_eq_true, decide_eq_true_eq]
                repeat (first | rw [if_pos (by omega)] | rw [if_neg (by omega)])
                all_goals first | rfl | (exfalso; omega)
              rw [hI, firstF_here (by omega) hf (by omega)]
            | false =>
              have h6 := of_decide_eq_false h6
              refine JL_run 4 [] [42, 3, 4, 10, 9, 8, 0] 1 ⟨[(42, vB (decide ((1073741824 : Int) < (s.at i).fence))), (3, vI ((i : Nat) : Int)), (4, .p 0 0), (10, vI ((i : Nat) : Int)), (9, vI ((s.n : Nat) : Int)), (8, .v (.slice s.A s.n s.c)), (0, .v (.slice s.A s.n s.c))], [⟨80, [vS (s.at i).name, vI (s.at i).holder, vI (s.at i).fence, .v (.slice (s.at i).line.A (s.at i).line.n (s.at i).line.c)]⟩]⟩ [] [] (by kernel_rfl) on wn ?_
              refine l_nil (q_then_normal ?_)
              cases h7 : decide ((1073741824 : Int) < (s.at i).fence) with
              | true =>
                have h7 := of_decide_eq_true h7
                refine c_if true rfl ?_
                refine c_seq ?_
                refine c_region ?_
                refine JL_run 1 [] [2] 0 ⟨[(2, vI 2)], []⟩ [] [] (by kernel_rfl) on wn ?_
                refine l_nil (q_then_normal ?_)
                refine c_ret ?_
                refine q_then_ret (q_block_ret (q_then_ret (q_then_ret (q_block_ret (q_then_ret (q_ret (.inl rfl) [vI 2] rfl (fun bs w hS => ?_)))))))
                refine ⟨?_, hS.kp⟩
                simp only [retOf, den, List.map_cons, List.map_nil]
                have hf : lockF (s.xs.map CLock.abs) i = 2 := by
                  unfold lockF
                  simp only [hat, hq1, hq2, hq3]
                  try simp only [h1, h2, h3, h4, h5, h6, h7, emp_size, ne_eq, not_true_eq_false, not_false_eq_true, true_or, or_true, false_or, or_false, and_true, true_and, and_false, false_and, and_self, or_self, if_true, if_false, Bool.true_eq_false, Bool.false_eq_true, reduceIte, Classical.not_not, Bool.and_eq_true, decide_eq_true_eq]
                  repeat (first | rw [if_pos (by omega)] | rw [if_neg (by omega)])
                  all_goals first | rfl | (exfalso; omega)
                rw [hI, firstF_here (by omega) hf (by omega)]
              | false =>
                have h7 := of_decide_eq_false h7
                refine c_if false rfl ?_
                refine c_skip ?_
                refine q_then_normal ?_
                refine c_seq ?_
                refine c_draw 13 [] (.p 0 (.p 1 (.p 2 (.p 3 (.p 4 (.p 5 (.p 6 (.p 7 (.q 8 (.p 9 (.q 10 (.p 11 (.p 12 .nil))))))))))))) [] [] Try_mixed (by kernel_rfl) (pq_then (pq_block (pq_then (pq_then (pq_block (pq_then pq_body)))))) .slnil ?_
                refine h_quiet [] [(0, true), (1, true), (2, true)] [(45, vB (decide ((0 : Int) < ((i : Nat) : Int)))), (44, vB (decide ((0 : Int) < ((i : Nat) : Int)))), (43, vI ((i : Nat) : Int)), (42, vB false), (3, vI ((i : Nat) : Int)), (4, .p 0 0), (10, vI ((i : Nat) : Int)), (9, vI ((s.n : Nat) : Int)), (8, .v (.slice s.A s.n s.c)), (0, .v (.slice s.A s.n s.c))] [] [] rfl (by kernel_rfl) on wn ?_
                cases h8 : decide ((0 : Int) < ((i : Nat) : Int)) with
                | true =>
                  have h8 := of_decide_eq_true h8
                  refine h_quiet [(6, .idx s.ad (i - 1)), (8, .ext [.string (s.at (i - 1)).name])] [(3, true), (4, true), (5, true), (6, true), (7, true), (8, false), (9, true), (10, false), (11, true), (12, true)] [(55, vB (!(Op.bytesLess ((s.at (i - 1)).name).toList ((s.at i).name).toList))), (54, vB (!(Op.bytesLess ((s.at (i - 1)).name).toList ((s.at i).name).toList))), (53, vS (s.at i).name), (52, .p 0 0), (51, vS (s.at (i - 1)).name), (50, .v (.pointer (some ((s.ad.add ((i - 1) * 4)).add 0)))), (49, .v (.pointer (some (s.ad.add ((i - 1) * 4))))), (48, vI (((i : Nat) : Int) - 1)), (47, vI ((i : Nat) : Int)), (46, .v (.slice s.A s.n s.c)), (45, vB true), (44, vB true), (43, vI ((i : Nat) : Int)), (42, vB false), (3, vI ((i : Nat) : Int)), (4, .p 0 0), (10, vI ((i : Nat) : Int)), (9, vI ((s.n : Nat) : Int)), (8, .v (.slice s.A s.n s.c)), (0, .v (.slice s.A s.n s.c))] [inR (((i : Nat) : Int) - 1), s.A = some s.ad, ((i : Nat) : Int) - 1 = (((i - 1) : Nat) : Int), (i - 1) < s.n] [((s.ad.add ((i - 1) * 4)).add 0, [.string (s.at (i - 1)).name])] rfl (by kernel_rfl) (oc (by unfold inR; omega) (oc (Sl.ok.own (s := s) (i := (i - 1)) oks (by omega)) (oc (by omega) (oc (by omega) on)))) (fun w hk hr => ⟨(Sl.rd.fld (s := s) (i := (i - 1)) (Sl.rd.kp hs hk) (by omega) 0 1 rfl), trivial⟩) ?_
                  refine h_nil ?_
                  refine l_nil (q_then_normal ?_)
                  cases h9 : Op.bytesLess ((s.at (i - 1)).name).toList ((s.at i).name).toList with
                  | true =>
                    refine c_if false rfl ?_
                    refine c_skip ?_
                    refine q_block_normal (q_then_normal ?_)
                    refine c_region ?_
                    refine JL_run 2 [] [10, 9, 8, 0] 0 ⟨[(10, vI (((i : Nat) : Int) + 1)), (9, vI ((s.n : Nat) : Int)), (8, .v (.slice s.A s.n s.c)), (0, .v (.slice s.A s.n s.c))], []⟩ [inR (((i : Nat) : Int) + 1)] [] (by kernel_rfl) (oc (by unfold inR; omega) on) wn ?_
                    have hf0 : lockF (s.xs.map CLock.abs) i = 0 := by
                      unfold lockF
                      simp only [hat, hq1, hq2, hq3]
                      try simp only [h1, h2, h3, h4, h5, h6, h7, h8, h9, emp_size, ne_eq, not_true_eq_false, not_false_eq_true, true_or, or_true, false_or, or_false, and_true, true_and, and_false, false_and, and_self, or_self, if_true, if_false, Bool.true_eq_false, Bool.false_eq_true, reduceIte, Classical.not_not, Bool.and_eq_true, decide_eq_true_eq]
                      repeat (first | rw [if_pos (by omega)] | rw [if_neg (by omega)])
                      all_goals first | rfl | (exfalso; omega)
                    refine l_nil (q_loop (x := (i : Nat)) ((i + 1) : Nat) ⟨by omega, by rw [hI]; exact firstF_step (by omega) hf0⟩ (by omega) (s_start [10, 9, 8, 0] 0 (by kernel_rfl) rfl))
                  | false =>
                    refine c_if true rfl ?_
                    refine c_seq ?_
                    refine c_region ?_
                    refine JL_run 1 [] [2] 0 ⟨[(2, vI 14)], []⟩ [] [] (by kernel_rfl) on wn ?_
                    refine l_nil (q_then_normal ?_)
                    refine c_ret ?_
                    refine q_block_ret (q_then_ret (q_then_ret (q_block_ret (q_then_ret (q_ret (.inl rfl) [vI 14] rfl (fun bs w hS => ?_))))))
                    refine ⟨?_, hS.kp⟩
                    simp only [retOf, den, List.map_cons, List.map_nil]
                    have hf : lockF (s.xs.map CLock.abs) i = 14 := by
                      unfold lockF
                      simp only [hat, hq1, hq2, hq3]
                      try simp only [h1, h2, h3, h4, h5, h6, h7, h8, h9, emp_size, ne_eq, not_true_eq_false, not_false_eq_true, true_or, or_true, false_or, or_false, and_true, true_and, and_false, false_and, and_self, or_self, if_true, if_false, Bool.true_eq_false, Bool.false_eq_true, reduceIte, Classical.not_not, Bool.and_eq_true, decide_eq_true_eq]
                      repeat (first | rw [if_pos (by omega)] | rw [if_neg (by omega)])
                      all_goals first | rfl | (exfalso; omega)
                    rw [hI, firstF_here (by omega) hf (by omega)]
                | false =>
                  have h8 := of_decide_eq_false h8
                  refine h_quiet [] [(3, true), (4, true), (5, true), (6, true), (7, true), (8, false), (9, true), (10, false), (11, true), (12, true)] [(55, vB false), (54, .v (undef)), (53, .v (undef)), (52, .v (undef)), (51, .v (undef)), (50, .v (undef)), (49, .v (undef)), (48, .v (undef)), (47, .v (undef)), (46, .v (undef)), (45, vB false), (44, vB false), (43, vI ((i : Nat) : Int)), (42, vB false), (3, vI ((i : Nat) : Int)), (4, .p 0 0), (10, vI ((i : Nat) : Int)), (9, vI ((s.n : Nat) : Int)), (8, .v (.slice s.A s.n s.c)), (0, .v (.slice s.A s.n s.c))] [] [] rfl (by kernel_rfl) on wn ?_
                  refine h_nil ?_
                  refine l_nil (q_then_normal ?_)
                  refine c_if false rfl ?_
                  refine c_skip ?_
                  refine q_block_normal (q_then_normal ?_)
                  refine c_region ?_
                  refine JL_run 2 [] [10, 9, 8, 0] 0 ⟨[(10, vI (((i : Nat) : Int) + 1)), (9, vI ((s.n : Nat) : Int)), (8, .v (.slice s.A s.n s.c)), (0, .v (.slice s.A s.n s.c))], []⟩ [inR (((i : Nat) : Int) + 1)] [] (by kernel_rfl) (oc (by unfold inR; omega) on) wn ?_
                  have hf0 : lockF (s.xs.map CLock.abs) i = 0 := by
                    unfold lockF
                    simp only [hat, hq1, hq2, hq3]
                    try simp only [h1, h2, h3, h4, h5, h6, h7, h8, emp_size, ne_eq, not_true_eq_false, not_false_eq_true, true_or, or_true, false_or, or_false, and_true, true_and, and_false, false_and, and_self, or_self, if_true, if_false, Bool.true_eq_false, Bool.false_eq_true, reduceIte, Classical.not_not, Bool.and_eq_true, decide_eq_true_eq]
                    repeat (first | rw [if_pos (by omega)] | rw [if_neg (by omega)])
                    all_goals first | rfl | (exfalso; omega)
                  refine l_nil (q_loop (x := (i : Nat)) ((i + 1) : Nat) ⟨by omega, by rw [hI]; exact firstF_step (by omega) hf0⟩ (by omega) (s_start [10, 9, 8, 0] 0 (by kernel_rfl) rfl))
          | false =>
            refine c_if true rfl ?_
            refine c_seq ?_
            refine c_region ?_
            refine JL_run 1 [] [2] 0 ⟨[(2, vI 4)], []⟩ [] [] (by kernel_rfl) on wn ?_
            refine l_nil (q_then_normal ?_)
            refine c_ret ?_
            refine q_then_ret (q_block_ret (q_then_ret (q_then_ret (q_block_ret (q_then_ret (q_ret (.inl rfl) [vI 4] rfl (fun bs w hS => ?_)))))))
            refine ⟨?_, hS.kp⟩
            simp only [retOf, den, List.map_cons, List.map_nil]
            have hf : lockF (s.xs.map CLock.abs) i = 4 := by
              unfold lockF
              simp only [hat, hq1, hq2, hq3]
              try simp only [h1, h2, h3, h4, h5, emp_size, ne_eq, not_true_eq_false, not_false_eq_true, true_or, or_true, false_or, or_false, and_true, true_and, and_false, false_and, and_self, or_self, if_true, if_false, Bool.true_eq_false, Bool.false_eq_true, reduceIte, Classical.not_not, Bool.and_eq_true, decide_eq_true_eq]
              repeat (first | rw [if_pos (by omega)] | rw [if_neg (by omega)])
              all_goals first | rfl | (exfalso; omega)
            rw [hI, firstF_here (by omega) hf (by omega)]
        | false =>
          have h4 := of_decide_eq_false h4
          refine JL_run 2 [] [25, 23, 19, 3, 4, 10, 9, 8, 0] 1 ⟨[(25, vI (s.at i).holder), (23, vB true), (19, vB false), (3, vI ((i : Nat) : Int)), (4, .p 0 0), (10, vI ((i : Nat) : Int)), (9, vI ((s.n : Nat) : Int)), (8, .v (.slice s.A s.n s.c)), (0, .v (.slice s.A s.n s.c))], [⟨80, [vS (s.at i).name, vI (s.at i).holder, vI (s.at i).fence, .v (.slice (s.at i).line.A (s.at i).line.n (s.at i).line.c)]⟩]⟩ [] [] (by kernel_rfl) on wn ?_
          refine l_pure 108 [] [vI (s.at i).holder] (.bool (inB (s.at i).holder 1 9)) Try.call108 rfl rfl rfl rfl (fun bs w hS => lock_client (s.at i).holder w) ?_
          refine JL_run 4 [] [30, 3, 4, 10, 9, 8, 0] 1 ⟨[(30, vB (!(inB (s.at i).holder 1 9))), (3, vI ((i : Nat) : Int)), (4, .p 0 0), (10, vI ((i : Nat) : Int)), (9, vI ((s.n : Nat) : Int)), (8, .v (.slice s.A s.n s.c)), (0, .v (.slice s.A s.n s.c))], [⟨80, [vS (s.at i).name, vI (s.at i).holder, vI (s.at i).fence, .v (.slice (s.at i).line.A (s.at i).line.n (s.at i).line.c)]⟩]⟩ [] [] (by kernel_rfl) on wn ?_
          cases h10 : inB (s.at i).holder 1 9 with
          | true =>
            simp only [inB, Bool.and_eq_true, Bool.and_eq_false_iff, decide_eq_true_eq, decide_eq_false_iff_not] at h10
            refine JL_run 1 [] [31, 30, 3, 4, 10, 9, 8, 0] 1 ⟨[(31, .v (.agg #[.string (s.at i).name, .int .i64 (s.at i).holder, .int .i64 (s.at i).fence, .slice (s.at i).line.A (s.at i).line.n (s.at i).line.c])), (30, vB false), (3, vI ((i : Nat) : Int)), (4, .p 0 0), (10, vI ((i : Nat) : Int)), (9, vI ((s.n : Nat) : Int)), (8, .v (.slice s.A s.n s.c)), (0, .v (.slice s.A s.n s.c))], [⟨80, [vS (s.at i).name, vI (s.at i).holder, vI (s.at i).fence, .v (.slice (s.at i).line.A (s.at i).line.n (s.at i).line.c)]⟩]⟩ [] [] (by kernel_rfl) on wn ?_
            refine l_pure 144 [] [.v (.agg #[.string (s.at i).name, .int .i64 (s.at i).holder, .int .i64 (s.at i).fence, .slice (s.at i).line.A (s.at i).line.n (s.at i).line.c])] (.bool (lineOk (s.at i).abs)) Try.call144 rfl rfl rfl rfl (fun bs w hS => lock_line (s.at i) w (Sl.rd.sub (s := s) (i := i) (Sl.rd.kp hs hS.kp) (by omega))) ?_
            refine JL_run 2 [] [34, 3, 4, 10, 9, 8, 0] 1 ⟨[(34, vB (!(lineOk (s.at i).abs))), (3, vI ((i : Nat) : Int)), (4, .p 0 0), (10, vI ((i : Nat) : Int)), (9, vI ((s.n : Nat) : Int)), (8, .v (.slice s.A s.n s.c)), (0, .v (.slice s.A s.n s.c))], [⟨80, [vS (s.at i).name, vI (s.at i).holder, vI (s.at i).fence, .v (.slice (s.at i).line.A (s.at i).line.n (s.at i).line.c)]⟩]⟩ [] [] (by kernel_rfl) on wn ?_
            refine l_nil (q_then_normal ?_)
            cases h11 : lineOk (s.at i).abs with
            | true =>
              refine c_if false rfl ?_
              refine c_skip ?_
              refine q_then_normal ?_
              refine c_seq ?_
              refine c_seq ?_
              refine c_region ?_
              refine JL_run 4 [] [38, 3, 4, 10, 9, 8, 0] 1 ⟨[(38, vB (decide ((s.at i).fence < 1))), (3, vI ((i : Nat) : Int)), (4, .p 0 0), (10, vI ((i : Nat) : Int)), (9, vI ((s.n : Nat) : Int)), (8, .v (.slice s.A s.n s.c)), (0, .v (.slice s.A s.n s.c))], [⟨80, [vS (s.at i).name, vI (s.at i).holder, vI (s.at i).fence, .v (.slice (s.at i).line.A (s.at i).line.n (s.at i).line.c)]⟩]⟩ [] [] (by kernel_rfl) on wn ?_
              cases h12 : decide ((s.at i).fence < 1) with
              | true =>
                have h12 := of_decide_eq_true h12
                refine JL_run 4 [] [42, 3, 4, 10, 9, 8, 0] 1 ⟨[(42, vB true), (3, vI ((i : Nat) : Int)), (4, .p 0 0), (10, vI ((i : Nat) : Int)), (9, vI ((s.n : Nat) : Int)), (8, .v (.slice s.A s.n s.c)), (0, .v (.slice s.A s.n s.c))], [⟨80, [vS (s.at i).name, vI (s.at i).holder, vI (s.at i).fence, .v (.slice (s.at i).line.A (s.at i).line.n (s.at i).line.c)]⟩]⟩ [] [] (by kernel_rfl) on wn ?_
                refine l_nil (q_then_normal ?_)
                refine c_if true rfl ?_
                refine c_seq ?_
                refine c_region ?_
                refine JL_run 1 [] [2] 0 ⟨[(2, vI 2)], []⟩ [] [] (by kernel_rfl) on wn ?_
                refine l_nil (q_then_normal ?_)
                refine c_ret ?_
                refine q_then_ret (q_block_ret (q_then_ret (q_then_ret (q_block_ret (q_then_ret (q_ret (.inl rfl) [vI 2] rfl (fun bs w hS => ?_)))))))
                refine ⟨?_, hS.kp⟩
                simp only [retOf, den, List.map_cons, List.map_nil]
                have hf : lockF (s.xs.map CLock.abs) i = 2 := by
                  unfold lockF
                  simp only [hat, hq1, hq2, hq3]
                  try simp only [h1, h2, h3, h4, h10, h11, h12, emp_size, ne_eq, not_true_eq_false, not_false_eq_true, true_or, or_true, false_or, or_false, and_true, true_and, and_false, false_and, and_self, or_self, if_true, if_false, Bool.true_eq_false, Bool.false_eq_true, reduceIte, Classical.not_not, Bool.and_eq_true, decide_eq_true_eq]
                  repeat (first | rw [if_pos (by omega)] | rw [if_neg (by omega)])
                  all_goals first | rfl | (exfalso; omega)
                rw [hI, firstF_here (by omega) hf (by omega)]
              | false =>
                have h12 := of_decide_eq_false h12
                refine JL_run 4 [] [42, 3, 4, 10, 9, 8, 0] 1 ⟨[(42, vB (decide ((1073741824 : Int) < (s.at i).fence))), (3, vI ((i : Nat) : Int)), (4, .p 0 0), (10, vI ((i : Nat) : Int)), (9, vI ((s.n : Nat) : Int)), (8, .v (.slice s.A s.n s.c)), (0, .v (.slice s.A s.n s.c))], [⟨80, [vS (s.at i).name, vI (s.at i).holder, vI (s.at i).fence, .v (.slice (s.at i).line.A (s.at i).line.n (s.at i).line.c)]⟩]⟩ [] [] (by kernel_rfl) on wn ?_
                refine l_nil (q_then_normal ?_)
                cases h13 : decide ((1073741824 : Int) < (s.at i).fence) with
                | true =>
                  have h13 := of_decide_eq_true h13
                  refine c_if true rfl ?_
                  refine c_seq ?_
                  refine c_region ?_
                  refine JL_run 1 [] [2] 0 ⟨[(2, vI 2)], []⟩ [] [] (by kernel_rfl) on wn ?_
                  refine l_nil (q_then_normal ?_)
                  refine c_ret ?_
                  refine q_then_ret (q_block_ret (q_then_ret (q_then_ret (q_block_ret (q_then_ret (q_ret (.inl rfl) [vI 2] rfl (fun bs w hS => ?_)))))))
                  refine ⟨?_, hS.kp⟩
                  simp only [retOf, den, List.map_cons, List.map_nil]
                  have hf : lockF (s.xs.map CLock.abs) i = 2 := by
                    unfold lockF
                    simp only [hat, hq1, hq2, hq3]
                    try simp only [h1, h2, h3, h4, h10, h11, h12, h13, emp_size, ne_eq, not_true_eq_false, not_false_eq_true, true_or, or_true, false_or, or_false, and_true, true_and, and_false, false_and, and_self, or_self, if_true, if_false, Bool.true_eq_false, Bool.false_eq_true, reduceIte, Classical.not_not, Bool.and_eq_true, decide_eq_true_eq]
                    repeat (first | rw [if_pos (by omega)] | rw [if_neg (by omega)])
                    all_goals first | rfl | (exfalso; omega)
                  rw [hI, firstF_here (by omega) hf (by omega)]
                | false =>
                  have h13 := of_decide_eq_false h13
                  refine c_if false rfl ?_
                  refine c_skip ?_
                  refine q_then_normal ?_
                  refine c_seq ?_
                  refine c_draw 13 [] (.p 0 (.p 1 (.p 2 (.p 3 (.p 4 (.p 5 (.p 6 (.p 7 (.q 8 (.p 9 (.q 10 (.p 11 (.p 12 .nil))))))))))))) [] [] Try_mixed (by kernel_rfl) (pq_then (pq_block (pq_then (pq_then (pq_block (pq_then pq_body)))))) .slnil ?_
                  refine h_quiet [] [(0, true), (1, true), (2, true)] [(45, vB (decide ((0 : Int) < ((i : Nat) : Int)))), (44, vB (decide ((0 : Int) < ((i : Nat) : Int)))), (43, vI ((i : Nat) : Int)), (42, vB false), (3, vI ((i : Nat) : Int)), (4, .p 0 0), (10, vI ((i : Nat) : Int)), (9, vI ((s.n : Nat) : Int)), (8, .v (.slice s.A s.n s.c)), (0, .v (.slice s.A s.n s.c))] [] [] rfl (by kernel_rfl) on wn ?_
                  cases h14 : decide ((0 : Int) < ((i : Nat) : Int)) with
                  | true =>
                    have h14 := of_decide_eq_true h14
                    refine h_quiet [(6, .idx s.ad (i - 1)), (8, .ext [.string (s.at (i - 1)).name])] [(3, true), (4, true), (5, true), (6, true), (7, true), (8, false), (9, true), (10, false), (11, true), (12, true)] [(55, vB (!(Op.bytesLess ((s.at (i - 1)).name).toList ((s.at i).name).toList))), (54, vB (!(Op.bytesLess ((s.at (i - 1)).name).toList ((s.at i).name).toList))), (53, vS (s.at i).name), (52, .p 0 0), (51, vS (s.at (i - 1)).name), (50, .v (.pointer (some ((s.ad.add ((i - 1) * 4)).add 0)))), (49, .v (.pointer (some (s.ad.add ((i - 1) * 4))))), (48, vI (((i : Nat) : Int) - 1)), (47, vI ((i : Nat) : Int)), (46, .v (.slice s.A s.n s.c)), (45, vB true), (44, vB true), (43, vI ((i : Nat) : Int)), (42, vB false), (3, vI ((i : Nat) : Int)), (4, .p 0 0), (10, vI ((i : Nat) : Int)), (9, vI ((s.n : Nat) : Int)), (8, .v (.slice s.A s.n s.c)), (0, .v (.slice s.A s.n s.c))] [inR (((i : Nat) : Int) - 1), s.A = some s.ad, ((i : Nat) : Int) - 1 = (((i - 1) : Nat) : Int), (i - 1) < s.n] [((s.ad.add ((i - 1) * 4)).add 0, [.string (s.at (i - 1)).name])] rfl (by kernel_rfl) (oc (by unfold inR; omega) (oc (Sl.ok.own (s := s) (i := (i - 1)) oks (by omega)) (oc (by omega) (oc (by omega) on)))) (fun w hk hr => ⟨(Sl.rd.fld (s := s) (i := (i - 1)) (Sl.rd.kp hs hk) (by omega) 0 1 rfl), trivial⟩) ?_
                    refine h_nil ?_
                    refine l_nil (q_then_normal ?_)
                    cases h15 : Op.bytesLess ((s.at (i - 1)).name).toList ((s.at i).name).toList with
                    | true =>
                      refine c_if false rfl ?_
                      refine c_skip ?_
                      refine q_block_normal (q_then_normal ?_)
                      refine c_region ?_
                      refine JL_run 2 [] [10, 9, 8, 0] 0 ⟨[(10, vI (((i : Nat) : Int) + 1)), (9, vI ((s.n : Nat) : Int)), (8, .v (.slice s.A s.n s.c)), (0, .v (.slice s.A s.n s.c))], []⟩ [inR (((i : Nat) : Int) + 1)] [] (by kernel_rfl) (oc (by unfold inR; omega) on) wn ?_
                      have hf0 : lockF (s.xs.map CLock.abs) i = 0 := by
                        unfold lockF
                        simp only [hat, hq1, hq2, hq3]
                        try simp only [h1, h2, h3, h4, h10, h11, h12, h13, h14, h15, emp_size, ne_eq, not_true_eq_false, not_false_eq_true, true_or, or_true, false_or, or_false, and_true, true_and, and_false, false_and, and_self, or_self, if_true, if_false, Bool.true_eq_false, Bool.false_eq_true, reduceIte, Classical.not_not, Bool.and_eq_true, decide_eq_true_eq]
                        repeat (first | rw [if_pos (by omega)] | rw [if_neg (by omega)])
                        all_goals first | rfl | (exfalso; omega)
                      refine l_nil (q_loop (x := (i : Nat)) ((i + 1) : Nat) ⟨by omega, by rw [hI]; exact firstF_step (by omega) hf0⟩ (by omega) (s_start [10, 9, 8, 0] 0 (by kernel_rfl) rfl))
                    | false =>
                      refine c_if true rfl ?_
                      refine c_seq ?_
                      refine c_region ?_
                      refine JL_run 1 [] [2] 0 ⟨[(2, vI 14)], []⟩ [] [] (by kernel_rfl) on wn ?_
                      refine l_nil (q_then_normal ?_)
                      refine c_ret ?_
                      refine q_block_ret (q_then_ret (q_then_ret (q_block_ret (q_then_ret (q_ret (.inl rfl) [vI 14] rfl (fun bs w hS => ?_))))))
                      refine ⟨?_, hS.kp⟩
                      simp only [retOf, den, List.map_cons, List.map_nil]
                      have hf : lockF (s.xs.map CLock.abs) i = 14 := by
                        unfold lockF
                        simp only [hat, hq1, hq2, hq3]
                        try simp only [h1, h2, h3, h4, h10, h11, h12, h13, h14, h15, emp_size, ne_eq, not_true_eq_false, not_false_eq_true, true_or, or_true, false_or, or_false, and_true, true_and, and_false, false_and, and_self, or_self, if_true, if_false, Bool.true_eq_false, Bool.false_eq_true, reduceIte, Classical.not_not, Bool.and_eq_true, decide_eq_true_eq]
                        repeat (first | rw [if_pos (by omega)] | rw [if_neg (by omega)])
                        all_goals first | rfl | (exfalso; omega)
                      rw [hI, firstF_here (by omega) hf (by omega)]
                  | false =>
                    have h14 := of_decide_eq_false h14
                    refine h_quiet [] [(3, true), (4, true), (5, true), (6, true), (7, true), (8, false), (9, true), (10, false), (11, true), (12, true)] [(55, vB false), (54, .v (undef)), (53, .v (undef)), (52, .v (undef)), (51, .v (undef)), (50, .v (undef)), (49, .v (undef)), (48, .v (undef)), (47, .v (undef)), (46, .v (undef)), (45, vB false), (44, vB false), (43, vI ((i : Nat) : Int)), (42, vB false), (3, vI ((i : Nat) : Int)), (4, .p 0 0), (10, vI ((i : Nat) : Int)), (9, vI ((s.n : Nat) : Int)), (8, .v (.slice s.A s.n s.c)), (0, .v (.slice s.A s.n s.c))] [] [] rfl (by kernel_rfl) on wn ?_
                    refine h_nil ?_
                    refine l_nil (q_then_normal ?_)
                    refine c_if false rfl ?_
                    refine c_skip ?_
                    refine q_block_normal (q_then_normal ?_)
                    refine c_region ?_
                    refine JL_run 2 [] [10, 9, 8, 0] 0 ⟨[(10, vI (((i : Nat) : Int) + 1)), (9, vI ((s.n : Nat) : Int)), (8, .v (.slice s.A s.n s.c)), (0, .v (.slice s.A s.n s.c))], []⟩ [inR (((i : Nat) : Int) + 1)] [] (by kernel_rfl) (oc (by unfold inR; omega) on) wn ?_
                    have hf0 : lockF (s.xs.map CLock.abs) i = 0 := by
                      unfold lockF
                      simp only [hat, hq1, hq2, hq3]
                      try simp only [h1, h2, h3, h4, h10, h11, h12, h13, h14, emp_size, ne_eq, not_true_eq_false, not_false_eq_true, true_or, or_true, false_or, or_false, and_true, true_and, and_false, false_and, and_self, or_self, if_true, if_false, Bool.true_eq_false, Bool.false_eq_true, reduceIte, Classical.not_not, Bool.and_eq_true, decide_eq_true_eq]
                      repeat (first | rw [if_pos (by omega)] | rw [if_neg (by omega)])
                      all_goals first | rfl | (exfalso; omega)
                    refine l_nil (q_loop (x := (i : Nat)) ((i + 1) : Nat) ⟨by omega, by rw [hI]; exact firstF_step (by omega) hf0⟩ (by omega) (s_start [10, 9, 8, 0] 0 (by kernel_rfl) rfl))
            | false =>
              refine c_if true rfl ?_
              refine c_seq ?_
              refine c_region ?_
              refine JL_run 1 [] [2] 0 ⟨[(2, vI 4)], []⟩ [] [] (by kernel_rfl) on wn ?_
              refine l_nil (q_then_normal ?_)
              refine c_ret ?_
              refine q_then_ret (q_block_ret (q_then_ret (q_then_ret (q_block_ret (q_then_ret (q_ret (.inl rfl) [vI 4] rfl (fun bs w hS => ?_)))))))
              refine ⟨?_, hS.kp⟩
              simp only [retOf, den, List.map_cons, List.map_nil]
              have hf : lockF (s.xs.map CLock.abs) i = 4 := by
                unfold lockF
                simp only [hat, hq1, hq2, hq3]
                try simp only [h1, h2, h3, h4, h10, h11, emp_size, ne_eq, not_true_eq_false, not_false_eq_true, true_or, or_true, false_or, or_false, and_true, true_and, and_false, false_and, and_self, or_self, if_true, if_false, Bool.true_eq_false, Bool.false_eq_true, reduceIte, Classical.not_not, Bool.and_eq_true, decide_eq_true_eq]
                repeat (first | rw [if_pos (by omega)] | rw [if_neg (by omega)])
                all_goals first | rfl | (exfalso; omega)
              rw [hI, firstF_here (by omega) hf (by omega)]
          | false =>
            simp only [inB, Bool.and_eq_true, Bool.and_eq_false_iff, decide_eq_true_eq, decide_eq_false_iff_not] at h10
            refine JL_run 4 [] [34, 3, 4, 10, 9, 8, 0] 1 ⟨[(34, vB true), (3, vI ((i : Nat) : Int)), (4, .p 0 0), (10, vI ((i : Nat) : Int)), (9, vI ((s.n : Nat) : Int)), (8, .v (.slice s.A s.n s.c)), (0, .v (.slice s.A s.n s.c))], [⟨80, [vS (s.at i).name, vI (s.at i).holder, vI (s.at i).fence, .v (.slice (s.at i).line.A (s.at i).line.n (s.at i).line.c)]⟩]⟩ [] [] (by kernel_rfl) on wn ?_
            refine l_nil (q_then_normal ?_)
            refine c_if true rfl ?_
            refine c_seq ?_
            refine c_region ?_
            refine JL_run 1 [] [2] 0 ⟨[(2, vI 4)], []⟩ [] [] (by kernel_rfl) on wn ?_
            refine l_nil (q_then_normal ?_)
            refine c_ret ?_
            refine q_then_ret (q_block_ret (q_then_ret (q_then_ret (q_block_ret (q_then_ret (q_ret (.inl rfl) [vI 4] rfl (fun bs w hS => ?_)))))))
            refine ⟨?_, hS.kp⟩
            simp only [retOf, den, List.map_cons, List.map_nil]
            have hf : lockF (s.xs.map CLock.abs) i = 4 := by
              unfold lockF
              simp only [hat, hq1, hq2, hq3]
              try simp only [h1, h2, h3, h4, h10, emp_size, ne_eq, not_true_eq_false, not_false_eq_true, true_or, or_true, false_or, or_false, and_true, true_and, and_false, false_and, and_self, or_self, if_true, if_false, Bool.true_eq_false, Bool.false_eq_true, reduceIte, Classical.not_not, Bool.and_eq_true, decide_eq_true_eq]
              repeat (first | rw [if_pos (by omega)] | rw [if_neg (by omega)])
              all_goals first | rfl | (exfalso; omega)
            rw [hI, firstF_here (by omega) hf (by omega)]
      | false =>
        refine JL_run 15 [] [34, 3, 4, 10, 9, 8, 0] 1 ⟨[(34, vB true), (3, vI ((i : Nat) : Int)), (4, .p 0 0), (10, vI ((i : Nat) : Int)), (9, vI ((s.n : Nat) : Int)), (8, .v (.slice s.A s.n s.c)), (0, .v (.slice s.A s.n s.c))], [⟨80, [vS (s.at i).name, vI (s.at i).holder, vI (s.at i).fence, .v (.slice (s.at i).line.A (s.at i).line.n (s.at i).line.c)]⟩]⟩ [] [] (by kernel_rfl) on wn ?_
        refine l_nil (q_then_normal ?_)
        refine c_if true rfl ?_
        refine c_seq ?_
        refine c_region ?_
        refine JL_run 1 [] [2] 0 ⟨[(2, vI 4)], []⟩ [] [] (by kernel_rfl) on wn ?_
        refine l_nil (q_then_normal ?_)
        refine c_ret ?_
        refine q_then_ret (q_block_ret (q_then_ret (q_then_ret (q_block_ret (q_then_ret (q_ret (.inl rfl) [vI 4] rfl (fun bs w hS => ?_)))))))
        refine ⟨?_, hS.kp⟩
        simp only [retOf, den, List.map_cons, List.map_nil]
        have hf : lockF (s.xs.map CLock.abs) i = 4 := by
          unfold lockF
          simp only [hat, hq1, hq2, hq3]
          try simp only [h1, h2, h3, emp_size, ne_eq, not_true_eq_false, not_false_eq_true, true_or, or_true, false_or, or_false, and_true, true_and, and_false, false_and, and_self, or_self, if_true, if_false, Bool.true_eq_false, Bool.false_eq_true, reduceIte, Classical.not_not, Bool.and_eq_true, decide_eq_true_eq]
          repeat (first | rw [if_pos (by omega)] | rw [if_neg (by omega)])
          all_goals first | rfl | (exfalso; omega)
        rw [hI, firstF_here (by omega) hf (by omega)]
    | false =>
      have h2 := of_decide_eq_false h2
      refine c_if false rfl ?_
      refine c_exit ?_
      refine q_then_exit (q_then_exit (q_block_hit (q_then_normal ?_)))
      refine c_seq ?_
      refine c_region ?_
      refine JL_run 1 [] [2] 0 ⟨[(2, vI 0)], []⟩ [] [] (by kernel_rfl) on wn ?_
      refine l_nil (q_then_normal ?_)
      refine c_ret ?_
      refine q_ret (.inl rfl) [vI 0] rfl (fun bs w hS => ?_)
      refine ⟨?_, hS.kp⟩
      simp only [retOf, den, List.map_cons, List.map_nil]
      rw [hI, firstF_end (by omega)]

theorem ref_LocksFault {B : Nat → Prop} (s : Sl CLock) (w : World) (hs : s.rd B w) : Calls Try.prog 113 #[.slice s.A s.n s.c] w fun e w' => e = .returned (.int .i64 (mLocks (s.xs.map CLock.abs))) ∧ Kp [] w w' := by
  have oks := Sl.rd.ok hs
  have ncs := Sl.ok.nc oks
  have hns : s.n = s.xs.length := rfl
  have hat : ∀ q, (s.xs.map CLock.abs).getD q default = (s.at q).abs := fun q => abs_at q
  have hq1 : ∀ q, (s.at q).abs.name = (s.at q).name := fun _ => rfl
  have hq2 : ∀ q, (s.at q).abs.holder = (s.at q).holder := fun _ => rfl
  have hq3 : ∀ q, (s.at q).abs.fence = (s.at q).fence := fun _ => rfl
  have hml : (s.xs.map CLock.abs).length = s.n := by simp
  refine calls_J0 104 Try.func113 rfl rfl [.slice s.A s.n s.c] rfl ?_
  refine c_seq ?_
  refine c_region ?_
  refine JL_run 1 [] [0] 0 ⟨[(0, .v (.slice s.A s.n s.c))], []⟩ [] [] (by kernel_rfl) on wn ?_
  refine l_nil (q_then_normal ?_)
  refine c_seq ?_
  refine c_seq ?_
  refine c_region ?_
  refine JL_run 3 [] [9, 0] 0 ⟨[(9, vB (decide ((5 : Int) < ((s.n : Nat) : Int)))), (0, .v (.slice s.A s.n s.c))], []⟩ [] [] (by kernel_rfl) on wn ?_
  refine l_nil (q_then_normal ?_)
  cases h1 : decide ((5 : Int) < ((s.n : Nat) : Int)) with
  | true =>
    have h1 := of_decide_eq_true h1
    refine c_if true rfl ?_
    refine c_seq ?_
    refine c_region ?_
    refine JL_run 1 [] [2] 0 ⟨[(2, vI 1)], []⟩ [] [] (by kernel_rfl) on wn ?_
    refine l_nil (q_then_normal ?_)
    refine c_ret ?_
    refine q_then_ret (q_ret (.inl rfl) [vI 1] rfl (fun bs w hS => ?_))
    refine ⟨?_, hS.kp⟩
    simp only [retOf, den, List.map_cons, List.map_nil]
    have hm : mLocks (s.xs.map CLock.abs) = 1 := by
      unfold mLocks; rw [hml, if_pos (by omega)]
    rw [hm]
  | false =>
    have h1 := of_decide_eq_false h1
    refine c_if false rfl ?_
    refine c_skip ?_
    refine q_then_normal ?_
    refine c_seq ?_
    refine c_seq ?_
    refine c_region ?_
    refine JL_run 1 [] [3, 0] 0 ⟨[(3, vI 0), (0, .v (.slice s.A s.n s.c))], []⟩ [] [] (by kernel_rfl) on wn ?_
    refine l_nil (q_then_normal ?_)
    refine c_block ?_
    refine c_loop (σ := Nat) (fun i => i ≤ s.n ∧ mLocks (s.xs.map CLock.abs) = firstF (lockF (s.xs.map CLock.abs)) (s.n - i) i) (fun i => s.n - i) (fun i => []) (fun i => ⟨[(3, vI ((i : Nat) : Int)), (0, .v (.slice s.A s.n s.c))], []⟩) 0 ⟨Nat.zero_le _, by unfold mLocks; rw [hml, if_neg (by omega)]⟩ (s_start [3, 0] 0 (by kernel_rfl) rfl) ?_
    rintro i ⟨hi, hI⟩
    have hp : ∀ q, posOk (s.at i).abs q = (inB ((s.at i).line.at q) 1 9 && (!decide ((s.at i).line.at q = (s.at i).holder) && !(((s.at i).line.xs.take q).any fun z => decide (z = (s.at i).line.at q)))) := fun _ => rfl
    refine c_seq ?_
    refine c_seq ?_
    refine c_region ?_
    refine JL_run 4 [] [13, 3, 0] 0 ⟨[(13, vB (decide (((i : Nat) : Int) < ((s.n : Nat) : Int)))), (3, vI ((i : Nat) : Int)), (0, .v (.slice s.A s.n s.c))], []⟩ [] [] (by kernel_rfl) on wn ?_
    refine l_nil (q_then_normal ?_)
    cases h2 : decide (((i : Nat) : Int) < ((s.n : Nat) : Int)) with
    | true =>
      have h2 := of_decide_eq_true h2
      refine c_if true rfl ?_
      refine c_skip ?_
      refine q_then_normal ?_
      refine c_seq ?_
      refine c_block ?_
      refine c_seq ?_
      refine c_region ?_
      refine JL_run 6 [(2, .idx s.ad i), (3, .ext [.string (s.at i).name, .int .i64 (s.at i).holder, .int .i64 (s.at i).fence, .slice (s.at i).line.A (s.at i).line.n (s.at i).line.c])] [4, 3, 0] 1 ⟨[(4, .p 0 0), (3, vI ((i : Nat) : Int)), (0, .v (.slice s.A s.n s.c))], [⟨80, [vS (s.at i).name, vI (s.at i).holder, vI (s.at i).fence, .v (.slice (s.at i).line.A (s.at i).line.n (s.at i).line.c)]⟩]⟩ [s.A = some s.ad, ((i : Nat) : Int) = ((i : Nat) : Int), i < s.n] [(s.ad.add (i * 4), [.string (s.at i).name, .int .i64 (s.at i).holder, .int .i64 (s.at i).fence, .slice (s.at i).line.A (s.at i).line.n (s.at i).line.c])] (by kernel_rfl) (oc (Sl.ok.own (s := s) (i := i) oks (by omega)) (oc rfl (oc (by omega) on))) (fun w hk hr => ⟨(Sl.rd.all (s := s) (i := i) (Sl.rd.kp hs hk) (by omega) rfl), trivial⟩) ?_
      refine l_nil (q_then_normal ?_)
      refine c_seq ?_
      refine c_region ?_
      refine JL_run 2 [] [21, 4, 3, 0] 1 ⟨[(21, vS (s.at i).name), (4, .p 0 0), (3, vI ((i : Nat) : Int)), (0, .v (.slice s.A s.n s.c))], [⟨80, [vS (s.at i).name, vI (s.at i).holder, vI (s.at i).fence, .v (.slice (s.at i).line.A (s.at i).line.n (s.at i).line.c)]⟩]⟩ [] [] (by kernel_rfl) on wn ?_
      refine l_pure 95 [] [vS (s.at i).name] (.bool (mName (s.at i).name)) Try.call95 rfl rfl rfl rfl (fun bs w hS => ref_NameMay _ w (And.left (Sl.ok.at (s := s) (i := i) oks (by omega)))) ?_
      refine JL_run 2 [] [24, 4, 3, 0] 1 ⟨[(24, vB (!(mName (s.at i).name))), (4, .p 0 0), (3, vI ((i : Nat) : Int)), (0, .v (.slice s.A s.n s.c))], [⟨80, [vS (s.at i).name, vI (s.at i).holder, vI (s.at i).fence, .v (.slice (s.at i).line.A (s.at i).line.n (s.at i).line.c)]⟩]⟩ [] [] (by kernel_rfl) on wn ?_
      cases h3 : mName (s.at i).name with
      | true =>
        refine JL_run 2 [] [26, 24, 4, 3, 0] 1 ⟨[(26, vI (s.at i).holder), (24, vB false), (4, .p 0 0), (3, vI ((i : Nat) : Int)), (0, .v (.slice s.A s.n s.c))], [⟨80, [vS (s.at i).name, vI (s.at i).holder, vI (s.at i).fence, .v (.slice (s.at i).line.A (s.at i).line.n (s.at i).line.c)]⟩]⟩ [] [] (by kernel_rfl) on wn ?_
        refine l_pure 64 [] [vI (s.at i).holder, vI 0, vI 9] (.bool (inB (s.at i).holder 0 9)) Try.call64 rfl rfl rfl rfl (fun bs w hS => ref_In _ _ _ w) ?_
        refine JL_run 3 [] [30, 4, 3, 0] 1 ⟨[(30, vB (!(inB (s.at i).holder 0 9))), (4, .p 0 0), (3, vI ((i : Nat) : Int)), (0, .v (.slice s.A s.n s.c))], [⟨80, [vS (s.at i).name, vI (s.at i).holder, vI (s.at i).fence, .v (.slice (s.at i).line.A (s.at i).line.n (s.at i).line.c)]⟩]⟩ [] [] (by kernel_rfl) on wn ?_
        cases h4 : inB (s.at i).holder 0 9 with
        | true =>
          simp only [inB, Bool.and_eq_true, Bool.and_eq_false_iff, decide_eq_true_eq, decide_eq_false_iff_not] at h4
          refine JL_run 6 [] [36, 4, 3, 0] 1 ⟨[(36, vB (decide ((3 : Int) < (((s.at i).line.n : Nat) : Int)))), (4, .p 0 0), (3, vI ((i : Nat) : Int)), (0, .v (.slice s.A s.n s.c))], [⟨80, [vS (s.at i).name, vI (s.at i).holder, vI (s.at i).fence, .v (.slice (s.at i).line.A (s.at i).line.n (s.at i).line.c)]⟩]⟩ [] [] (by kernel_rfl) on wn ?_
          cases h5 : decide ((3 : Int) < (((s.at i).line.n : Nat) : Int)) with
          | true =>
            have h5 := of_decide_eq_true h5
            refine JL_run 11 [] [5, 4, 3, 0] 1 ⟨[(5, vB true), (4, .p 0 0), (3, vI ((i : Nat) : Int)), (0, .v (.slice s.A s.n s.c))], [⟨80, [vS (s.at i).name, vI (s.at i).holder, vI (s.at i).fence, .v (.slice (s.at i).line.A (s.at i).line.n (s.at i).line.c)]⟩]⟩ [] [] (by kernel_rfl) on wn ?_
            refine l_nil (q_then_normal ?_)
            refine c_seq ?_
            refine c_seq ?_
            refine c_region ?_
            refine JL_run 1 [] [6, 5, 4, 3, 0] 1 ⟨[(6, vI 0), (5, vB true), (4, .p 0 0), (3, vI ((i : Nat) : Int)), (0, .v (.slice s.A s.n s.c))], [⟨80, [vS (s.at i).name, vI (s.at i).holder, vI (s.at i).fence, .v (.slice (s.at i).line.A (s.at i).line.n (s.at i).line.c)]⟩]⟩ [] [] (by kernel_rfl) on wn ?_
            refine l_nil (q_then_normal ?_)
            refine c_block ?_
            refine c_loop (σ := Nat × Bool) (fun ⟨j, b⟩ => j ≤ (s.at i).line.n ∧ b = (true || !(allTo (posOk (s.at i).abs) j))) (fun ⟨j, b⟩ => (s.at i).line.n - j) (fun ⟨j, b⟩ => []) (fun ⟨j, b⟩ => ⟨[(6, vI ((j : Nat) : Int)), (5, vB b), (4, .p 0 0), (3, vI ((i : Nat) : Int)), (0, .v (.slice s.A s.n s.c))], [⟨80, [vS (s.at i).name, vI (s.at i).holder, vI (s.at i).fence, .v (.slice (s.at i).line.A (s.at i).line.n (s.at i).line.c)]⟩]⟩) ⟨0, true⟩ ⟨Nat.zero_le _, by simp [allTo]⟩ (s_start [6, 5, 4, 3, 0] 1 (by kernel_rfl) rfl) ?_
            rintro ⟨j, b⟩ ⟨hj, hJ⟩
            have ncl := Sl.ok.nc (And.right (Sl.ok.at oks (show i < s.n by omega)))
            refine c_seq ?_
            refine c_seq ?_
            refine c_region ?_
            refine JL_run 5 [] [51, 6, 5, 4, 3, 0] 1 ⟨[(51, vB (decide (((j : Nat) : Int) < (((s.at i).line.n : Nat) : Int)))), (6, vI ((j : Nat) : Int)), (5, vB b), (4, .p 0 0), (3, vI ((i : Nat) : Int)), (0, .v (.slice s.A s.n s.c))], [⟨80, [vS (s.at i).name, vI (s.at i).holder, vI (s.at i).fence, .v (.slice (s.at i).line.A (s.at i).line.n (s.at i).line.c)]⟩]⟩ [] [] (by kernel_rfl) on wn ?_
            refine l_nil (q_then_normal ?_)
            cases h6 : decide (((j : Nat) : Int) < (((s.at i).line.n : Nat) : Int)) with
            | true =>
              have h6 := of_decide_eq_true h6
              refine c_if true rfl ?_
              refine c_skip ?_
              refine q_then_normal ?_
              refine c_seq ?_
              refine c_block ?_
              refine c_draw 33 [] (.p 0 (.p 1 (.p 2 (.q 3 (.p 4 (.p 5 (.q 6 (.b 7 (.p 8 (.p 9 (.p 10 (.p 11 (.q 12 (.p 13 (.p 14 (.q 15 (.p 16 (.q 17 (.p 18 (.p 19 (.p 20 (.p 21 (.q 22 (.p 23 (.p 24 (.p 25 (.q 26 (.p 27 (.p 28 (.q 29 (.b 30 (.p 31 (.p 32 .nil)) .z))))))))))))))))))))))) .z)))))))) [] [] Try_mixed (by kernel_rfl) (pq_block (pq_then (pq_then (pq_block (pq_then (pq_block (pq_then (pq_then (pq_block (pq_then pq_body)))))))))) .slnil ?_
              refine h_quiet [] [(0, true), (1, true)] [(55, vB b), (54, vB b), (51, vB true), (6, vI ((j : Nat) : Int)), (5, vB b), (4, .p 0 0), (3, vI ((i : Nat) : Int)), (0, .v (.slice s.A s.n s.c))] [] [] rfl (by kernel_rfl) on wn ?_
              cases h7 : b with
              | true =>
                refine h_quiet [] [(2, true), (3, false), (4, true), (5, true), (6, false)] [(60, .v (undef)), (59, .v (undef)), (58, .v (undef)), (57, .v (undef)), (56, .v (undef)), (55, vB true), (54, vB true), (51, vB true), (6, vI ((j : Nat) : Int)), (5, vB true), (4, .p 0 0), (3, vI ((i : Nat) : Int)), (0, .v (.slice s.A s.n s.c))] [] [] rfl (by kernel_rfl) on wn ?_
                refine h_pass rfl rfl rfl ?_
                refine h_quiet [] [(8, true), (9, true), (10, true), (11, true), (12, false), (13, true), (14, true), (15, false), (16, true), (17, false), (18, true), (19, true), (20, true), (21, true), (22, false), (23, true), (24, true), (25, true), (26, false), (27, true), (28, true), (29, false)] [(83, .v (undef)), (82, .v (undef)), (81, .v (undef)), (80, .v (undef)), (79, .v (undef)), (78, .v (undef)), (77, .v (undef)), (76, .v (undef)), (75, .v (undef)), (74, vB true), (73, vB true), (72, .v (undef)), (71, .v (undef)), (70, .v (undef)), (69, .v (undef)), (68, .v (undef)), (67, .v (undef)), (66, .v (undef)), (65, .v (undef)), (64, vB true), (63, vB true), (62, .v (undef)), (61, .v (undef)), (60, .v (undef)), (59, .v (undef)), (58, .v (undef)), (57, .v (undef)), (56, .v (undef)), (55, vB true), (54, vB true), (51, vB true), (6, vI ((j : Nat) : Int)), (5, vB true), (4, .p 0 0), (3, vI ((i : Nat) : Int)), (0, .v (.slice s.A s.n s.c))] [] [] rfl (by kernel_rfl) on wn ?_
                refine h_pass rfl rfl rfl ?_
                refine h_quiet [] [(31, true), (32, true)] [(5, vB true), (85, vB true), (84, .v (undef)), (83, .v (undef)), (82, .v (undef)), (81, .v (undef)), (80, .v (undef)), (79, .v (undef)), (78, .v (undef)), (77, .v (undef)), (76, .v (undef)), (75, .v (undef)), (74, vB true), (73, vB true), (72, .v (undef)), (71, .v (undef)), (70, .v (undef)), (69, .v (undef)), (68, .v (undef)), (67, .v (undef)), (66, .v (undef)), (65, .v (undef)), (64, vB true), (63, vB true), (62, .v (undef)), (61, .v (undef)), (60, .v (undef)), (59, .v (undef)), (58, .v (undef)), (57, .v (undef)), (56, .v (undef)), (55, vB true), (54, vB true), (51, vB true), (6, vI ((j : Nat) : Int)), (4, .p 0 0), (3, vI ((i : Nat) : Int)), (0, .v (.slice s.A s.n s.c))] [] [] rfl (by kernel_rfl) on wn ?_
                refine h_nil ?_
                refine l_nil (q_block_normal (q_then_normal ?_))
                refine c_region ?_
                refine JL_run 3 [] [6, 5, 4, 3, 0] 1 ⟨[(6, vI (((j : Nat) : Int) + 1)), (5, vB true), (4, .p 0 0), (3, vI ((i : Nat) : Int)), (0, .v (.slice s.A s.n s.c))], [⟨80, [vS (s.at i).name, vI (s.at i).holder, vI (s.at i).fence, .v (.slice (s.at i).line.A (s.at i).line.n (s.at i).line.c)]⟩]⟩ [inR (((j : Nat) : Int) + 1)] [] (by kernel_rfl) (oc (by unfold inR; omega) on) wn ?_
                refine l_nil (q_loop (x := (⟨j, b⟩ : Nat × Bool)) (⟨j + 1, true⟩ : Nat × Bool) ⟨by omega, by simp only [allTo, hp]; simp_all⟩ (by show (s.at i).line.n - (j + 1) < (s.at i).line.n - j; omega) (s_start [6, 5, 4, 3, 0] 1 (by kernel_rfl) rfl))
              | false =>
                exfalso; rw [h7] at hJ; simp at hJ
            | false =>
              have h6 := of_decide_eq_false h6
              refine c_if false rfl ?_
              refine c_exit ?_
              refine q_then_exit (q_then_exit (q_block_hit (q_then_normal ?_)))
              refine c_seq ?_
              refine c_seq ?_
              refine c_region ?_
              refine JL_run 1 [] [86, 4, 3, 0] 1 ⟨[(86, vB b), (4, .p 0 0), (3, vI ((i : Nat) : Int)), (0, .v (.slice s.A s.n s.c))], [⟨80, [vS (s.at i).name, vI (s.at i).holder, vI (s.at i).fence, .v (.slice (s.at i).line.A (s.at i).line.n (s.at i).line.c)]⟩]⟩ [] [] (by kernel_rfl) on wn ?_
              refine l_nil (q_then_normal ?_)
              cases h8 : b with
              | true =>
                refine c_if true rfl ?_
                refine c_seq ?_
                refine c_region ?_
                refine JL_run 1 [] [2] 0 ⟨[(2, vI 4)], []⟩ [] [] (by kernel_rfl) on wn ?_
                refine l_nil (q_then_normal ?_)
                refine c_ret ?_
                refine q_then_ret (q_block_ret (q_then_ret (q_then_ret (q_block_ret (q_then_ret (q_ret (.inl rfl) [vI 4] rfl (fun bs w hS => ?_)))))))
                refine ⟨?_, hS.kp⟩
                simp only [retOf, den, List.map_cons, List.map_nil]
                have hf : lockF (s.xs.map CLock.abs) i = 4 := by
                  have hor : mName (s.at i).name = false ∨ (s.at i).holder < 0 ∨ 9 < (s.at i).holder ∨ lineOk (s.at i).abs = false := by
                    first | exact .inl (by assumption) | exact .inr ((show (s.at i).holder < 0 ∨ 9 < (s.at i).holder by omega).elim .inl (fun h => .inr (.inl h))) | exact .inr (.inr (.inr (lineOk_false (.inr (.inl (by show 3 < (s.at i).line.n; omega)))))) | exact .inr (.inr (.inr (lineOk_false (.inr (.inr ⟨by show (s.at i).holder = 0; omega, by show 0 < (s.at i).line.n; omega⟩))))) | exact .inr (.inr (.inr (lineOk_false (.inl (by show allTo _ (s.at i).line.n = false; rw [show (s.at i).line.n = j by omega]; cases hq : allTo (posOk (s.at i).abs) j <;> simp_all)))))
                  unfold lockF
                  simp only [hat, hq1, hq2, hq3]
                  rw [if_pos hor]
                rw [hI, firstF_here (by omega) hf (by omega)]
              | false =>
                exfalso; rw [h8] at hJ; simp at hJ
          | false =>
            have h5 := of_decide_eq_false h5
            refine JL_run 4 [] [40, 36, 4, 3, 0] 1 ⟨[(40, vB (decide ((s.at i).holder = 0))), (36, vB false), (4, .p 0 0), (3, vI ((i : Nat) : Int)), (0, .v (.slice s.A s.n s.c))], [⟨80, [vS (s.at i).name, vI (s.at i).holder, vI (s.at i).fence, .v (.slice (s.at i).line.A (s.at i).line.n (s.at i).line.c)]⟩]⟩ [] [] (by kernel_rfl) on wn ?_
            cases h9 : decide ((s.at i).holder = 0) with
            | true =>
              have h9 := of_decide_eq_true h9
              refine JL_run 7 [] [5, 4, 3, 0] 1 ⟨[(5, vB (decide ((0 : Int) < (((s.at i).line.n : Nat) : Int)))), (4, .p 0 0), (3, vI ((i : Nat) : Int)), (0, .v (.slice s.A s.n s.c))], [⟨80, [vS (s.at i).name, vI (s.at i).holder, vI (s.at i).fence, .v (.slice (s.at i).line.A (s.at i).line.n (s.at i).line.c)]⟩]⟩ [] [] (by kernel_rfl) on wn ?_
              refine l_nil (q_then_normal ?_)
              refine c_seq ?_
              refine c_seq ?_
              refine c_region ?_
              refine JL_run 1 [] [6, 5, 4, 3, 0] 1 ⟨[(6, vI 0), (5, vB (decide ((0 : Int) < (((s.at i).line.n : Nat) : Int)))), (4, .p 0 0), (3, vI ((i : Nat) : Int)), (0, .v (.slice s.A s.n s.c))], [⟨80, [vS (s.at i).name, vI (s.at i).holder, vI (s.at i).fence, .v (.slice (s.at i).line.A (s.at i).line.n (s.at i).line.c)]⟩]⟩ [] [] (by kernel_rfl) on wn ?_
              refine l_nil (q_then_normal ?_)
              refine c_block ?_
              cases h10 : decide ((0 : Int) < (((s.at i).line.n : Nat) : Int)) with
              | true =>
                have h10 := of_decide_eq_true h10
                refine c_loop (σ := Nat × Bool) (fun ⟨j, b⟩ => j ≤ (s.at i).line.n ∧ b = (true || !(allTo (posOk (s.at i).abs) j))) (fun ⟨j, b⟩ => (s.at i).line.n - j) (fun ⟨j, b⟩ => []) (fun ⟨j, b⟩ => ⟨[(6, vI ((j : Nat) : Int)), (5, vB b), (4, .p 0 0), (3, vI ((i : Nat) : Int)), (0, .v (.slice s.A s.n s.c))], [⟨80, [vS (s.at i).name, vI (s.at i).holder, vI (s.at i).fence, .v (.slice (s.at i).line.A (s.at i).line.n (s.at i).line.c)]⟩]⟩) ⟨0, true⟩ ⟨Nat.zero_le _, by simp [allTo]⟩ (s_start [6, 5, 4, 3, 0] 1 (by kernel_rfl) rfl) ?_
                rintro ⟨j, b⟩ ⟨hj, hJ⟩
                have ncl := Sl.ok.nc (And.right (Sl.ok.at oks (show i < s.n by omega)))
                refine c_seq ?_
                refine c_seq ?_
                refine c_region ?_
                refine JL_run 5 [] [51, 6, 5, 4, 3, 0] 1 ⟨[(51, vB (decide (((j : Nat) : Int) < (((s.at i).line.n : Nat) : Int)))), (6, vI ((j : Nat) : Int)), (5, vB b), (4, .p 0 0), (3, vI ((i : Nat) : Int)), (0, .v (.slice s.A s.n s.c))], [⟨80, [vS (s.at i).name, vI (s.at i).holder, vI (s.at i).fence, .v (.slice (s.at i).line.A (s.at i).line.n (s.at i).line.c)]⟩]⟩ [] [] (by kernel_rfl) on wn ?_
                refine l_nil (q_then_normal ?_)
                cases h11 : decide (((j : Nat) : Int) < (((s.at i).line.n : Nat) : Int)) with
                | true =>
                  have h11 := of_decide_eq_true h11
                  refine c_if true rfl ?_
                  refine c_skip ?_
                  refine q_then_normal ?_
                  refine c_seq ?_
                  refine c_block ?_
                  refine c_draw 33 [] (.p 0 (.p 1 (.p 2 (.q 3 (.p 4 (.p 5 (.q 6 (.b 7 (.p 8 (.p 9 (.p 10 (.p 11 (.q 12 (.p 13 (.p 14 (.q 15 (.p 16 (.q 17 (.p 18 (.p 19 (.p 20 (.p 21 (.q 22 (.p 23 (.p 24 (.p 25 (.q 26 (.p 27 (.p 28 (.q 29 (.b 30 (.p 31 (.p 32 .nil)) .z))))))))))))))))))))))) .z)))))))) [] [] Try_mixed (by kernel_rfl) (pq_block (pq_then (pq_then (pq_block (pq_then (pq_block (pq_then (pq_then (pq_block (pq_then pq_body)))))))))) .slnil ?_
                  refine h_quiet [] [(0, true), (1, true)] [(55, vB b), (54, vB b), (51, vB true), (6, vI ((j : Nat) : Int)), (5, vB b), (4, .p 0 0), (3, vI ((i : Nat) : Int)), (0, .v (.slice s.A s.n s.c))] [] [] rfl (by kernel_rfl) on wn ?_
                  cases h12 : b with
                  | true =>
                    refine h_quiet [] [(2, true), (3, false), (4, true), (5, true), (6, false)] [(60, .v (undef)), (59, .v (undef)), (58, .v (undef)), (57, .v (undef)), (56, .v (undef)), (55, vB true), (54, vB true), (51, vB true), (6, vI ((j : Nat) : Int)), (5, vB true), (4, .p 0 0), (3, vI ((i : Nat) : Int)), (0, .v (.slice s.A s.n s.c))] [] [] rfl (by kernel_rfl) on wn ?_
                    refine h_pass rfl rfl rfl ?_
                    refine h_quiet [] [(8, true), (9, true), (10, true), (11, true), (12, false), (13, true), (14, true), (15, false), (16, true), (17, false), (18, true), (19, true), (20, true), (21, true), (22, false), (23, true), (24, true), (25, true), (26, false), (27, true), (28, true), (29, false)] [(83, .v (undef)), (82, .v (undef)), (81, .v (undef)), (80, .v (undef)), (79, .v (undef)), (78, .v (undef)), (77, .v (undef)), (76, .v (undef)), (75, .v (undef)), (74, vB true), (73, vB true), (72, .v (undef)), (71, .v (undef)), (70, .v (undef)), (69, .v (undef)), (68, .v (undef)), (67, .v (undef)), (66, .v (undef)), (65, .v (undef)), (64, vB true), (63, vB true), (62, .v (undef)), (61, .v (undef)), (60, .v (undef)), (59, .v (undef)), (58, .v (undef)), (57, .v (undef)), (56, .v (undef)), (55, vB true), (54, vB true), (51, vB true), (6, vI ((j : Nat) : Int)), (5, vB true), (4, .p 0 0), (3, vI ((i : Nat) : Int)), (0, .v (.slice s.A s.n s.c))] [] [] rfl (by kernel_rfl) on wn ?_
                    refine h_pass rfl rfl rfl ?_
                    refine h_quiet [] [(31, true), (32, true)] [(5, vB true), (85, vB true), (84, .v (undef)), (83, .v (undef)), (82, .v (undef)), (81, .v (undef)), (80, .v (undef)), (79, .v (undef)), (78, .v (undef)), (77, .v (undef)), (76, .v (undef)), (75, .v (undef)), (74, vB true), (73, vB true), (72, .v (undef)), (71, .v (undef)), (70, .v (undef)), (69, .v (undef)), (68, .v (undef)), (67, .v (undef)), (66, .v (undef)), (65, .v (undef)), (64, vB true), (63, vB true), (62, .v (undef)), (61, .v (undef)), (60, .v (undef)), (59, .v (undef)), (58, .v (undef)), (57, .v (undef)), (56, .v (undef)), (55, vB true), (54, vB true), (51, vB true), (6, vI ((j : Nat) : Int)), (4, .p 0 0), (3, vI ((i : Nat) : Int)), (0, .v (.slice s.A s.n s.c))] [] [] rfl (by kernel_rfl) on wn ?_
                    refine h_nil ?_
                    refine l_nil (q_block_normal (q_then_normal ?_))
                    refine c_region ?_
                    refine JL_run 3 [] [6, 5, 4, 3, 0] 1 ⟨[(6, vI (((j : Nat) : Int) + 1)), (5, vB true), (4, .p 0 0), (3, vI ((i : Nat) : Int)), (0, .v (.slice s.A s.n s.c))], [⟨80, [vS (s.at i).name, vI (s.at i).holder, vI (s.at i).fence, .v (.slice (s.at i).line.A (s.at i).line.n (s.at i).line.c)]⟩]⟩ [inR (((j : Nat) : Int) + 1)] [] (by kernel_rfl) (oc (by unfold inR; omega) on) wn ?_
                    refine l_nil (q_loop (x := (⟨j, b⟩ : Nat × Bool)) (⟨j + 1, true⟩ : Nat × Bool) ⟨by omega, by simp only [allTo, hp]; simp_all⟩ (by show (s.at i).line.n - (j + 1) < (s.at i).line.n - j; omega) (s_start [6, 5, 4, 3, 0] 1 (by kernel_rfl) rfl))
                  | false =>
                    exfalso; rw [h12] at hJ; simp at hJ
                | false =>
                  have h11 := of_decide_eq_false h11
                  refine c_if false rfl ?_
                  refine c_exit ?_
                  refine q_then_exit (q_then_exit (q_block_hit (q_then_normal ?_)))
                  refine c_seq ?_
                  refine c_seq ?_
                  refine c_region ?_
                  refine JL_run 1 [] [86, 4, 3, 0] 1 ⟨[(86, vB b), (4, .p 0 0), (3, vI ((i : Nat) : Int)), (0, .v (.slice s.A s.n s.c))], [⟨80, [vS (s.at i).name, vI (s.at i).holder, vI (s.at i).fence, .v (.slice (s.at i).line.A (s.at i).line.n (s.at i).line.c)]⟩]⟩ [] [] (by kernel_rfl) on wn ?_
                  refine l_nil (q_then_normal ?_)
                  cases h13 : b with
                  | true =>
                    refine c_if true rfl ?_
                    refine c_seq ?_
                    refine c_region ?_
                    refine JL_run 1 [] [2] 0 ⟨[(2, vI 4)], []⟩ [] [] (by kernel_rfl) on wn ?_
                    refine l_nil (q_then_normal ?_)
                    refine c_ret ?_
                    refine q_then_ret (q_block_ret (q_then_ret (q_then_ret (q_block_ret (q_then_ret (q_ret (.inl rfl) [vI 4] rfl (fun bs w hS => ?_)))))))
                    refine ⟨?_, hS.kp⟩
                    simp only [retOf, den, List.map_cons, List.map_nil]
                    have hf : lockF (s.xs.map CLock.abs) i = 4 := by
                      have hor : mName (s.at i).name = false ∨ (s.at i).holder < 0 ∨ 9 < (s.at i).holder ∨ lineOk (s.at i).abs = false := by
                        first | exact .inl (by assumption) | exact .inr ((show (s.at i).holder < 0 ∨ 9 < (s.at i).holder by omega).elim .inl (fun h => .inr (.inl h))) | exact .inr (.inr (.inr (lineOk_false (.inr (.inl (by show 3 < (s.at i).line.n; omega)))))) | exact .inr (.inr (.inr (lineOk_false (.inr (.inr ⟨by show (s.at i).holder = 0; omega, by show 0 < (s.at i).line.n; omega⟩))))) | exact .inr (.inr (.inr (lineOk_false (.inl (by show allTo _ (s.at i).line.n = false; rw [show (s.at i).line.n = j by omega]; cases hq : allTo (posOk (s.at i).abs) j <;> simp_all)))))
                      unfold lockF
                      simp only [hat, hq1, hq2, hq3]
                      rw [if_pos hor]
                    rw [hI, firstF_here (by omega) hf (by omega)]
                  | false =>
                    exfalso; rw [h13] at hJ; simp at hJ
              | false =>
                have h10 := of_decide_eq_false h10
                refine c_loop (σ := Nat × Bool) (fun ⟨j, b⟩ => j ≤ (s.at i).line.n ∧ b = (false || !(allTo (posOk (s.at i).abs) j))) (fun ⟨j, b⟩ => (s.at i).line.n - j) (fun ⟨j, b⟩ => []) (fun ⟨j, b⟩ => ⟨[(6, vI ((j : Nat) : Int)), (5, vB b), (4, .p 0 0), (3, vI ((i : Nat) : Int)), (0, .v (.slice s.A s.n s.c))], [⟨80, [vS (s.at i).name, vI (s.at i).holder, vI (s.at i).fence, .v (.slice (s.at i).line.A (s.at i).line.n (s.at i).line.c)]⟩]⟩) ⟨0, false⟩ ⟨Nat.zero_le _, by simp [allTo]⟩ (s_start [6, 5, 4, 3, 0] 1 (by kernel_rfl) rfl) ?_
                rintro ⟨j, b⟩ ⟨hj, hJ⟩
                have ncl := Sl.ok.nc (And.right (Sl.ok.at oks (show i < s.n by omega)))
                refine c_seq ?_
                refine c_seq ?_
                refine c_region ?_
                refine JL_run 5 [] [51, 6, 5, 4, 3, 0] 1 ⟨[(51, vB (decide (((j : Nat) : Int) < (((s.at i).line.n : Nat) : Int)))), (6, vI ((j : Nat) : Int)), (5, vB b), (4, .p 0 0), (3, vI ((i : Nat) : Int)), (0, .v (.slice s.A s.n s.c))], [⟨80, [vS (s.at i).name, vI (s.at i).holder, vI (s.at i).fence, .v (.slice (s.at i).line.A (s.at i).line.n (s.at i).line.c)]⟩]⟩ [] [] (by kernel_rfl) on wn ?_
                refine l_nil (q_then_normal ?_)
                cases h14 : decide (((j : Nat) : Int) < (((s.at i).line.n : Nat) : Int)) with
                | true =>
                  have h14 := of_decide_eq_true h14
                  refine c_if true rfl ?_
                  refine c_skip ?_
                  refine q_then_normal ?_
                  refine c_seq ?_
                  refine c_block ?_
                  refine c_draw 33 [] (.p 0 (.p 1 (.p 2 (.q 3 (.p 4 (.p 5 (.q 6 (.b 7 (.p 8 (.p 9 (.p 10 (.p 11 (.q 12 (.p 13 (.p 14 (.q 15 (.p 16 (.q 17 (.p 18 (.p 19 (.p 20 (.p 21 (.q 22 (.p 23 (.p 24 (.p 25 (.q 26 (.p 27 (.p 28 (.q 29 (.b 30 (.p 31 (.p 32 .nil)) .z))))))))))))))))))))))) .z)))))))) [] [] Try_mixed (by kernel_rfl) (pq_block (pq_then (pq_then (pq_block (pq_then (pq_block (pq_then (pq_then (pq_block (pq_then pq_body)))))))))) .slnil ?_
                  refine h_quiet [] [(0, true), (1, true)] [(55, vB b), (54, vB b), (51, vB true), (6, vI ((j : Nat) : Int)), (5, vB b), (4, .p 0 0), (3, vI ((i : Nat) : Int)), (0, .v (.slice s.A s.n s.c))] [] [] rfl (by kernel_rfl) on wn ?_
                  cases h15 : b with
                  | true =>
                    refine h_quiet [] [(2, true), (3, false), (4, true), (5, true), (6, false)] [(60, .v (undef)), (59, .v (undef)), (58, .v (undef)), (57, .v (undef)), (56, .v (undef)), (55, vB true), (54, vB true), (51, vB true), (6, vI ((j : Nat) : Int)), (5, vB true), (4, .p 0 0), (3, vI ((i : Nat) : Int)), (0, .v (.slice s.A s.n s.c))] [] [] rfl (by kernel_rfl) on wn ?_
                    refine h_pass rfl rfl rfl ?_
                    refine h_quiet [] [(8, true), (9, true), (10, true), (11, true), (12, false), (13, true), (14, true), (15, false), (16, true), (17, false), (18, true), (19, true), (20, true), (21, true), (22, false), (23, true), (24, true), (25, true), (26, false), (27, true), (28, true), (29, false)] [(83, .v (undef)), (82, .v (undef)), (81, .v (undef)), (80, .v (undef)), (79, .v (undef)), (78, .v (undef)), (77, .v (undef)), (76, .v (undef)), (75, .v (undef)), (74, vB true), (73, vB true), (72, .v (undef)), (71, .v (undef)), (70, .v (undef)), (69, .v (undef)), (68, .v (undef)), (67, .v (undef)), (66, .v (undef)), (65, .v (undef)), (64, vB true), (63, vB true), (62, .v (undef)), (61, .v (undef)), (60, .v (undef)), (59, .v (undef)), (58, .v (undef)), (57, .v (undef)), (56, .v (undef)), (55, vB true), (54, vB true), (51, vB true), (6, vI ((j : Nat) : Int)), (5, vB true), (4, .p 0 0), (3, vI ((i : Nat) : Int)), (0, .v (.slice s.A s.n s.c))] [] [] rfl (by kernel_rfl) on wn ?_
                    refine h_pass rfl rfl rfl ?_
                    refine h_quiet [] [(31, true), (32, true)] [(5, vB true), (85, vB true), (84, .v (undef)), (83, .v (undef)), (82, .v (undef)), (81, .v (undef)), (80, .v (undef)), (79, .v (undef)), (78, .v (undef)), (77, .v (undef)), (76, .v (undef)), (75, .v (undef)), (74, vB true), (73, vB true), (72, .v (undef)), (71, .v (undef)), (70, .v (undef)), (69, .v (undef)), (68, .v (undef)), (67, .v (undef)), (66, .v (undef)), (65, .v (undef)), (64, vB true), (63, vB true), (62, .v (undef)), (61, .v (undef)), (60, .v (undef)), (59, .v (undef)), (58, .v (undef)), (57, .v (undef)), (56, .v (undef)), (55, vB true), (54, vB true), (51, vB true), (6, vI ((j : Nat) : Int)), (4, .p 0 0), (3, vI ((i : Nat) : Int)), (0, .v (.slice s.A s.n s.c))] [] [] rfl (by kernel_rfl) on wn ?_
                    refine h_nil ?_
                    refine l_nil (q_block_normal (q_then_normal ?_))
                    refine c_region ?_
                    refine JL_run 3 [] [6, 5, 4, 3, 0] 1 ⟨[(6, vI (((j : Nat) : Int) + 1)), (5, vB true), (4, .p 0 0), (3, vI ((i : Nat) : Int)), (0, .v (.slice s.A s.n s.c))], [⟨80, [vS (s.at i).name, vI (s.at i).holder, vI (s.at i).fence, .v (.slice (s.at i).line.A (s.at i).line.n (s.at i).line.c)]⟩]⟩ [inR (((j : Nat) : Int) + 1)] [] (by kernel_rfl) (oc (by unfold inR; omega) on) wn ?_
                    refine l_nil (q_loop (x := (⟨j, b⟩ : Nat × Bool)) (⟨j + 1, true⟩ : Nat × Bool) ⟨by omega, by simp only [allTo, hp]; simp_all⟩ (by show (s.at i).line.n - (j + 1) < (s.at i).line.n - j; omega) (s_start [6, 5, 4, 3, 0] 1 (by kernel_rfl) rfl))
                  | false =>
                    refine h_quiet [(5, .idx (s.at i).line.ad j), (6, .ext [.int .i64 ((s.at i).line.at j)])] [(2, true), (3, false), (4, true), (5, true), (6, false)] [(60, vI ((s.at i).line.at j)), (59, .v (.pointer (some ((s.at i).line.ad.add (j * 1))))), (58, vI ((j : Nat) : Int)), (57, .v (.slice (s.at i).line.A (s.at i).line.n (s.at i).line.c)), (56, .p 0 3), (55, vB false), (54, vB false), (51, vB true), (6, vI ((j : Nat) : Int)), (5, vB false), (4, .p 0 0), (3, vI ((i : Nat) : Int)), (0, .v (.slice s.A s.n s.c))] [(s.at i).line.A = some (s.at i).line.ad, ((j : Nat) : Int) = ((j : Nat) : Int), j < (s.at i).line.n] [((s.at i).line.ad.add (j * 1), [.int .i64 ((s.at i).line.at j)])] rfl (by kernel_rfl) (oc (Sl.ok.own (s := (s.at i).line) (i := j) (And.right (Sl.ok.at (s := s) (i := i) oks (by omega))) (by omega)) (oc rfl (oc (by omega) on))) (fun w hk hr => ⟨(Sl.rd.all (s := (s.at i).line) (i := j) (And.right (Sl.rd.sub (s := s) (i := i) (Sl.rd.kp hs hk) (by omega))) (by omega) rfl), trivial⟩) ?_
                    refine h_pure 64 [] [vI ((s.at i).line.at j), vI 1, vI 9] (.bool (inB ((s.at i).line.at j) 1 9)) rfl Try.call64 rfl rfl rfl rfl (fun bs w hS => ref_In _ _ _ w) (fun bs0 bs w hp hl hS => hS.down hp hl rfl (le_same le_nil) .slnil) ?_
                    refine h_quiet [] [(8, true), (9, true), (10, true)] [(64, vB (!(inB ((s.at i).line.at j) 1 9))), (63, vB (!(inB ((s.at i).line.at j) 1 9))), (62, vB (!(inB ((s.at i).line.at j) 1 9))), (61, vB (inB ((s.at i).line.at j) 1 9)), (60, vI ((s.at i).line.at j)), (59, .v (.pointer (some ((s.at i).line.ad.add (j * 1))))), (58, vI ((j : Nat) : Int)), (57, .v (.slice (s.at i).line.A (s.at i).line.n (s.at i).line.c)), (56, .p 0 3), (55, vB false), (54, vB false), (51, vB true), (6, vI ((j : Nat) : Int)), (5, vB false), (4, .p 0 0), (3, vI ((i : Nat) : Int)), (0, .v (.slice s.A s.n s.c))] [] [] rfl (by kernel_rfl) on wn ?_
                    cases h16 : inB ((s.at i).line.at j) 1 9 with
                    | true =>
                      refine h_quiet [(14, .idx (s.at i).line.ad j), (15, .ext [.int .i64 ((s.at i).line.at j)])] [(11, true), (12, false), (13, true), (14, true), (15, false), (16, true), (17, false), (18, true), (19, true), (20, true)] [(74, vB (decide (((s.at i).line.at j) = (s.at i).holder))), (73, vB (decide (((s.at i).line.at j) = (s.at i).holder))), (72, vB (decide (((s.at i).line.at j) = (s.at i).holder))), (71, vI (s.at i).holder), (70, .p 0 1), (69, vI ((s.at i).line.at j)), (68, .v (.pointer (some ((s.at i).line.ad.add (j * 1))))), (67, vI ((j : Nat) : Int)), (66, .v (.slice (s.at i).line.A (s.at i).line.n (s.at i).line.c)), (65, .p 0 3), (64, vB false), (63, vB false), (62, vB false), (61, vB true), (60, vI ((s.at i).line.at j)), (59, .v (.pointer (some ((s.at i).line.ad.add (j * 1))))), (58, vI ((j : Nat) : Int)), (57, .v (.slice (s.at i).line.A (s.at i).line.n (s.at i).line.c)), (56, .p 0 3), (55, vB false), (54, vB false), (51, vB true), (6, vI ((j : Nat) : Int)), (5, vB false), (4, .p 0 0), (3, vI ((i : Nat) : Int)), (0, .v (.slice s.A s.n s.c))] [(s.at i).line.A = some (s.at i).line.ad, ((j : Nat) : Int) = ((j : Nat) : Int), j < (s.at i).line.n] [((s.at i).line.ad.add (j * 1), [.int .i64 ((s.at i).line.at j)])] rfl (by kernel_rfl) (oc (Sl.ok.own (s := (s.at i).line) (i := j) (And.right (Sl.ok.at (s := s) (i := i) oks (by omega))) (by omega)) (oc rfl (oc (by omega) on))) (fun w hk hr => ⟨(Sl.rd.all (s := (s.at i).line) (i := j) (And.right (Sl.rd.sub (s := s) (i := i) (Sl.rd.kp hs hk) (by omega))) (by omega) rfl), trivial⟩) ?_
                      cases h17 : decide (((s.at i).line.at j) = (s.at i).holder) with
                      | true =>
                        have h17 := of_decide_eq_true h17
                        refine h_quiet [] [(21, true), (22, false), (23, true), (24, true), (25, true), (26, false), (27, true), (28, true), (29, false)] [(83, .v (undef)), (82, .v (undef)), (81, .v (undef)), (80, .v (undef)), (79, .v (undef)), (78, .v (undef)), (77, .v (undef)), (76, .v (undef)), (75, .v (undef)), (74, vB true), (73, vB true), (72, vB true), (71, vI (s.at i).holder), (70, .p 0 1), (69, vI ((s.at i).line.at j)), (68, .v (.pointer (some ((s.at i).line.ad.add (j * 1))))), (67, vI ((j : Nat) : Int)), (66, .v (.slice (s.at i).line.A (s.at i).line.n (s.at i).line.c)), (65, .p 0 3), (64, vB false), (63, vB false), (62, vB false), (61, vB true), (60, vI ((s.at i).line.at j)), (59, .v (.pointer (some ((s.at i).line.ad.add (j * 1))))), (58, vI ((j : Nat) : Int)), (57, .v (.slice (s.at i).line.A (s.at i).line.n (s.at i).line.c)), (56, .p 0 3), (55, vB false), (54, vB false), (51, vB true), (6, vI ((j : Nat) : Int)), (5, vB false), (4, .p 0 0), (3, vI ((i : Nat) : Int)), (0, .v (.slice s.A s.n s.c))] [] [] rfl (by kernel_rfl) on wn ?_
                        refine h_pass rfl rfl rfl ?_
                        refine h_quiet [] [(31, true), (32, true)] [(5, vB true), (85, vB true), (84, .v (undef)), (83, .v (undef)), (82, .v (undef)), (81, .v (undef)), (80, .v (undef)), (79, .v (undef)), (78, .v (undef)), (77, .v (undef)), (76, .v (undef)), (75, .v (undef)), (74, vB true), (73, vB true), (72, vB true), (71, vI (s.at i).holder), (70, .p 0 1), (69, vI ((s.at i).line.at j)), (68, .v (.pointer (some ((s.at i).line.ad.add (j * 1))))), (67, vI ((j : Nat) : Int)), (66, .v (.slice (s.at i).line.A (s.at i).line.n (s.at i).line.c)), (65, .p 0 3), (64, vB false), (63, vB false), (62, vB false), (61, vB true), (60, vI ((s.at i).line.at j)), (59, .v (.pointer (some ((s.at i).line.ad.add (j * 1))))), (58, vI ((j : Nat) : Int)), (57, .v (.slice (s.at i).line.A (s.at i).line.n (s.at i).line.c)), (56, .p 0 3), (55, vB false), (54, vB false), (51, vB true), (6, vI ((j : Nat) : Int)), (4, .p 0 0), (3, vI ((i : Nat) : Int)), (0, .v (.slice s.A s.n s.c))] [] [] rfl (by kernel_rfl) on wn ?_
                        refine h_nil ?_
                        refine l_nil (q_block_normal (q_then_normal ?_))
                        refine c_region ?_
                        refine JL_run 3 [] [6, 5, 4, 3, 0] 1 ⟨[(6, vI (((j : Nat) : Int) + 1)), (5, vB true), (4, .p 0 0), (3, vI ((i : Nat) : Int)), (0, .v (.slice s.A s.n s.c))], [⟨80, [vS (s.at i).name, vI (s.at i).holder, vI (s.at i).fence, .v (.slice (s.at i).line.A (s.at i).line.n (s.at i).line.c)]⟩]⟩ [inR (((j : Nat) : Int) + 1)] [] (by kernel_rfl) (oc (by unfold inR; omega) on) wn ?_
                        refine l_nil (q_loop (x := (⟨j, b⟩ : Nat × Bool)) (⟨j + 1, true⟩ : Nat × Bool) ⟨by omega, by simp only [allTo, hp]; simp_all⟩ (by show (s.at i).line.n - (j + 1) < (s.at i).line.n - j; omega) (s_start [6, 5, 4, 3, 0] 1 (by kernel_rfl) rfl))
                      | false =>
                        have h17 := of_decide_eq_false h17
                        refine h_quiet [(24, .sl 0 j), (28, .idx (s.at i).line.ad j), (29, .ext [.int .i64 ((s.at i).line.at j)])] [(21, true), (22, false), (23, true), (24, true), (25, true), (26, false), (27, true), (28, true), (29, false)] [(83, vI ((s.at i).line.at j)), (82, .v (.pointer (some ((s.at i).line.ad.add (j * 1))))), (81, vI ((j : Nat) : Int)), (80, .v (.slice (s.at i).line.A (s.at i).line.n (s.at i).line.c)), (79, .p 0 3), (78, .v (.slice (s.at i).line.A j (s.at i).line.c)), (77, vI ((j : Nat) : Int)), (76, .v (.slice (s.at i).line.A (s.at i).line.n (s.at i).line.c)), (75, .p 0 3), (74, vB false), (73, vB false), (72, vB false), (71, vI (s.at i).holder), (70, .p 0 1), (69, vI ((s.at i).line.at j)), (68, .v (.pointer (some ((s.at i).line.ad.add (j * 1))))), (67, vI ((j : Nat) : Int)), (66, .v (.slice (s.at i).line.A (s.at i).line.n (s.at i).line.c)), (65, .p 0 3), (64, vB false), (63, vB false), (62, vB false), (61, vB true), (60, vI ((s.at i).line.at j)), (59, .v (.pointer (some ((s.at i).line.ad.add (j * 1))))), (58, vI ((j : Nat) : Int)), (57, .v (.slice (s.at i).line.A (s.at i).line.n (s.at i).line.c)), (56, .p 0 3), (55, vB false), (54, vB false), (51, vB true), (6, vI ((j : Nat) : Int)), (5, vB false), (4, .p 0 0), (3, vI ((i : Nat) : Int)), (0, .v (.slice s.A s.n s.c))] [0 = 0, ((j : Nat) : Int) = ((j : Nat) : Int), j ≤ (s.at i).line.c, (s.at i).line.A = some (s.at i).line.ad, ((j : Nat) : Int) = ((j : Nat) : Int), j < (s.at i).line.n] [((s.at i).line.ad.add (j * 1), [.int .i64 ((s.at i).line.at j)])] rfl (by kernel_rfl) (oc rfl (oc rfl (oc (by omega) (oc (Sl.ok.own (s := (s.at i).line) (i := j) (And.right (Sl.ok.at (s := s) (i := i) oks (by omega))) (by omega)) (oc rfl (oc (by omega) on)))))) (fun w hk hr => ⟨(Sl.rd.all (s := (s.at i).line) (i := j) (And.right (Sl.rd.sub (s := s) (i := i) (Sl.rd.kp hs hk) (by omega))) (by omega) rfl), trivial⟩) ?_
                        refine h_pure 57 [] [.v (.slice (s.at i).line.A j (s.at i).line.c), vI ((s.at i).line.at j)] (.bool (((s.at i).line.xs.take j).any fun z => decide (z = ((s.at i).line.at j)))) rfl Try.call57 rfl rfl rfl rfl (fun bs w hS => ref_has (s.at i).line j ((s.at i).line.at j) w (And.right (Sl.rd.sub (s := s) (i := i) (Sl.rd.kp hs hS.kp) (by omega))) (by omega)) (fun bs0 bs w hp hl hS => hS.down hp hl rfl (le_same le_nil) .slnil) ?_
                        refine h_quiet [] [(31, true), (32, true)] [(5, vB (((s.at i).line.xs.take j).any fun z => decide (z = ((s.at i).line.at j)))), (85, vB (((s.at i).line.xs.take j).any fun z => decide (z = ((s.at i).line.at j)))), (84, vB (((s.at i).line.xs.take j).any fun z => decide (z = ((s.at i).line.at j)))), (83, vI ((s.at i).line.at j)), (82, .v (.pointer (some ((s.at i).line.ad.add (j * 1))))), (81, vI ((j : Nat) : Int)), (80, .v (.slice (s.at i).line.A (s.at i).line.n (s.at i).line.c)), (79, .p 0 3), (78, .v (.slice (s.at i).line.A j (s.at i).line.c)), (77, vI ((j : Nat) : Int)), (76, .v (.slice (s.at i).line.A (s.at i).line.n (s.at i).line.c)), (75, .p 0 3), (74, vB false), (73, vB false), (72, vB false), (71, vI (s.at i).holder), (70, .p 0 1), (69, vI ((s.at i).line.at j)), (68, .v (.pointer (some ((s.at i).line.ad.add (j * 1))))), (67, vI ((j : Nat) : Int)), (66, .v (.slice (s.at i).line.A (s.at i).line.n (s.at i).line.c)), (65, .p 0 3), (64, vB false), (63, vB false), (62, vB false), (61, vB true), (60, vI ((s.at i).line.at j)), (59, .v (.pointer (some ((s.at i).line.ad.add (j * 1))))), (58, vI ((j : Nat) : Int)), (57, .v (.slice (s.at i).line.A (s.at i).line.n (s.at i).line.c)), (56, .p 0 3), (55, vB false), (54, vB false), (51, vB true), (6, vI ((j : Nat) : Int)), (4, .p 0 0), (3, vI ((i : Nat) : Int)), (0, .v (.slice s.A s.n s.c))] [] [] rfl (by kernel_rfl) on wn ?_
                        refine h_nil ?_
                        refine l_nil (q_block_normal (q_then_normal ?_))
                        refine c_region ?_
                        refine JL_run 3 [] [6, 5, 4, 3, 0] 1 ⟨[(6, vI (((j : Nat) : Int) + 1)), (5, vB (((s.at i).line.xs.take j).any fun z => decide (z = ((s.at i).line.at j)))), (4, .p 0 0), (3, vI ((i : Nat) : Int)), (0, .v (.slice s.A s.n s.c))], [⟨80, [vS (s.at i).name, vI (s.at i).holder, vI (s.at i).fence, .v (.slice (s.at i).line.A (s.at i).line.n (s.at i).line.c)]⟩]⟩ [inR (((j : Nat) : Int) + 1)] [] (by kernel_rfl) (oc (by unfold inR; omega) on) wn ?_
                        refine l_nil (q_loop (x := (⟨j, b⟩ : Nat × Bool)) (⟨j + 1, ((s.at i).line.xs.take j).any fun z => decide (z = ((s.at i).line.at j))⟩ : Nat × Bool) ⟨by omega, by simp only [allTo, hp]; simp_all⟩ (by show (s.at i).line.n - (j + 1) < (s.at i).line.n - j; omega) (s_start [6, 5, 4, 3, 0] 1 (by kernel_rfl) rfl))
                    | false =>
                      refine h_quiet [] [(11, true), (12, false), (13, true), (14, true), (15, false), (16, true), (17, false), (18, true), (19, true), (20, true), (21, true), (22, false), (23, true), (24, true), (25, true), (26, false), (27, true), (28, true), (29, false)] [(83, .v (undef)), (82, .v (undef)), (81, .v (undef)), (80, .v (undef)), (79, .v (undef)), (78, .v (undef)), (77, .v (undef)), (76, .v (undef)), (75, .v (undef)), (74, vB true), (73, vB true), (72, .v (undef)), (71, .v (undef)), (70, .v (undef)), (69, .v (undef)), (68, .v (undef)), (67, .v (undef)), (66, .v (undef)), (65, .v (undef)), (64, vB true), (63, vB true), (62, vB true), (61, vB false), (60, vI ((s.at i).line.at j)), (59, .v (.pointer (some ((s.at i).line.ad.add (j * 1))))), (58, vI ((j : Nat) : Int)), (57, .v (.slice (s.at i).line.A (s.at i).line.n (s.at i).line.c)), (56, .p 0 3), (55, vB false), (54, vB false), (51, vB true), (6, vI ((j : Nat) : Int)), (5, vB false), (4, .p 0 0), (3, vI ((i : Nat) : Int)), (0, .v (.slice s.A s.n s.c))] [] [] rfl (by kernel_rfl) on wn ?_
                      refine h_pass rfl rfl rfl ?_
                      refine h_quiet [] [(31, true), (32, true)] [(5, vB true), (85, vB true), (84, .v (undef)), (83, .v (undef)), (82, .v (undef)), (81, .v (undef)), (80, .v (undef)), (79, .v (undef)), (78, .v (undef)), (77, .v (undef)), (76, .v (undef)), (75, .v (undef)), (74, vB true), (73, vB true), (72, .v (undef)), (71, .v (undef)), (70, .v (undef)), (69, .v (undef)), (68, .v (undef)), (67, .v (undef)), (66, .v (undef)), (65, .v (undef)), (64, vB true), (63, vB true), (62, vB true), (61, vB false), (60, vI ((s.at i).line.at j)), (59, .v (.pointer (some ((s.at i).line.ad.add (j * 1))))), (58, vI ((j : Nat) : Int)), (57, .v (.slice (s.at i).line.A (s.at i).line.n (s.at i).line.c)), (56, .p 0 3), (55, vB false), (54, vB false), (51, vB true), (6, vI ((j : Nat) : Int)), (4, .p 0 0), (3, vI ((i : Nat) : Int)), (0, .v (.slice s.A s.n s.c))] [] [] rfl (by kernel_rfl) on wn ?_
                      refine h_nil ?_
                      refine l_nil (q_block_normal (q_then_normal ?_))
                      refine c_region ?_
                      refine JL_run 3 [] [6, 5, 4, 3, 0] 1 ⟨[(6, vI (((j : Nat) : Int) + 1)), (5, vB true), (4, .p 0 0), (3, vI ((i : Nat) : Int)), (0, .v (.slice s.A s.n s.c))], [⟨80, [vS (s.at i).name, vI (s.at i).holder, vI (s.at i).fence, .v (.slice (s.at i).line.A (s.at i).line.n (s.at i).line.c)]⟩]⟩ [inR (((j : Nat) : Int) + 1)] [] (by kernel_rfl) (oc (by unfold inR; omega) on) wn ?_
                      refine l_nil (q_loop (x := (⟨j, b⟩ : Nat × Bool)) (⟨j + 1, true⟩ : Nat × Bool) ⟨by omega, by simp only [allTo, hp]; simp_all⟩ (by show (s.at i).line.n - (j + 1) < (s.at i).line.n - j; omega) (s_start [6, 5, 4, 3, 0] 1 (by kernel_rfl) rfl))
                | false =>
                  have h14 := of_decide_eq_false h14
                  refine c_if false rfl ?_
                  refine c_exit ?_
                  refine q_then_exit (q_then_exit (q_block_hit (q_then_normal ?_)))
                  refine c_seq ?_
                  refine c_seq ?_
                  refine c_region ?_
                  refine JL_run 1 [] [86, 4, 3, 0] 1 ⟨[(86, vB b), (4, .p 0 0), (3, vI ((i : Nat) : Int)), (0, .v (.slice s.A s.n s.c))], [⟨80, [vS (s.at i).name, vI (s.at i).holder, vI (s.at i).fence, .v (.slice (s.at i).line.A (s.at i).line.n (s.at i).line.c)]⟩]⟩ [] [] (by kernel_rfl) on wn ?_
                  refine l_nil (q_then_normal ?_)
                  cases h18 : b with
                  | true =>
                    refine c_if true rfl ?_
                    refine c_seq ?_
                    refine c_region ?_
                    refine JL_run 1 [] [2] 0 ⟨[(2, vI 4)], []⟩ [] [] (by kernel_rfl) on wn ?_
                    refine l_nil (q_then_normal ?_)
                    refine c_ret ?_
                    refine q_then_ret (q_block_ret (q_then_ret (q_then_ret (q_block_ret (q_then_ret (q_ret (.inl rfl) [vI 4] rfl (fun bs w hS => ?_)))))))
                    refine ⟨?_, hS.kp⟩
                    simp only [retOf, den, List.map_cons, List.map_nil]
                    have hf : lockF (s.xs.map CLock.abs) i = 4 := by
                      have hor : mName (s.at i).name = false ∨ (s.at i).holder < 0 ∨ 9 < (s.at i).holder ∨ lineOk (s.at i).abs = false := by
                        first | exact .inl (by assumption) | exact .inr ((show (s.at i).holder < 0 ∨ 9 < (s.at i).holder by omega).elim .inl (fun h => .inr (.inl h))) | exact .inr (.inr (.inr (lineOk_false (.inr (.inl (by show 3 < (s.at i).line.n; omega)))))) | exact .inr (.inr (.inr (lineOk_false (.inr (.inr ⟨by show (s.at i).holder = 0; omega, by show 0 < (s.at i).line.n; omega⟩))))) | exact .inr (.inr (.inr (lineOk_false (.inl (by show allTo _ (s.at i).line.n = false; rw [show (s.at i).line.n = j by omega]; cases hq : allTo (posOk (s.at i).abs) j <;> simp_all)))))
                      unfold lockF
                      simp only [hat, hq1, hq2, hq3]
                      rw [if_pos hor]
                    rw [hI, firstF_here (by omega) hf (by omega)]
                  | false =>
                    refine c_if false rfl ?_
                    refine c_skip ?_
                    refine q_then_normal ?_
                    refine c_seq ?_
                    refine c_seq ?_
                    refine c_region ?_
                    refine JL_run 2 [] [88, 4, 3, 0] 1 ⟨[(88, vI (s.at i).fence), (4, .p 0 0), (3, vI ((i : Nat) : Int)), (0, .v (.slice s.A s.n s.c))], [⟨80, [vS (s.at i).name, vI (s.at i).holder, vI (s.at i).fence, .v (.slice (s.at i).line.A (s.at i).line.n (s.at i).line.c)]⟩]⟩ [] [] (by kernel_rfl) on wn ?_
                    refine l_pure 64 [] [vI (s.at i).fence, vI 1, vI 1073741824] (.bool (inB (s.at i).fence 1 1073741824)) Try.call64 rfl rfl rfl rfl (fun bs w hS => ref_In _ _ _ w) ?_
                    refine JL_run 1 [] [90, 4, 3, 0] 1 ⟨[(90, vB (!(inB (s.at i).fence 1 1073741824))), (4, .p 0 0), (3, vI ((i : Nat) : Int)), (0, .v (.slice s.A s.n s.c))], [⟨80, [vS (s.at i).name, vI (s.at i).holder, vI (s.at i).fence, .v (.slice (s.at i).line.A (s.at i).line.n (s.at i).line.c)]⟩]⟩ [] [] (by kernel_rfl) on wn ?_
                    refine l_nil (q_then_normal ?_)
                    cases h19 : inB (s.at i).fence 1 1073741824 with
                    | true =>
                      simp only [inB, Bool.and_eq_true, Bool.and_eq_false_iff, decide_eq_true_eq, decide_eq_false_iff_not] at h19
                      refine c_if false rfl ?_
                      refine c_skip ?_
                      refine q_then_normal ?_
                      refine c_seq ?_
                      refine c_draw 13 [] (.p 0 (.p 1 (.p 2 (.p 3 (.q 4 (.p 5 (.p 6 (.p 7 (.p 8 (.p 9 (.q 10 (.p 11 (.p 12 .nil))))))))))))) [] [] Try_mixed (by kernel_rfl) (pq_then (pq_block (pq_then (pq_then (pq_block (pq_then pq_body)))))) .slnil ?_
                      refine h_quiet [] [(0, true), (1, true), (2, true)] [(93, vB (decide ((0 : Int) < ((i : Nat) : Int)))), (92, vB (decide ((0 : Int) < ((i : Nat) : Int)))), (91, vI ((i : Nat) : Int)), (90, vB false), (4, .p 0 0), (3, vI ((i : Nat) : Int)), (0, .v (.slice s.A s.n s.c))] [] [] rfl (by kernel_rfl) on wn ?_
                      cases h20 : decide ((0 : Int) < ((i : Nat) : Int)) with
                      | true =>
                        have h20 := of_decide_eq_true h20
                        refine h_quiet [(8, .idx s.ad (i - 1)), (10, .ext [.string (s.at (i - 1)).name])] [(3, true), (4, false), (5, true), (6, true), (7, true), (8, true), (9, true), (10, false), (11, true), (12, true)] [(103, vB (Op.bytesLess ((s.at i).name).toList ((s.at (i - 1)).name).toList || decide ((s.at i).name = (s.at (i - 1)).name))), (102, vB (Op.bytesLess ((s.at i).name).toList ((s.at (i - 1)).name).toList || decide ((s.at i).name = (s.at (i - 1)).name))), (101, vS (s.at (i - 1)).name), (100, .v (.pointer (some ((s.ad.add ((i - 1) * 4)).add 0)))), (99, .v (.pointer (some (s.ad.add ((i - 1) * 4))))), (98, vI (((i : Nat) : Int) - 1)), (97, vI ((i : Nat) : Int)), (96, .v (.slice s.A s.n s.c)), (95, vS (s.at i).name), (94, .p 0 0), (93, vB true), (92, vB true), (91, vI ((i : Nat) : Int)), (90, vB false), (4, .p 0 0), (3, vI ((i : Nat) : Int)), (0, .v (.slice s.A s.n s.c))] [inR (((i : Nat) : Int) - 1), s.A = some s.ad, ((i : Nat) : Int) - 1 = (((i - 1) : Nat) : Int), (i - 1) < s.n] [((s.ad.add ((i - 1) * 4)).add 0, [.string (s.at (i - 1)).name])] rfl (by kernel_rfl) (oc (by unfold inR; omega) (oc (Sl.ok.own (s := s) (i := (i - 1)) oks (by omega)) (oc (by omega) (oc (by omega) on)))) (fun w hk hr => ⟨(Sl.rd.fld (s := s) (i := (i - 1)) (Sl.rd.kp hs hk) (by omega) 0 1 rfl), trivial⟩) ?_
                        refine h_nil ?_
                        refine l_nil (q_then_normal ?_)
                        cases h21 : Op.bytesLess ((s.at i).name).toList ((s.at (i - 1)).name).toList || decide ((s.at i).name = (s.at (i - 1)).name) with
                        | true =>
                          rw [bytes_total] at h21
                          simp only [Bool.not_eq_true', Bool.not_eq_false', Bool.not_eq_true, Bool.not_eq_false] at h21
                          refine c_if true rfl ?_
                          refine c_seq ?_
                          refine c_region ?_
                          refine JL_run 1 [] [2] 0 ⟨[(2, vI 14)], []⟩ [] [] (by kernel_rfl) on wn ?_
                          refine l_nil (q_then_normal ?_)
                          refine c_ret ?_
                          refine q_block_ret (q_then_ret (q_then_ret (q_block_ret (q_then_ret (q_ret (.inl rfl) [vI 14] rfl (fun bs w hS => ?_))))))
                          refine ⟨?_, hS.kp⟩
                          simp only [retOf, den, List.map_cons, List.map_nil]
                          have hf : lockF (s.xs.map CLock.abs) i = 14 := by
                            have hjn : (s.at i).line.n = j := by omega
                            have hall : allTo (posOk (s.at i).abs) (s.at i).line.n = true := by rw [hjn]; cases hq : allTo (posOk (s.at i).abs) j <;> simp_all
                            have hlo : lineOk (s.at i).abs = true := lineOk_true hall (by show (s.at i).line.n ≤ 3; omega) (by show ¬ (s.at i).holder = 0 ∨ (s.at i).line.n = 0; omega)
                            unfold lockF
                            simp only [hat, hq1, hq2, hq3]
                            try simp only [hlo]
                            try simp only [h1, h2, h3, h4, h5, h9, h10, h14, h18, h19, h20, h21, emp_size, ne_eq, not_true_eq_false, not_false_eq_true, true_or, or_true, false_or, or_false, and_true, true_and, and_false, false_and, and_self, or_self, if_true, if_false, Bool.true_eq_false, Bool.false_eq_true, reduceIte, Classical.not_not, Bool.and_eq_true, decide_eq_true_eq]
                            repeat (first | rw [if_pos (by omega)] | rw [if_neg (by omega)])
                            all_goals first | rfl | (exfalso; omega)
                          rw [hI, firstF_here (by omega) hf (by omega)]
                        | false =>
                          rw [bytes_total] at h21
                          simp only [Bool.not_eq_true', Bool.not_eq_false', Bool.not_eq_true, Bool.not_eq_false] at h21
                          refine c_if false rfl ?_
                          refine c_skip ?_
                          refine q_block_normal (q_then_normal ?_)
                          refine c_region ?_
                          refine JL_run 3 [] [3, 0] 0 ⟨[(3, vI (((i : Nat) : Int) + 1)), (0, .v (.slice s.A s.n s.c))], []⟩ [inR (((i : Nat) : Int) + 1)] [] (by kernel_rfl) (oc (by unfold inR; omega) on) wn ?_
                          have hf0 : lockF (s.xs.map CLock.abs) i = 0 := by
                            have hjn : (s.at i).line.n = j := by omega
                            have hall : allTo (posOk (s.at i).abs) (s.at i).line.n = true := by rw [hjn]; cases hq : allTo (posOk (s.at i).abs) j <;> simp_all
                            have hlo : lineOk (s.at i).abs = true := lineOk_true hall (by show (s.at i).line.n ≤ 3; omega) (by show ¬ (s.at i).holder = 0 ∨ (s.at i).line.n = 0; omega)
                            unfold lockF
                            simp only [hat, hq1, hq2, hq3]
                            try simp only [hlo]
                            try simp only [h1, h2, h3, h4, h5, h9, h10, h14, h18, h19, h20, h21, emp_size, ne_eq, not_true_eq_false, not_false_eq_true, true_or, or_true, false_or, or_false, and_true, true_and, and_false, false_and, and_self, or_self, if_true, if_false, Bool.true_eq_false, Bool.false_eq_true, reduceIte, Classical.not_not, Bool.and_eq_true, decide_eq_true_eq]
                            repeat (first | rw [if_pos (by omega)] | rw [if_neg (by omega)])
                            all_goals first | rfl | (exfalso; omega)
                          refine l_nil (q_loop (x := (i : Nat)) ((i + 1) : Nat) ⟨by omega, by rw [hI]; exact firstF_step (by omega) hf0⟩ (by omega) (s_start [3, 0] 0 (by kernel_rfl) rfl))
                      | false =>
                        have h20 := of_decide_eq_false h20
                        refine h_quiet [] [(3, true), (4, false), (5, true), (6, true), (7, true), (8, true), (9, true), (10, false), (11, true), (12, true)] [(103, vB false), (102, .v (undef)), (101, .v (undef)), (100, .v (undef)), (99, .v (undef)), (98, .v (undef)), (97, .v (undef)), (96, .v (undef)), (95, .v (undef)), (94, .v (undef)), (93, vB false), (92, vB false), (91, vI ((i : Nat) : Int)), (90, vB false), (4, .p 0 0), (3, vI ((i : Nat) : Int)), (0, .v (.slice s.A s.n s.c))] [] [] rfl (by kernel_rfl) on wn ?_
                        refine h_nil ?_
                        refine l_nil (q_then_normal ?_)
                        refine c_if false rfl ?_
                        refine c_skip ?_
                        refine q_block_normal (q_then_normal ?_)
                        refine c_region ?_
                        refine JL_run 3 [] [3, 0] 0 ⟨[(3, vI (((i : Nat) : Int) + 1)), (0, .v (.slice s.A s.n s.c))], []⟩ [inR (((i : Nat) : Int) + 1)] [] (by kernel_rfl) (oc (by unfold inR; omega) on) wn ?_
                        have hf0 : lockF (s.xs.map CLock.abs) i = 0 := by
                          have hjn : (s.at i).line.n = j := by omega
                          have hall : allTo (posOk (s.at i).abs) (s.at i).line.n = true := by rw [hjn]; cases hq : allTo (posOk (s.at i).abs) j <;> simp_all
                          have hlo : lineOk (s.at i).abs = true := lineOk_true hall (by show (s.at i).line.n ≤ 3; omega) (by show ¬ (s.at i).holder = 0 ∨ (s.at i).line.n = 0; omega)
                          unfold lockF
                          simp only [hat, hq1, hq2, hq3]
                          try simp only [hlo]
                          try simp only [h1, h2, h3, h4, h5, h9, h10, h14, h18, h19, h20, emp_size, ne_eq, not_true_eq_false, not_false_eq_true, true_or, or_true, false_or, or_false, and_true, true_and, and_false, false_and, and_self, or_self, if_true, if_false, Bool.true_eq_false, Bool.false_eq_true, reduceIte, Classical.not_not, Bool.and_eq_true, decide_eq_true_eq]
                          repeat (first | rw [if_pos (by omega)] | rw [if_neg (by omega)])
                          all_goals first | rfl | (exfalso; omega)
                        refine l_nil (q_loop (x := (i : Nat)) ((i + 1) : Nat) ⟨by omega, by rw [hI]; exact firstF_step (by omega) hf0⟩ (by omega) (s_start [3, 0] 0 (by kernel_rfl) rfl))
                    | false =>
                      simp only [inB, Bool.and_eq_true, Bool.and_eq_false_iff, decide_eq_true_eq, decide_eq_false_iff_not] at h19
                      refine c_if true rfl ?_
                      refine c_seq ?_
                      refine c_region ?_
                      refine JL_run 1 [] [2] 0 ⟨[(2, vI 2)], []⟩ [] [] (by kernel_rfl) on wn ?_
                      refine l_nil (q_then_normal ?_)
                      refine c_ret ?_
                      refine q_then_ret (q_block_ret (q_then_ret (q_then_ret (q_block_ret (q_then_ret (q_ret (.inl rfl) [vI 2] rfl (fun bs w hS => ?_)))))))
                      refine ⟨?_, hS.kp⟩
                      simp only [retOf, den, List.map_cons, List.map_nil]
                      have hf : lockF (s.xs.map CLock.abs) i = 2 := by
                        have hjn : (s.at i).line.n = j := by omega
                        have hall : allTo (posOk (s.at i).abs) (s.at i).line.n = true := by rw [hjn]; cases hq : allTo (posOk (s.at i).abs) j <;> simp_all
                        have hlo : lineOk (s.at i).abs = true := lineOk_true hall (by show (s.at i).line.n ≤ 3; omega) (by show ¬ (s.at i).holder = 0 ∨ (s.at i).line.n = 0; omega)
                        unfold lockF
                        simp only [hat, hq1, hq2, hq3]
                        try simp only [hlo]
                        try simp only [h1, h2, h3, h4, h5, h9, h10, h14, h18, h19, emp_size, ne_eq, not_true_eq_false, not_false_eq_true, true_or, or_true, false_or, or_false, and_true, true_and, and_false, false_and, and_self, or_self, if_true, if_false, Bool.true_eq_false, Bool.false_eq_true, reduceIte, Classical.not_not, Bool.and_eq_true, decide_eq_true_eq]
                        repeat (first | rw [if_pos (by omega)] | rw [if_neg (by omega)])
                        all_goals first | rfl | (exfalso; omega)
                      rw [hI, firstF_here (by omega) hf (by omega)]
            | false =>
              have h9 := of_decide_eq_false h9
              refine JL_run 7 [] [5, 4, 3, 0] 1 ⟨[(5, vB false), (4, .p 0 0), (3, vI ((i : Nat) : Int)), (0, .v (.slice s.A s.n s.c))], [⟨80, [vS (s.at i).name, vI (s.at i).holder, vI (s.at i).fence, .v (.slice (s.at i).line.A (s.at i).line.n (s.at i).line.c)]⟩]⟩ [] [] (by kernel_rfl) on wn ?_
              refine l_nil (q_then_normal ?_)
              refine c_seq ?_
              refine c_seq ?_
              refine c_region ?_
              refine JL_run 1 [] [6, 5, 4, 3, 0] 1 ⟨[(6, vI 0), (5, vB false), (4, .p 0 0), (3, vI ((i : Nat) : Int)), (0, .v (.slice s.A s.n s.c))], [⟨80, [vS (s.at i).name, vI (s.at i).holder, vI (s.at i).fence, .v (.slice (s.at i).line.A (s.at i).line.n (s.at i).line.c)]⟩]⟩ [] [] (by kernel_rfl) on wn ?_
              refine l_nil (q_then_normal ?_)
              refine c_block ?_
              refine c_loop (σ := Nat × Bool) (fun ⟨j, b⟩ => j ≤ (s.at i).line.n ∧ b = (false || !(allTo (posOk (s.at i).abs) j))) (fun ⟨j, b⟩ => (s.at i).line.n - j) (fun ⟨j, b⟩ => []) (fun ⟨j, b⟩ => ⟨[(6, vI ((j : Nat) : Int)), (5, vB b), (4, .p 0 0), (3, vI ((i : Nat) : Int)), (0, .v (.slice s.A s.n s.c))], [⟨80, [vS (s.at i).name, vI (s.at i).holder, vI (s.at i).fence, .v (.slice (s.at i).line.A (s.at i).line.n (s.at i).line.c)]⟩]⟩) ⟨0, false⟩ ⟨Nat.zero_le _, by simp [allTo]⟩ (s_start [6, 5, 4, 3, 0] 1 (by kernel_rfl) rfl) ?_
              rintro ⟨j, b⟩ ⟨hj, hJ⟩
              have ncl := Sl.ok.nc (And.right (Sl.ok.at oks (show i < s.n by omega)))
              refine c_seq ?_
              refine c_seq ?_
              refine c_region ?_
              refine JL_run 5 [] [51, 6, 5, 4, 3, 0] 1 ⟨[(51, vB (decide (((j : Nat) : Int) < (((s.at i).line.n : Nat) : Int)))), (6, vI ((j : Nat) : Int)), (5, vB b), (4, .p 0 0), (3, vI ((i : Nat) : Int)), (0, .v (.slice s.A s.n s.c))], [⟨80, [vS (s.at i).name, vI (s.at i).holder, vI (s.at i).fence, .v (.slice (s.at i).line.A (s.at i).line.n (s.at i).line.c)]⟩]⟩ [] [] (by kernel_rfl) on wn ?_
              refine l_nil (q_then_normal ?_)
              cases h22 : decide (((j : Nat) : Int) < (((s.at i).line.n : Nat) : Int)) with
              | true =>
                have h22 := of_decide_eq_true h22
                refine c_if true rfl ?_
                refine c_skip ?_
                refine q_then_normal ?_
                refine c_seq ?_
                refine c_block ?_
                refine c_draw 33 [] (.p 0 (.p 1 (.p 2 (.q 3 (.p 4 (.p 5 (.q 6 (.b 7 (.p 8 (.p 9 (.p 10 (.p 11 (.q 12 (.p 13 (.p 14 (.q 15 (.p 16 (.q 17 (.p 18 (.p 19 (.p 20 (.p 21 (.q 22 (.p 23 (.p 24 (.p 25 (.q 26 (.p 27 (.p 28 (.q 29 (.b 30 (.p 31 (.p 32 .nil)) .z))))))))))))))))))))))) .z)))))))) [] [] Try_mixed (by kernel_rfl) (pq_block (pq_then (pq_then (pq_block (pq_then (pq_block (pq_then (pq_then (pq_block (pq_then pq_body)))))))))) .slnil ?_
                refine h_quiet [] [(0, true), (1, true)] [(55, vB b), (54, vB b), (51, vB true), (6, vI ((j : Nat) : Int)), (5, vB b), (4, .p 0 0), (3, vI ((i : Nat) : Int)), (0, .v (.slice s.A s.n s.c))] [] [] rfl (by kernel_rfl) on wn ?_
                cases h23 : b with
                | true =>
                  refine h_quiet [] [(2, true), (3, false), (4, true), (5, true), (6, false)] [(60, .v (undef)), (59, .v (undef)), (58, .v (undef)), (57, .v (undef)), (56, .v (undef)), (55, vB true), (54, vB true), (51, vB true), (6, vI ((j : Nat) : Int)), (5, vB true), (4, .p 0 0), (3, vI ((i : Nat) : Int)), (0, .v (.slice s.A s.n s.c))] [] [] rfl (by kernel_rfl) on wn ?_
                  refine h_pass rfl rfl rfl ?_
                  refine h_quiet [] [(8, true), (9, true), (10, true), (11, true), (12, false), (13, true), (14, true), (15, false), (16, true), (17, false), (18, true), (19, true), (20, true), (21, true), (22, false), (23, true), (24, true), (25, true), (26, false), (27, true), (28, true), (29, false)] [(83, .v (undef)), (82, .v (undef)), (81, .v (undef)), (80, .v (undef)), (79, .v (undef)), (78, .v (undef)), (77, .v (undef)), (76, .v (undef)), (75, .v (undef)), (74, vB true), (73, vB true), (72, .v (undef)), (71, .v (undef)), (70, .v (undef)), (69, .v (undef)), (68, .v (undef)), (67, .v (undef)), (66, .v (undef)), (65, .v (undef)), (64, vB true), (63, vB true), (62, .v (undef)), (61, .v (undef)), (60, .v (undef)), (59, .v (undef)), (58, .v (undef)), (57, .v (undef)), (56, .v (undef)), (55, vB true), (54, vB true), (51, vB true), (6, vI ((j : Nat) : Int)), (5, vB true), (4, .p 0 0), (3, vI ((i : Nat) : Int)), (0, .v (.slice s.A s.n s.c))] [] [] rfl (by kernel_rfl) on wn ?_
                  refine h_pass rfl rfl rfl ?_
                  refine h_quiet [] [(31, true), (32, true)] [(5, vB true), (85, vB true), (84, .v (undef)), (83, .v (undef)), (82, .v (undef)), (81, .v (undef)), (80, .v (undef)), (79, .v (undef)), (78, .v (undef)), (77, .v (undef)), (76, .v (undef)), (75, .v (undef)), (74, vB true), (73, vB true), (72, .v (undef)), (71, .v (undef)), (70, .v (undef)), (69, .v (undef)), (68, .v (undef)), (67, .v (undef)), (66, .v (undef)), (65, .v (undef)), (64, vB true), (63, vB true), (62, .v (undef)), (61, .v (undef)), (60, .v (undef)), (59, .v (undef)), (58, .v (undef)), (57, .v (undef)), (56, .v (undef)), (55, vB true), (54, vB true), (51, vB true), (6, vI ((j : Nat) : Int)), (4, .p 0 0), (3, vI ((i : Nat) : Int)), (0, .v (.slice s.A s.n s.c))] [] [] rfl (by kernel_rfl) on wn ?_
                  refine h_nil ?_
                  refine l_nil (q_block_normal (q_then_normal ?_))
                  refine c_region ?_
                  refine JL_run 3 [] [6, 5, 4, 3, 0] 1 ⟨[(6, vI (((j : Nat) : Int) + 1)), (5, vB true), (4, .p 0 0), (3, vI ((i : Nat) : Int)), (0, .v (.slice s.A s.n s.c))], [⟨80, [vS (s.at i).name, vI (s.at i).holder, vI (s.at i).fence, .v (.slice (s.at i).line.A (s.at i).line.n (s.at i).line.c)]⟩]⟩ [inR (((j : Nat) : Int) + 1)] [] (by kernel_rfl) (oc (by unfold inR; omega) on) wn ?_
                  refine l_nil (q_loop (x := (⟨j, b⟩ : Nat × Bool)) (⟨j + 1, true⟩ : Nat × Bool) ⟨by omega, by simp only [allTo, hp]; simp_all⟩ (by show (s.at i).line.n - (j + 1) < (s.at i).line.n - j; omega) (s_start [6, 5, 4, 3, 0] 1 (by kernel_rfl) rfl))
                | false =>
                  refine h_quiet [(5, .idx (s.at i).line.ad j), (6, .ext [.int .i64 ((s.at i).line.at j)])] [(2, true), (3, false), (4, true), (5, true), (6, false)] [(60, vI ((s.at i).line.at j)), (59, .v (.pointer (some ((s.at i).line.ad.add (j * 1))))), (58, vI ((j : Nat) : Int)), (57, .v (.slice (s.at i).line.A (s.at i).line.n (s.at i).line.c)), (56, .p 0 3), (55, vB false), (54, vB false), (51, vB true), (6, vI ((j : Nat) : Int)), (5, vB false), (4, .p 0 0), (3, vI ((i : Nat) : Int)), (0, .v (.slice s.A s.n s.c))] [(s.at i).line.A = some (s.at i).line.ad, ((j : Nat) : Int) = ((j : Nat) : Int), j < (s.at i).line.n] [((s.at i).line.ad.add (j * 1), [.int .i64 ((s.at i).line.at j)])] rfl (by kernel_rfl) (oc (Sl.ok.own (s := (s.at i).line) (i := j) (And.right (Sl.ok.at (s := s) (i := i) oks (by omega))) (by omega)) (oc rfl (oc (by omega) on))) (fun w hk hr => ⟨(Sl.rd.all (s := (s.at i).line) (i := j) (And.right (Sl.rd.sub (s := s) (i := i) (Sl.rd.kp hs hk) (by omega))) (by omega) rfl), trivial⟩) ?_
                  refine h_pure 64 [] [vI ((s.at i).line.at j), vI 1, vI 9] (.bool (inB ((s.at i).line.at j) 1 9)) rfl Try.call64 rfl rfl rfl rfl (fun bs w hS => ref_In _ _ _ w) (fun bs0 bs w hp hl hS => hS.down hp hl rfl (le_same le_nil) .slnil) ?_
                  refine h_quiet [] [(8, true), (9, true), (10, true)] [(64, vB (!(inB ((s.at i).line.at j) 1 9))), (63, vB (!(inB ((s.at i).line.at j) 1 9))), (62, vB (!(inB ((s.at i).line.at j) 1 9))), (61, vB (inB ((s.at i).line.at j) 1 9)), (60, vI ((s.at i).line.at j)), (59, .v (.pointer (some ((s.at i).line.ad.add (j * 1))))), (58, vI ((j : Nat) : Int)), (57, .v (.slice (s.at i).line.A (s.at i).line.n (s.at i).line.c)), (56, .p 0 3), (55, vB false), (54, vB false), (51, vB true), (6, vI ((j : Nat) : Int)), (5, vB false), (4, .p 0 0), (3, vI ((i : Nat) : Int)), (0, .v (.slice s.A s.n s.c))] [] [] rfl (by kernel_rfl) on wn ?_
                  cases h24 : inB ((s.at i).line.at j) 1 9 with
                  | true =>
                    refine h_quiet [(14, .idx (s.at i).line.ad j), (15, .ext [.int .i64 ((s.at i).line.at j)])] [(11, true), (12, false), (13, true), (14, true), (15, false), (16, true), (17, false), (18, true), (19, true), (20, true)] [(74, vB (decide (((s.at i).line.at j) = (s.at i).holder))), (73, vB (decide (((s.at i).line.at j) = (s.at i).holder))), (72, vB (decide (((s.at i).line.at j) = (s.at i).holder))), (71, vI (s.at i).holder), (70, .p 0 1), (69, vI ((s.at i).line.at j)), (68, .v (.pointer (some ((s.at i).line.ad.add (j * 1))))), (67, vI ((j : Nat) : Int)), (66, .v (.slice (s.at i).line.A (s.at i).line.n (s.at i).line.c)), (65, .p 0 3), (64, vB false), (63, vB false), (62, vB false), (61, vB true), (60, vI ((s.at i).line.at j)), (59, .v (.pointer (some ((s.at i).line.ad.add (j * 1))))), (58, vI ((j : Nat) : Int)), (57, .v (.slice (s.at i).line.A (s.at i).line.n (s.at i).line.c)), (56, .p 0 3), (55, vB false), (54, vB false), (51, vB true), (6, vI ((j : Nat) : Int)), (5, vB false), (4, .p 0 0), (3, vI ((i : Nat) : Int)), (0, .v (.slice s.A s.n s.c))] [(s.at i).line.A = some (s.at i).line.ad, ((j : Nat) : Int) = ((j : Nat) : Int), j < (s.at i).line.n] [((s.at i).line.ad.add (j * 1), [.int .i64 ((s.at i).line.at j)])] rfl (by kernel_rfl) (oc (Sl.ok.own (s := (s.at i).line) (i := j) (And.right (Sl.ok.at (s := s) (i := i) oks (by omega))) (by omega)) (oc rfl (oc (by omega) on))) (fun w hk hr => ⟨(Sl.rd.all (s := (s.at i).line) (i := j) (And.right (Sl.rd.sub (s := s) (i := i) (Sl.rd.kp hs hk) (by omega))) (by omega) rfl), trivial⟩) ?_
                    cases h25 : decide (((s.at i).line.at j) = (s.at i).holder) with
                    | true =>
                      have h25 := of_decide_eq_true h25
                      refine h_quiet [] [(21, true), (22, false), (23, true), (24, true), (25, true), (26, false), (27, true), (28, true), (29, false)] [(83, .v (undef)), (82, .v (undef)), (81, .v (undef)), (80, .v (undef)), (79, .v (undef)), (78, .v (undef)), (77, .v (undef)), (76, .v (undef)), (75, .v (undef)), (74, vB true), (73, vB true), (72, vB true), (71, vI (s.at i).holder), (70, .p 0 1), (69, vI ((s.at i).line.at j)), (68, .v (.pointer (some ((s.at i).line.ad.add (j * 1))))), (67, vI ((j : Nat) : Int)), (66, .v (.slice (s.at i).line.A (s.at i).line.n (s.at i).line.c)), (65, .p 0 3), (64, vB false), (63, vB false), (62, vB false), (61, vB true), (60, vI ((s.at i).line.at j)), (59, .v (.pointer (some ((s.at i).line.ad.add (j * 1))))), (58, vI ((j : Nat) : Int)), (57, .v (.slice (s.at i).line.A (s.at i).line.n (s.at i).line.c)), (56, .p 0 3), (55, vB false), (54, vB false), (51, vB true), (6, vI ((j : Nat) : Int)), (5, vB false), (4, .p 0 0), (3, vI ((i : Nat) : Int)), (0, .v (.slice s.A s.n s.c))] [] [] rfl (by kernel_rfl) on wn ?_
                      refine h_pass rfl rfl rfl ?_
                      refine h_quiet [] [(31, true), (32, true)] [(5, vB true), (85, vB true), (84, .v (undef)), (83, .v (undef)), (82, .v (undef)), (81, .v (undef)), (80, .v (undef)), (79, .v (undef)), (78, .v (undef)), (77, .v (undef)), (76, .v (undef)), (75, .v (undef)), (74, vB true), (73, vB true), (72, vB true), (71, vI (s.at i).holder), (70, .p 0 1), (69, vI ((s.at i).line.at j)), (68, .v (.pointer (some ((s.at i).line.ad.add (j * 1))))), (67, vI ((j : Nat) : Int)), (66, .v (.slice (s.at i).line.A (s.at i).line.n (s.at i).line.c)), (65, .p 0 3), (64, vB false), (63, vB false), (62, vB false), (61, vB true), (60, vI ((s.at i).line.at j)), (59, .v (.pointer (some ((s.at i).line.ad.add (j * 1))))), (58, vI ((j : Nat) : Int)), (57, .v (.slice (s.at i).line.A (s.at i).line.n (s.at i).line.c)), (56, .p 0 3), (55, vB false), (54, vB false), (51, vB true), (6, vI ((j : Nat) : Int)), (4, .p 0 0), (3, vI ((i : Nat) : Int)), (0, .v (.slice s.A s.n s.c))] [] [] rfl (by kernel_rfl) on wn ?_
                      refine h_nil ?_
                      refine l_nil (q_block_normal (q_then_normal ?_))
                      refine c_region ?_
                      refine JL_run 3 [] [6, 5, 4, 3, 0] 1 ⟨[(6, vI (((j : Nat) : Int) + 1)), (5, vB true), (4, .p 0 0), (3, vI ((i : Nat) : Int)), (0, .v (.slice s.A s.n s.c))], [⟨80, [vS (s.at i).name, vI (s.at i).holder, vI (s.at i).fence, .v (.slice (s.at i).line.A (s.at i).line.n (s.at i).line.c)]⟩]⟩ [inR (((j : Nat) : Int) + 1)] [] (by kernel_rfl) (oc (by unfold inR; omega) on) wn ?_
                      refine l_nil (q_loop (x := (⟨j, b⟩ : Nat × Bool)) (⟨j + 1, true⟩ : Nat × Bool) ⟨by omega, by simp only [allTo, hp]; simp_all⟩ (by show (s.at i).line.n - (j + 1) < (s.at i).line.n - j; omega) (s_start [6, 5, 4, 3, 0] 1 (by kernel_rfl) rfl))
                    | false =>
                      have h25 := of_decide_eq_false h25
                      refine h_quiet [(24, .sl 0 j), (28, .idx (s.at i).line.ad j), (29, .ext [.int .i64 ((s.at i).line.at j)])] [(21, true), (22, false), (23, true), (24, true), (25, true), (26, false), (27, true), (28, true), (29, false)] [(83, vI ((s.at i).line.at j)), (82, .v (.pointer (some ((s.at i).line.ad.add (j * 1))))), (81, vI ((j : Nat) : Int)), (80, .v (.slice (s.at i).line.A (s.at i).line.n (s.at i).line.c)), (79, .p 0 3), (78, .v (.slice (s.at i).line.A j (s.at i).line.c)), (77, vI ((j : Nat) : Int)), (76, .v (.slice (s.at i).line.A (s.at i).line.n (s.at i).line.c)), (75, .p 0 3), (74, vB false), (73, vB false), (72, vB false), (71, vI (s.at i).holder), (70, .p 0 1), (69, vI ((s.at i).line.at j)), (68, .v (.pointer (some ((s.at i).line.ad.add (j * 1))))), (67, vI ((j : Nat) : Int)), (66, .v (.slice (s.at i).line.A (s.at i).line.n (s.at i).line.c)), (65, .p 0 3), (64, vB false), (63, vB false), (62, vB false), (61, vB true), (60, vI ((s.at i).line.at j)), (59, .v (.pointer (some ((s.at i).line.ad.add (j * 1))))), (58, vI ((j : Nat) : Int)), (57, .v (.slice (s.at i).line.A (s.at i).line.n (s.at i).line.c)), (56, .p 0 3), (55, vB false), (54, vB false), (51, vB true), (6, vI ((j : Nat) : Int)), (5, vB false), (4, .p 0 0), (3, vI ((i : Nat) : Int)), (0, .v (.slice s.A s.n s.c))] [0 = 0, ((j : Nat) : Int) = ((j : Nat) : Int), j ≤ (s.at i).line.c, (s.at i).line.A = some (s.at i).line.ad, ((j : Nat) : Int) = ((j : Nat) : Int), j < (s.at i).line.n] [((s.at i).line.ad.add (j * 1), [.int .i64 ((s.at i).line.at j)])] rfl (by kernel_rfl) (oc rfl (oc rfl (oc (by omega) (oc (Sl.ok.own (s := (s.at i).line) (i := j) (And.right (Sl.ok.at (s := s) (i := i) oks (by omega))) (by omega)) (oc rfl (oc (by omega) on)))))) (fun w hk hr => ⟨(Sl.rd.all (s := (s.at i).line) (i := j) (And.right (Sl.rd.sub (s := s) (i := i) (Sl.rd.kp hs hk) (by omega))) (by omega) rfl), trivial⟩) ?_
                      refine h_pure 57 [] [.v (.slice (s.at i).line.A j (s.at i).line.c), vI ((s.at i).line.at j)] (.bool (((s.at i).line.xs.take j).any fun z => decide (z = ((s.at i).line.at j)))) rfl Try.call57 rfl rfl rfl rfl (fun bs w hS => ref_has (s.at i).line j ((s.at i).line.at j) w (And.right (Sl.rd.sub (s := s) (i := i) (Sl.rd.kp hs hS.kp) (by omega))) (by omega)) (fun bs0 bs w hp hl hS => hS.down hp hl rfl (le_same le_nil) .slnil) ?_
                      refine h_quiet [] [(31, true), (32, true)] [(5, vB (((s.at i).line.xs.take j).any fun z => decide (z = ((s.at i).line.at j)))), (85, vB (((s.at i).line.xs.take j).any fun z => decide (z = ((s.at i).line.at j)))), (84, vB (((s.at i).line.xs.take j).any fun z => decide (z = ((s.at i).line.at j)))), (83, vI ((s.at i).line.at j)), (82, .v (.pointer (some ((s.at i).line.ad.add (j * 1))))), (81, vI ((j : Nat) : Int)), (80, .v (.slice (s.at i).line.A (s.at i).line.n (s.at i).line.c)), (79, .p 0 3), (78, .v (.slice (s.at i).line.A j (s.at i).line.c)), (77, vI ((j : Nat) : Int)), (76, .v (.slice (s.at i).line.A (s.at i).line.n (s.at i).line.c)), (75, .p 0 3), (74, vB false), (73, vB false), (72, vB false), (71, vI (s.at i).holder), (70, .p 0 1), (69, vI ((s.at i).line.at j)), (68, .v (.pointer (some ((s.at i).line.ad.add (j * 1))))), (67, vI ((j : Nat) : Int)), (66, .v (.slice (s.at i).line.A (s.at i).line.n (s.at i).line.c)), (65, .p 0 3), (64, vB false), (63, vB false), (62, vB false), (61, vB true), (60, vI ((s.at i).line.at j)), (59, .v (.pointer (some ((s.at i).line.ad.add (j * 1))))), (58, vI ((j : Nat) : Int)), (57, .v (.slice (s.at i).line.A (s.at i).line.n (s.at i).line.c)), (56, .p 0 3), (55, vB false), (54, vB false), (51, vB true), (6, vI ((j : Nat) : Int)), (4, .p 0 0), (3, vI ((i : Nat) : Int)), (0, .v (.slice s.A s.n s.c))] [] [] rfl (by kernel_rfl) on wn ?_
                      refine h_nil ?_
                      refine l_nil (q_block_normal (q_then_normal ?_))
                      refine c_region ?_
                      refine JL_run 3 [] [6, 5, 4, 3, 0] 1 ⟨[(6, vI (((j : Nat) : Int) + 1)), (5, vB (((s.at i).line.xs.take j).any fun z => decide (z = ((s.at i).line.at j)))), (4, .p 0 0), (3, vI ((i : Nat) : Int)), (0, .v (.slice s.A s.n s.c))], [⟨80, [vS (s.at i).name, vI (s.at i).holder, vI (s.at i).fence, .v (.slice (s.at i).line.A (s.at i).line.n (s.at i).line.c)]⟩]⟩ [inR (((j : Nat) : Int) + 1)] [] (by kernel_rfl) (oc (by unfold inR; omega) on) wn ?_
                      refine l_nil (q_loop (x := (⟨j, b⟩ : Nat × Bool)) (⟨j + 1, ((s.at i).line.xs.take j).any fun z => decide (z = ((s.at i).line.at j))⟩ : Nat × Bool) ⟨by omega, by simp only [allTo, hp]; simp_all⟩ (by show (s.at i).line.n - (j + 1) < (s.at i).line.n - j; omega) (s_start [6, 5, 4, 3, 0] 1 (by kernel_rfl) rfl))
                  | false =>
                    refine h_quiet [] [(11, true), (12, false), (13, true), (14, true), (15, false), (16, true), (17, false), (18, true), (19, true), (20, true), (21, true), (22, false), (23, true), (24, true), (25, true), (26, false), (27, true), (28, true), (29, false)] [(83, .v (undef)), (82, .v (undef)), (81, .v (undef)), (80, .v (undef)), (79, .v (undef)), (78, .v (undef)), (77, .v (undef)), (76, .v (undef)), (75, .v (undef)), (74, vB true), (73, vB true), (72, .v (undef)), (71, .v (undef)), (70, .v (undef)), (69, .v (undef)), (68, .v (undef)), (67, .v (undef)), (66, .v (undef)), (65, .v (undef)), (64, vB true), (63, vB true), (62, vB true), (61, vB false), (60, vI ((s.at i).line.at j)), (59, .v (.pointer (some ((s.at i).line.ad.add (j * 1))))), (58, vI ((j : Nat) : Int)), (57, .v (.slice (s.at i).line.A (s.at i).line.n (s.at i).line.c)), (56, .p 0 3), (55, vB false), (54, vB false), (51, vB true), (6, vI ((j : Nat) : Int)), (5, vB false), (4, .p 0 0), (3, vI ((i : Nat) : Int)), (0, .v (.slice s.A s.n s.c))] [] [] rfl (by kernel_rfl) on wn ?_
                    refine h_pass rfl rfl rfl ?_
                    refine h_quiet [] [(31, true), (32, true)] [(5, vB true), (85, vB true), (84, .v (undef)), (83, .v (undef)), (82, .v (undef)), (81, .v (undef)), (80, .v (undef)), (79, .v (undef)), (78, .v (undef)), (77, .v (undef)), (76, .v (undef)), (75, .v (undef)), (74, vB true), (73, vB true), (72, .v (undef)), (71, .v (undef)), (70, .v (undef)), (69, .v (undef)), (68, .v (undef)), (67, .v (undef)), (66, .v (undef)), (65, .v (undef)), (64, vB true), (63, vB true), (62, vB true), (61, vB false), (60, vI ((s.at i).line.at j)), (59, .v (.pointer (some ((s.at i).line.ad.add (j * 1))))), (58, vI ((j : Nat) : Int)), (57, .v (.slice (s.at i).line.A (s.at i).line.n (s.at i).line.c)), (56, .p 0 3), (55, vB false), (54, vB false), (51, vB true), (6, vI ((j : Nat) : Int)), (4, .p 0 0), (3, vI ((i : Nat) : Int)), (0, .v (.slice s.A s.n s.c))] [] [] rfl (by kernel_rfl) on wn ?_
                    refine h_nil ?_
                    refine l_nil (q_block_normal (q_then_normal ?_))
                    refine c_region ?_
                    refine JL_run 3 [] [6, 5, 4, 3, 0] 1 ⟨[(6, vI (((j : Nat) : Int) + 1)), (5, vB true), (4, .p 0 0), (3, vI ((i : Nat) : Int)), (0, .v (.slice s.A s.n s.c))], [⟨80, [vS (s.at i).name, vI (s.at i).holder, vI (s.at i).fence, .v (.slice (s.at i).line.A (s.at i).line.n (s.at i).line.c)]⟩]⟩ [inR (((j : Nat) : Int) + 1)] [] (by kernel_rfl) (oc (by unfold inR; omega) on) wn ?_
                    refine l_nil (q_loop (x := (⟨j, b⟩ : Nat × Bool)) (⟨j + 1, true⟩ : Nat × Bool) ⟨by omega, by simp only [allTo, hp]; simp_all⟩ (by show (s.at i).line.n - (j + 1) < (s.at i).line.n - j; omega) (s_start [6, 5, 4, 3, 0] 1 (by kernel_rfl) rfl))
              | false =>
                have h22 := of_decide_eq_false h22
                refine c_if false rfl ?_
                refine c_exit ?_
                refine q_then_exit (q_then_exit (q_block_hit (q_then_normal ?_)))
                refine c_seq ?_
                refine c_seq ?_
                refine c_region ?_
                refine JL_run 1 [] [86, 4, 3, 0] 1 ⟨[(86, vB b), (4, .p 0 0), (3, vI ((i : Nat) : Int)), (0, .v (.slice s.A s.n s.c))], [⟨80, [vS (s.at i).name, vI (s.at i).holder, vI (s.at i).fence, .v (.slice (s.at i).line.A (s.at i).line.n (s.at i).line.c)]⟩]⟩ [] [] (by kernel_rfl) on wn ?_
                refine l_nil (q_then_normal ?_)
                cases h26 : b with
                | true =>
                  refine c_if true rfl ?_
                  refine c_seq ?_
                  refine c_region ?_
                  refine JL_run 1 [] [2] 0 ⟨[(2, vI 4)], []⟩ [] [] (by kernel_rfl) on wn ?_
                  refine l_nil (q_then_normal ?_)
                  refine c_ret ?_
                  refine q_then_ret (q_block_ret (q_then_ret (q_then_ret (q_block_ret (q_then_ret (q_ret (.inl rfl) [vI 4] rfl (fun bs w hS => ?_)))))))
                  refine ⟨?_, hS.kp⟩
                  simp only [retOf, den, List.map_cons, List.map_nil]
                  have hf : lockF (s.xs.map CLock.abs) i = 4 := by
                    have hor : mName (s.at i).name = false ∨ (s.at i).holder < 0 ∨ 9 < (s.at i).holder ∨ lineOk (s.at i).abs = false := by
                      first | exact .inl (by assumption) | exact .inr ((show (s.at i).holder < 0 ∨ 9 < (s.at i).holder by omega).elim .inl (fun h => .inr (.inl h))) | exact .inr (.inr (.inr (lineOk_false (.inr (.inl (by show 3 < (s.at i).line.n; omega)))))) | exact .inr (.inr (.inr (lineOk_false (.inr (.inr ⟨by show (s.at i).holder = 0; omega, by show 0 < (s.at i).line.n; omega⟩))))) | exact .inr (.inr (.inr (lineOk_false (.inl (by show allTo _ (s.at i).line.n = false; rw [show (s.at i).line.n = j by omega]; cases hq : allTo (posOk (s.at i).abs) j <;> simp_all)))))
                    unfold lockF
                    simp only [hat, hq1, hq2, hq3]
                    rw [if_pos hor]
                  rw [hI, firstF_here (by omega) hf (by omega)]
                | false =>
                  refine c_if false rfl ?_
                  refine c_skip ?_
                  refine q_then_normal ?_
                  refine c_seq ?_
                  refine c_seq ?_
                  refine c_region ?_
                  refine JL_run 2 [] [88, 4, 3, 0] 1 ⟨[(88, vI (s.at i).fence), (4, .p 0 0), (3, vI ((i : Nat) : Int)), (0, .v (.slice s.A s.n s.c))], [⟨80, [vS (s.at i).name, vI (s.at i).holder, vI (s.at i).fence, .v (.slice (s.at i).line.A (s.at i).line.n (s.at i).line.c)]⟩]⟩ [] [] (by kernel_rfl) on wn ?_
                  refine l_pure 64 [] [vI (s.at i).fence, vI 1, vI 1073741824] (.bool (inB (s.at i).fence 1 1073741824)) Try.call64 rfl rfl rfl rfl (fun bs w hS => ref_In _ _ _ w) ?_
                  refine JL_run 1 [] [90, 4, 3, 0] 1 ⟨[(90, vB (!(inB (s.at i).fence 1 1073741824))), (4, .p 0 0), (3, vI ((i : Nat) : Int)), (0, .v (.slice s.A s.n s.c))], [⟨80, [vS (s.at i).name, vI (s.at i).holder, vI (s.at i).fence, .v (.slice (s.at i).line.A (s.at i).line.n (s.at i).line.c)]⟩]⟩ [] [] (by kernel_rfl) on wn ?_
                  refine l_nil (q_then_normal ?_)
                  cases h27 : inB (s.at i).fence 1 1073741824 with
                  | true =>
                    simp only [inB, Bool.and_eq_true, Bool.and_eq_false_iff, decide_eq_true_eq, decide_eq_false_iff_not] at h27
                    refine c_if false rfl ?_
                    refine c_skip ?_
                    refine q_then_normal ?_
                    refine c_seq ?_
                    refine c_draw 13 [] (.p 0 (.p 1 (.p 2 (.p 3 (.q 4 (.p 5 (.p 6 (.p 7 (.p 8 (.p 9 (.q 10 (.p 11 (.p 12 .nil))))))))))))) [] [] Try_mixed (by kernel_rfl) (pq_then (pq_block (pq_then (pq_then (pq_block (pq_then pq_body)))))) .slnil ?_
                    refine h_quiet [] [(0, true), (1, true), (2, true)] [(93, vB (decide ((0 : Int) < ((i : Nat) : Int)))), (92, vB (decide ((0 : Int) < ((i : Nat) : Int)))), (91, vI ((i : Nat) : Int)), (90, vB false), (4, .p 0 0), (3, vI ((i : Nat) : Int)), (0, .v (.slice s.A s.n s.c))] [] [] rfl (by kernel_rfl) on wn ?_
                    cases h28 : decide ((0 : Int) < ((i : Nat) : Int)) with
                    | true =>
                      have h28 := of_decide_eq_true h28
                      refine h_quiet [(8, .idx s.ad (i - 1)), (10, .ext [.string (s.at (i - 1)).name])] [(3, true), (4, false), (5, true), (6, true), (7, true), (8, true), (9, true), (10, false), (11, true), (12, true)] [(103, vB (Op.bytesLess ((s.at i).name).toList ((s.at (i - 1)).name).toList || decide ((s.at i).name = (s.at (i - 1)).name))), (102, vB (Op.bytesLess ((s.at i).name).toList ((s.at (i - 1)).name).toList || decide ((s.at i).name = (s.at (i - 1)).name))), (101, vS (s.at (i - 1)).name), (100, .v (.pointer (some ((s.ad.add ((i - 1) * 4)).add 0)))), (99, .v (.pointer (some (s.ad.add ((i - 1) * 4))))), (98, vI (((i : Nat) : Int) - 1)), (97, vI ((i : Nat) : Int)), (96, .v (.slice s.A s.n s.c)), (95, vS (s.at i).name), (94, .p 0 0), (93, vB true), (92, vB true), (91, vI ((i : Nat) : Int)), (90, vB false), (4, .p 0 0), (3, vI ((i : Nat) : Int)), (0, .v (.slice s.A s.n s.c))] [inR (((i : Nat) : Int) - 1), s.A = some s.ad, ((i : Nat) : Int) - 1 = (((i - 1) : Nat) : Int), (i - 1) < s.n] [((s.ad.add ((i - 1) * 4)).add 0, [.string (s.at (i - 1)).name])] rfl (by kernel_rfl) (oc (by unfold inR; omega) (oc (Sl.ok.own (s := s) (i := (i - 1)) oks (by omega)) (oc (by omega) (oc (by omega) on)))) (fun w hk hr => ⟨(Sl.rd.fld (s := s) (i := (i - 1)) (Sl.rd.kp hs hk) (by omega) 0 1 rfl), trivial⟩) ?_
                      refine h_nil ?_
                      refine l_nil (q_then_normal ?_)
                      cases h29 : Op.bytesLess ((s.at i).name).toList ((s.at (i - 1)).name).toList || decide ((s.at i).name = (s.at (i - 1)).name) with
                      | true =>
                        rw [bytes_total] at h29
                        simp only [Bool.not_eq_true', Bool.not_eq_false', Bool.not_eq_true, Bool.not_eq_false] at h29
                        refine c_if true rfl ?_
                        refine c_seq ?_
                        refine c_region ?_
                        refine JL_run 1 [] [2] 0 ⟨[(2, vI 14)], []⟩ [] [] (by kernel_rfl) on wn ?_
                        refine l_nil (q_then_normal ?_)
                        refine c_ret ?_
                        refine q_block_ret (q_then_ret (q_then_ret (q_block_ret (q_then_ret (q_ret (.inl rfl) [vI 14] rfl (fun bs w hS => ?_))))))
                        refine ⟨?_, hS.kp⟩
                        simp only [retOf, den, List.map_cons, List.map_nil]
                        have hf : lockF (s.xs.map CLock.abs) i = 14 := by
                          have hjn : (s.at i).line.n = j := by omega
                          have hall : allTo (posOk (s.at i).abs) (s.at i).line.n = true := by rw [hjn]; cases hq : allTo (posOk (s.at i).abs) j <;> simp_all
                          have hlo : lineOk (s.at i).abs = true := lineOk_true hall (by show (s.at i).line.n ≤ 3; omega) (by show ¬ (s.at i).holder = 0 ∨ (s.at i).line.n = 0; omega)
                          unfold lockF
                          simp only [hat, hq1, hq2, hq3]
                          try simp only [hlo]
                          try simp only [h1, h2, h3, h4, h5, h9, h22, h26, h27, h28, h29, emp_size, ne_eq, not_true_eq_false, not_false_eq_true, true_or, or_true, false_or, or_false, and_true, true_and, and_false, false_and, and_self, or_self, if_true, if_false, Bool.true_eq_false, Bool.false_eq_true, reduceIte, Classical.not_not, Bool.and_eq_true, decide_eq_true_eq]
                          repeat (first | rw [if_pos (by omega)] | rw [if_neg (by omega)])
                          all_goals first | rfl | (exfalso; omega)
                        rw [hI, firstF_here (by omega) hf (by omega)]
                      | false =>
                        rw [bytes_total] at h29
                        simp only [Bool.not_eq_true', Bool.not_eq_false', Bool.not_eq_true, Bool.not_eq_false] at h29
                        refine c_if false rfl ?_
                        refine c_skip ?_
                        refine q_block_normal (q_then_normal ?_)
                        refine c_region ?_
                        refine JL_run 3 [] [3, 0] 0 ⟨[(3, vI (((i : Nat) : Int) + 1)), (0, .v (.slice s.A s.n s.c))], []⟩ [inR (((i : Nat) : Int) + 1)] [] (by kernel_rfl) (oc (by unfold inR; omega) on) wn ?_
                        have hf0 : lockF (s.xs.map CLock.abs) i = 0 := by
                          have hjn : (s.at i).line.n = j := by omega
                          have hall : allTo (posOk (s.at i).abs) (s.at i).line.n = true := by rw [hjn]; cases hq : allTo (posOk (s.at i).abs) j <;> simp_all
                          have hlo : lineOk (s.at i).abs = true := lineOk_true hall (by show (s.at i).line.n ≤ 3; omega) (by show ¬ (s.at i).holder = 0 ∨ (s.at i).line.n = 0; omega)
                          unfold lockF
                          simp only [hat, hq1, hq2, hq3]
                          try simp only [hlo]
                          try simp only [h1, h2, h3, h4, h5, h9, h22, h26, h27, h28, h29, emp_size, ne_eq, not_true_eq_false, not_false_eq_true, true_or, or_true, false_or, or_false, and_true, true_and, and_false, false_and, and_self, or_self, if_true, if_false, Bool.true_eq_false, Bool.false_eq_true, reduceIte, Classical.not_not, Bool.and_eq_true, decide_eq_true_eq]
                          repeat (first | rw [if_pos (by omega)] | rw [if_neg (by omega)])
                          all_goals first | rfl | (exfalso; omega)
                        refine l_nil (q_loop (x := (i : Nat)) ((i + 1) : Nat) ⟨by omega, by rw [hI]; exact firstF_step (by omega) hf0⟩ (by omega) (s_start [3, 0] 0 (by kernel_rfl) rfl))
                    | false =>
                      have h28 := of_decide_eq_false h28
                      refine h_quiet [] [(3, true), (4, false), (5, true), (6, true), (7, true), (8, true), (9, true), (10, false), (11, true), (12, true)] [(103, vB false), (102, .v (undef)), (101, .v (undef)), (100, .v (undef)), (99, .v (undef)), (98, .v (undef)), (97, .v (undef)), (96, .v (undef)), (95, .v (undef)), (94, .v (undef)), (93, vB false), (92, vB false), (91, vI ((i : Nat) : Int)), (90, vB false), (4, .p 0 0), (3, vI ((i : Nat) : Int)), (0, .v (.slice s.A s.n s.c))] [] [] rfl (by kernel_rfl) on wn ?_
                      refine h_nil ?_
                      refine l_nil (q_then_normal ?_)
                      refine c_if false rfl ?_
                      refine c_skip ?_
                      refine q_block_normal (q_then_normal ?_)
                      refine c_region ?_
                      refine JL_run 3 [] [3, 0] 0 ⟨[(3, vI (((i : Nat) : Int) + 1)), (0, .v (.slice s.A s.n s.c))], []⟩ [inR (((i : Nat) : Int) + 1)] [] (by kernel_rfl) (oc (by unfold inR; omega) on) wn ?_
                      have hf0 : lockF (s.xs.map CLock.abs) i = 0 := by
                        have hjn : (s.at i).line.n = j := by omega
                        have hall : allTo (posOk (s.at i).abs) (s.at i).line.n = true := by rw [hjn]; cases hq : allTo (posOk (s.at i).abs) j <;> simp_all
                        have hlo : lineOk (s.at i).abs = true := lineOk_true hall (by show (s.at i).line.n ≤ 3; omega) (by show ¬ (s.at i).holder = 0 ∨ (s.at i).line.n = 0; omega)
                        unfold lockF
                        simp only [hat, hq1, hq2, hq3]
                        try simp only [hlo]
                        try simp only [h1, h2, h3, h4, h5, h9, h22, h26, h27, h28, emp_size, ne_eq, not_true_eq_false, not_false_eq_true, true_or, or_true, false_or, or_false, and_true, true_and, and_false, false_and, and_self, or_self, if_true, if_false, Bool.true_eq_false, Bool.false_eq_true, reduceIte, Classical.not_not, Bool.and_eq_true, decide_eq_true_eq]
                        repeat (first | rw [if_pos (by omega)] | rw [if_neg (by omega)])
                        all_goals first | rfl | (exfalso; omega)
                      refine l_nil (q_loop (x := (i : Nat)) ((i + 1) : Nat) ⟨by omega, by rw [hI]; exact firstF_step (by omega) hf0⟩ (by omega) (s_start [3, 0] 0 (by kernel_rfl) rfl))
                  | false =>
                    simp only [inB, Bool.and_eq_true, Bool.and_eq_false_iff, decide_eq_true_eq, decide_eq_false_iff_not] at h27
                    refine c_if true rfl ?_
                    refine c_seq ?_
                    refine c_region ?_
                    refine JL_run 1 [] [2] 0 ⟨[(2, vI 2)], []⟩ [] [] (by kernel_rfl) on wn ?_
                    refine l_nil (q_then_normal ?_)
                    refine c_ret ?_
                    refine q_then_ret (q_block_ret (q_then_ret (q_then_ret (q_block_ret (q_then_ret (q_ret (.inl rfl) [vI 2] rfl (fun bs w hS => ?_)))))))
                    refine ⟨?_, hS.kp⟩
                    simp only [retOf, den, List.map_cons, List.map_nil]
                    have hf : lockF (s.xs.map CLock.abs) i = 2 := by
                      have hjn : (s.at i).line.n = j := by omega
                      have hall : allTo (posOk (s.at i).abs) (s.at i).line.n = true := by rw [hjn]; cases hq : allTo (posOk (s.at i).abs) j <;> simp_all
                      have hlo : lineOk (s.at i).abs = true := lineOk_true hall (by show (s.at i).line.n ≤ 3; omega) (by show ¬ (s.at i).holder = 0 ∨ (s.at i).line.n = 0; omega)
                      unfold lockF
                      simp only [hat, hq1, hq2, hq3]
                      try simp only [hlo]
                      try simp only [h1, h2, h3, h4, h5, h9, h22, h26, h27, emp_size, ne_eq, not_true_eq_false, not_false_eq_true, true_or, or_true, false_or, or_false, and_true, true_and, and_false, false_and, and_self, or_self, if_true, if_false, Bool.true_eq_false, Bool.false_eq_true, reduceIte, Classical.not_not, Bool.and_eq_true, decide_eq_true_eq]
                      repeat (first | rw [if_pos (by omega)] | rw [if_neg (by omega)])
                      all_goals first | rfl | (exfalso; omega)
                    rw [hI, firstF_here (by omega) hf (by omega)]
        | false =>
          simp only [inB, Bool.and_eq_true, Bool.and_eq_false_iff, decide_eq_true_eq, decide_eq_false_iff_not] at h4
          refine JL_run 17 [] [5, 4, 3, 0] 1 ⟨[(5, vB true), (4, .p 0 0), (3, vI ((i : Nat) : Int)), (0, .v (.slice s.A s.n s.c))], [⟨80, [vS (s.at i).name, vI (s.at i).holder, vI (s.at i).fence, .v (.slice (s.at i).line.A (s.at i).line.n (s.at i).line.c)]⟩]⟩ [] [] (by kernel_rfl) on wn ?_
          refine l_nil (q_then_normal ?_)
          refine c_seq ?_
          refine c_seq ?_
          refine c_region ?_
          refine JL_run 1 [] [6, 5, 4, 3, 0] 1 ⟨[(6, vI 0), (5, vB true), (4, .p 0 0), (3, vI ((i : Nat) : Int)), (0, .v (.slice s.A s.n s.c))], [⟨80, [vS (s.at i).name, vI (s.at i).holder, vI (s.at i).fence, .v (.slice (s.at i).line.A (s.at i).line.n (s.at i).line.c)]⟩]⟩ [] [] (by kernel_rfl) on wn ?_
          refine l_nil (q_then_normal ?_)
          refine c_block ?_
          refine c_loop (σ := Nat × Bool) (fun ⟨j, b⟩ => j ≤ (s.at i).line.n ∧ b = (true || !(allTo (posOk (s.at i).abs) j))) (fun ⟨j, b⟩ => (s.at i).line.n - j) (fun ⟨j, b⟩ => []) (fun ⟨j, b⟩ => ⟨[(6, vI ((j : Nat) : Int)), (5, vB b), (4, .p 0 0), (3, vI ((i : Nat) : Int)), (0, .v (.slice s.A s.n s.c))], [⟨80, [vS (s.at i).name, vI (s.at i).holder, vI (s.at i).fence, .v (.slice (s.at i).line.A (s.at i).line.n (s.at i).line.c)]⟩]⟩) ⟨0, true⟩ ⟨Nat.zero_le _, by simp [allTo]⟩ (s_start [6, 5, 4, 3, 0] 1 (by kernel_rfl) rfl) ?_
          rintro ⟨j, b⟩ ⟨hj, hJ⟩
          have ncl := Sl.ok.nc (And.right (Sl.ok.at oks (show i < s.n by omega)))
          refine c_seq ?_
          refine c_seq ?_
          refine c_region ?_
          refine JL_run 5 [] [51, 6, 5, 4, 3, 0] 1 ⟨[(51, vB (decide (((j : Nat) : Int) < (((s.at i).line.n : Nat) : Int)))), (6, vI ((j : Nat) : Int)), (5, vB b), (4, .p 0 0), (3, vI ((i : Nat) : Int)), (0, .v (.slice s.A s.n s.c))], [⟨80, [vS (s.at i).name, vI (s.at i).holder, vI (s.at i).fence, .v (.slice (s.at i).line.A (s.at i).line.n (s.at i).line.c)]⟩]⟩ [] [] (by kernel_rfl) on wn ?_
          refine l_nil (q_then_normal ?_)
          cases h30 : decide (((j : Nat) : Int) < (((s.at i).line.n : Nat) : Int)) with
          | true =>
            have h30 := of_decide_eq_true h30
            refine c_if true rfl ?_
            refine c_skip ?_
            refine q_then_normal ?_
            refine c_seq ?_
            refine c_block ?_
            refine c_draw 33 [] (.p 0 (.p 1 (.p 2 (.q 3 (.p 4 (.p 5 (.q 6 (.b 7 (.p 8 (.p 9 (.p 10 (.p 11 (.q 12 (.p 13 (.p 14 (.q 15 (.p 16 (.q 17 (.p 18 (.p 19 (.p 20 (.p 21 (.q 22 (.p 23 (.p 24 (.p 25 (.q 26 (.p 27 (.p 28 (.q 29 (.b 30 (.p 31 (.p 32 .nil)) .z))))))))))))))))))))))) .z)))))))) [] [] Try_mixed (by kernel_rfl) (pq_block (pq_then (pq_then (pq_block (pq_then (pq_block (pq_then (pq_then (pq_block (pq_then pq_body)))))))))) .slnil ?_
            refine h_quiet [] [(0, true), (1, true)] [(55, vB b), (54, vB b), (51, vB true), (6, vI ((j : Nat) : Int)), (5, vB b), (4, .p 0 0), (3, vI ((i : Nat) : Int)), (0, .v (.slice s.A s.n s.c))] [] [] rfl (by kernel_rfl) on wn ?_
            cases h31 : b with
            | true =>
              refine h_quiet [] [(2, true), (3, false), (4, true), (5, true), (6, false)] [(60, .v (undef)), (59, .v (undef)), (58, .v (undef)), (57, .v (undef)), (56, .v (undef)), (55, vB true), (54, vB true), (51, vB true), (6, vI ((j : Nat) : Int)), (5, vB true), (4, .p 0 0), (3, vI ((i : Nat) : Int)), (0, .v (.slice s.A s.n s.c))] [] [] rfl (by kernel_rfl) on wn ?_
              refine h_pass rfl rfl rfl ?_
              refine h_quiet [] [(8, true), (9, true), (10, true), (11, true), (12, false), (13, true), (14, true), (15, false), (16, true), (17, false), (18, true), (19, true), (20, true), (21, true), (22, false), (23, true), (24, true), (25, true), (26, false), (27, true), (28, true), (29, false)] [(83, .v (undef)), (82, .v (undef)), (81, .v (undef)), (80, .v (undef)), (79, .v (undef)), (78, .v (undef)), (77, .v (undef)), (76, .v (undef)), (75, .v (undef)), (74, vB true), (73, vB true), (72, .v (undef)), (71, .v (undef)), (70, .v (undef)), (69, .v (undef)), (68, .v (undef)), (67, .v (undef)), (66, .v (undef)), (65, .v (undef)), (64, vB true), (63, vB true), (62, .v (undef)), (61, .v (undef)), (60, .v (undef)), (59, .v (undef)), (58, .v (undef)), (57, .v (undef)), (56, .v (undef)), (55, vB true), (54, vB true), (51, vB true), (6, vI ((j : Nat) : Int)), (5, vB true), (4, .p 0 0), (3, vI ((i : Nat) : Int)), (0, .v (.slice s.A s.n s.c))] [] [] rfl (by kernel_rfl) on wn ?_
              refine h_pass rfl rfl rfl ?_
              refine h_quiet [] [(31, true), (32, true)] [(5, vB true), (85, vB true), (84, .v (undef)), (83, .v (undef)), (82, .v (undef)), (81, .v (undef)), (80, .v (undef)), (79, .v (undef)), (78, .v (undef)), (77, .v (undef)), (76, .v (undef)), (75, .v (undef)), (74, vB true), (73, vB true), (72, .v (undef)), (71, .v (undef)), (70, .v (undef)), (69, .v (undef)), (68, .v (undef)), (67, .v (undef)), (66, .v (undef)), (65, .v (undef)), (64, vB true), (63, vB true), (62, .v (undef)), (61, .v (undef)), (60, .v (undef)), (59, .v (undef)), (58, .v (undef)), (57, .v (undef)), (56, .v (undef)), (55, vB true), (54, vB true), (51, vB true), (6, vI ((j : Nat) : Int)), (4, .p 0 0), (3, vI ((i : Nat) : Int)), (0, .v (.slice s.A s.n s.c))] [] [] rfl (by kernel_rfl) on wn ?_
              refine h_nil ?_
              refine l_nil (q_block_normal (q_then_normal ?_))
              refine c_region ?_
              refine JL_run 3 [] [6, 5, 4, 3, 0] 1 ⟨[(6, vI (((j : Nat) : Int) + 1)), (5, vB true), (4, .p 0 0), (3, vI ((i : Nat) : Int)), (0, .v (.slice s.A s.n s.c))], [⟨80, [vS (s.at i).name, vI (s.at i).holder, vI (s.at i).fence, .v (.slice (s.at i).line.A (s.at i).line.n (s.at i).line.c)]⟩]⟩ [inR (((j : Nat) : Int) + 1)] [] (by kernel_rfl) (oc (by unfold inR; omega) on) wn ?_
              refine l_nil (q_loop (x := (⟨j, b⟩ : Nat × Bool)) (⟨j + 1, true⟩ : Nat × Bool) ⟨by omega, by simp only [allTo, hp]; simp_all⟩ (by show (s.at i).line.n - (j + 1) < (s.at i).line.n - j; omega) (s_start [6, 5, 4, 3, 0] 1 (by kernel_rfl) rfl))
            | false =>
              exfalso; rw [h31] at hJ; simp at hJ
          | false =>
            have h30 := of_decide_eq_false h30
            refine c_if false rfl ?_
            refine c_exit ?_
            refine q_then_exit (q_then_exit (q_block_hit (q_then_normal ?_)))
            refine c_seq ?_
            refine c_seq ?_
            refine c_region ?_
            refine JL_run 1 [] [86, 4, 3, 0] 1 ⟨[(86, vB b), (4, .p 0 0), (3, vI ((i : Nat) : Int)), (0, .v (.slice s.A s.n s.c))], [⟨80, [vS (s.at i).name, vI (s.at i).holder, vI (s.at i).fence, .v (.slice (s.at i).line.A (s.at i).line.n (s.at i).line.c)]⟩]⟩ [] [] (by kernel_rfl) on wn ?_
            refine l_nil (q_then_normal ?_)
            cases h32 : b with
            | true =>
              refine c_if true rfl ?_
              refine c_seq ?_
              refine c_region ?_
              refine JL_run 1 [] [2] 0 ⟨[(2, vI 4)], []⟩ [] [] (by kernel_rfl) on wn ?_
              refine l_nil (q_then_normal ?_)
              refine c_ret ?_
              refine q_then_ret (q_block_ret (q_then_ret (q_then_ret (q_block_ret (q_then_ret (q_ret (.inl rfl) [vI 4] rfl (fun bs w hS => ?_)))))))
              refine ⟨?_, hS.kp⟩
              simp only [retOf, den, List.map_cons, List.map_nil]
              have hf : lockF (s.xs.map CLock.abs) i = 4 := by
                have hor : mName (s.at i).name = false ∨ (s.at i).holder < 0 ∨ 9 < (s.at i).holder ∨ lineOk (s.at i).abs = false := by
                  first | exact .inl (by assumption) | exact .inr ((show (s.at i).holder < 0 ∨ 9 < (s.at i).holder by omega).elim .inl (fun h => .inr (.inl h))) | exact .inr (.inr (.inr (lineOk_false (.inr (.inl (by show 3 < (s.at i).line.n; omega)))))) | exact .inr (.inr (.inr (lineOk_false (.inr (.inr ⟨by show (s.at i).holder = 0; omega, by show 0 < (s.at i).line.n; omega⟩))))) | exact .inr (.inr (.inr (lineOk_false (.inl (by show allTo _ (s.at i).line.n = false; rw [show (s.at i).line.n = j by omega]; cases hq : allTo (posOk (s.at i).abs) j <;> simp_all)))))
                unfold lockF
                simp only [hat, hq1, hq2, hq3]
                rw [if_pos hor]
              rw [hI, firstF_here (by omega) hf (by omega)]
            | false =>
              exfalso; rw [h32] at hJ; simp at hJ
      | false =>
        refine JL_run 23 [] [5, 4, 3, 0] 1 ⟨[(5, vB true), (4, .p 0 0), (3, vI ((i : Nat) : Int)), (0, .v (.slice s.A s.n s.c))], [⟨80, [vS (s.at i).name, vI (s.at i).holder, vI (s.at i).fence, .v (.slice (s.at i).line.A (s.at i).line.n (s.at i).line.c)]⟩]⟩ [] [] (by kernel_rfl) on wn ?_
        refine l_nil (q_then_normal ?_)
        refine c_seq ?_
        refine c_seq ?_
        refine c_region ?_
        refine JL_run 1 [] [6, 5, 4, 3, 0] 1 ⟨[(6, vI 0), (5, vB true), (4, .p 0 0), (3, vI ((i : Nat) : Int)), (0, .v (.slice s.A s.n s.c))], [⟨80, [vS (s.at i).name, vI (s.at i).holder, vI (s.at i).fence, .v (.slice (s.at i).line.A (s.at i).line.n (s.at i).line.c)]⟩]⟩ [] [] (by kernel_rfl) on wn ?_
        refine l_nil (q_then_normal ?_)
        refine c_block ?_
        refine c_loop (σ := Nat × Bool) (fun ⟨j, b⟩ => j ≤ (s.at i).line.n ∧ b = (true || !(allTo (posOk (s.at i).abs) j))) (fun ⟨j, b⟩ => (s.at i).line.n - j) (fun ⟨j, b⟩ => []) (fun ⟨j, b⟩ => ⟨[(6, vI ((j : Nat) : Int)), (5, vB b), (4, .p 0 0), (3, vI ((i : Nat) : Int)), (0, .v (.slice s.A s.n s.c))], [⟨80, [vS (s.at i).name, vI (s.at i).holder, vI (s.at i).fence, .v (.slice (s.at i).line.A (s.at i).line.n (s.at i).line.c)]⟩]⟩) ⟨0, true⟩ ⟨Nat.zero_le _, by simp [allTo]⟩ (s_start [6, 5, 4, 3, 0] 1 (by kernel_rfl) rfl) ?_
        rintro ⟨j, b⟩ ⟨hj, hJ⟩
        have ncl := Sl.ok.nc (And.right (Sl.ok.at oks (show i < s.n by omega)))
        refine c_seq ?_
        refine c_seq ?_
        refine c_region ?_
        refine JL_run 5 [] [51, 6, 5, 4, 3, 0] 1 ⟨[(51, vB (decide (((j : Nat) : Int) < (((s.at i).line.n : Nat) : Int)))), (6, vI ((j : Nat) : Int)), (5, vB b), (4, .p 0 0), (3, vI ((i : Nat) : Int)), (0, .v (.slice s.A s.n s.c))], [⟨80, [vS (s.at i).name, vI (s.at i).holder, vI (s.at i).fence, .v (.slice (s.at i).line.A (s.at i).line.n (s.at i).line.c)]⟩]⟩ [] [] (by kernel_rfl) on wn ?_
        refine l_nil (q_then_normal ?_)
        cases h33 : decide (((j : Nat) : Int) < (((s.at i).line.n : Nat) : Int)) with
        | true =>
          have h33 := of_decide_eq_true h33
          refine c_if true rfl ?_
          refine c_skip ?_
          refine q_then_normal ?_
          refine c_seq ?_
          refine c_block ?_
          refine c_draw 33 [] (.p 0 (.p 1 (.p 2 (.q 3 (.p 4 (.p 5 (.q 6 (.b 7 (.p 8 (.p 9 (.p 10 (.p 11 (.q 12 (.p 13 (.p 14 (.q 15 (.p 16 (.q 17 (.p 18 (.p 19 (.p 20 (.p 21 (.q 22 (.p 23 (.p 24 (.p 25 (.q 26 (.p 27 (.p 28 (.q 29 (.b 30 (.p 31 (.p 32 .nil)) .z))))))))))))))))))))))) .z)))))))) [] [] Try_mixed (by kernel_rfl) (pq_block (pq_then (pq_then (pq_block (pq_then (pq_block (pq_then (pq_then (pq_block (pq_then pq_body)))))))))) .slnil ?_
          refine h_quiet [] [(0, true), (1, true)] [(55, vB b), (54, vB b), (51, vB true), (6, vI ((j : Nat) : Int)), (5, vB b), (4, .p 0 0), (3, vI ((i : Nat) : Int)), (0, .v (.slice s.A s.n s.c))] [] [] rfl (by kernel_rfl) on wn ?_
          cases h34 : b with
          | true =>
            refine h_quiet [] [(2, true), (3, false), (4, true), (5, true), (6, false)] [(60, .v (undef)), (59, .v (undef)), (58, .v (undef)), (57, .v (undef)), (56, .v (undef)), (55, vB true), (54, vB true), (51, vB true), (6, vI ((j : Nat) : Int)), (5, vB true), (4, .p 0 0), (3, vI ((i : Nat) : Int)), (0, .v (.slice s.A s.n s.c))] [] [] rfl (by kernel_rfl) on wn ?_
            refine h_pass rfl rfl rfl ?_
            refine h_quiet [] [(8, true), (9, true), (10, true), (11, true), (12, false), (13, true), (14, true), (15, false), (16, true), (17, false), (18, true), (19, true), (20, true), (21, true), (22, false), (23, true), (24, true), (25, true), (26, false), (27, true), (28, true), (29, false)] [(83, .v (undef)), (82, .v (undef)), (81, .v (undef)), (80, .v (undef)), (79, .v (undef)), (78, .v (undef)), (77, .v (undef)), (76, .v (undef)), (75, .v (undef)), (74, vB true), (73, vB true), (72, .v (undef)), (71, .v (undef)), (70, .v (undef)), (69, .v (undef)), (68, .v (undef)), (67, .v (undef)), (66, .v (undef)), (65, .v (undef)), (64, vB true), (63, vB true), (62, .v (undef)), (61, .v (undef)), (60, .v (undef)), (59, .v (undef)), (58, .v (undef)), (57, .v (undef)), (56, .v (undef)), (55, vB true), (54, vB true), (51, vB true), (6, vI ((j : Nat) : Int)), (5, vB true), (4, .p 0 0), (3, vI ((i : Nat) : Int)), (0, .v (.slice s.A s.n s.c))] [] [] rfl (by kernel_rfl) on wn ?_
            refine h_pass rfl rfl rfl ?_
            refine h_quiet [] [(31, true), (32, true)] [(5, vB true), (85, vB true), (84, .v (undef)), (83, .v (undef)), (82, .v (undef)), (81, .v (undef)), (80, .v (undef)), (79, .v (undef)), (78, .v (undef)), (77, .v (undef)), (76, .v (undef)), (75, .v (undef)), (74, vB true), (73, vB true), (72, .v (undef)), (71, .v (undef)), (70, .v (undef)), (69, .v (undef)), (68, .v (undef)), (67, .v (undef)), (66, .v (undef)), (65, .v (undef)), (64, vB true), (63, vB true), (62, .v (undef)), (61, .v (undef)), (60, .v (undef)), (59, .v (undef)), (58, .v (undef)), (57, .v (undef)), (56, .v (undef)), (55, vB true), (54, vB true), (51, vB true), (6, vI ((j : Nat) : Int)), (4, .p 0 0), (3, vI ((i : Nat) : Int)), (0, .v (.slice s.A s.n s.c))] [] [] rfl (by kernel_rfl) on wn ?_
            refine h_nil ?_
            refine l_nil (q_block_normal (q_then_normal ?_))
            refine c_region ?_
            refine JL_run 3 [] [6, 5, 4, 3, 0] 1 ⟨[(6, vI (((j : Nat) : Int) + 1)), (5, vB true), (4, .p 0 0), (3, vI ((i : Nat) : Int)), (0, .v (.slice s.A s.n s.c))], [⟨80, [vS (s.at i).name, vI (s.at i).holder, vI (s.at i).fence, .v (.slice (s.at i).line.A (s.at i).line.n (s.at i).line.c)]⟩]⟩ [inR (((j : Nat) : Int) + 1)] [] (by kernel_rfl) (oc (by unfold inR; omega) on) wn ?_
            refine l_nil (q_loop (x := (⟨j, b⟩ : Nat × Bool)) (⟨j + 1, true⟩ : Nat × Bool) ⟨by omega, by simp only [allTo, hp]; simp_all⟩ (by show (s.at i).line.n - (j + 1) < (s.at i).line.n - j; omega) (s_start [6, 5, 4, 3, 0] 1 (by kernel_rfl) rfl))
          | false =>
            exfalso; rw [h34] at hJ; simp at hJ
        | false =>
          have h33 := of_decide_eq_false h33
          refine c_if false rfl ?_
          refine c_exit ?_
          refine q_then_exit (q_then_exit (q_block_hit (q_then_normal ?_)))
          refine c_seq ?_
          refine c_seq ?_
          refine c_region ?_
          refine JL_run 1 [] [86, 4, 3, 0] 1 ⟨[(86, vB b), (4, .p 0 0), (3, vI ((i : Nat) : Int)), (0, .v (.slice s.A s.n s.c))], [⟨80, [vS (s.at i).name, vI (s.at i).holder, vI (s.at i).fence, .v (.slice (s.at i).line.A (s.at i).line.n (s.at i).line.c)]⟩]⟩ [] [] (by kernel_rfl) on wn ?_
          refine l_nil (q_then_normal ?_)
          cases h35 : b with
          | true =>
            refine c_if true rfl ?_
            refine c_seq ?_
            refine c_region ?_
            refine JL_run 1 [] [2] 0 ⟨[(2, vI 4)], []⟩ [] [] (by kernel_rfl) on wn ?_
            refine l_nil (q_then_normal ?_)
            refine c_ret ?_
            refine q_then_ret (q_block_ret (q_then_ret (q_then_ret (q_block_ret (q_then_ret (q_ret (.inl rfl) [vI 4] rfl (fun bs w hS => ?_)))))))
            refine ⟨?_, hS.kp⟩
            simp only [retOf, den, List.map_cons, List.map_nil]
            have hf : lockF (s.xs.map CLock.abs) i = 4 := by
              have hor : mName (s.at i).name = false ∨ (s.at i).holder < 0 ∨ 9 < (s.at i).holder ∨ lineOk (s.at i).abs = false := by
                first | exact .inl (by assumption) | exact .inr ((show (s.at i).holder < 0 ∨ 9 < (s.at i).holder by omega).elim .inl (fun h => .inr (.inl h))) | exact .inr (.inr (.inr (lineOk_false (.inr (.inl (by show 3 < (s.at i).line.n; omega)))))) | exact .inr (.inr (.inr (lineOk_false (.inr (.inr ⟨by show (s.at i).holder = 0; omega, by show 0 < (s.at i).line.n; omega⟩))))) | exact .inr (.inr (.inr (lineOk_false (.inl (by show allTo _ (s.at i).line.n = false; rw [show (s.at i).line.n = j by omega]; cases hq : allTo (posOk (s.at i).abs) j <;> simp_all)))))
              unfold lockF
              simp only [hat, hq1, hq2, hq3]
              rw [if_pos hor]
            rw [hI, firstF_here (by omega) hf (by omega)]
          | false =>
            exfalso; rw [h35] at hJ; simp at hJ
    | false =>
      have h2 := of_decide_eq_false h2
      refine c_if false rfl ?_
      refine c_exit ?_
      refine q_then_exit (q_then_exit (q_block_hit (q_then_normal ?_)))
      refine c_seq ?_
      refine c_region ?_
      refine JL_run 1 [] [2] 0 ⟨[(2, vI 0)], []⟩ [] [] (by kernel_rfl) on wn ?_
      refine l_nil (q_then_normal ?_)
      refine c_ret ?_
      refine q_ret (.inl rfl) [vI 0] rfl (fun bs w hS => ?_)
      refine ⟨?_, hS.kp⟩
      simp only [retOf, den, List.map_cons, List.map_nil]
      rw [hI, firstF_end (by omega)]

end Go.Proofs.Ytececkgjacccmad.W
