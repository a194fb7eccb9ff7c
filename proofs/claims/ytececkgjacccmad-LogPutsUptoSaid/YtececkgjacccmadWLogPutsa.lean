/-
  The functions that the law LogPuts reaches, walked: each returns what its model says.
  Conditions: those that each theorem states.
-/
import Derived.Test.YtececkgjacccmadMc
import Derived.Test.YtececkgjacccmadChecked
set_option linter.unusedVariables false
set_option linter.unusedSimpArgs false
set_option maxRecDepth 100000
namespace Go.Proofs.Ytececkgjacccmad.W
open Go.Proofs.Ytececkgjacccmad.Fw Go.RowKit

theorem Try_mixed : Try.prog.follows .mixedOrders = true := by kernel_rfl
theorem laid : laidOutB Try.prog = true := by kernel_rfl

theorem ref_In (n lo hi : Int) (w : World) : Calls Try.prog 64 #[.int .i64 n, .int .i64 lo, .int .i64 hi] w fun e w' => e = .returned (.bool (inB n lo hi)) ∧ Kp [] w w' := by
  refine calls_J0 15 Try.func64 rfl rfl [.int .i64 n, .int .i64 lo, .int .i64 hi] rfl ?_
  refine c_seq ?_
  refine c_region ?_
  refine JL_run 1 [] [0, 1, 2] 0 ⟨[(0, vI n), (1, vI lo), (2, vI hi)], []⟩ [] [] (by kernel_rfl) on wn ?_
  refine l_nil (q_then_normal ?_)
  refine c_seq ?_
  refine c_region ?_
  refine JL_run 4 [] [10, 0, 2] 0 ⟨[(10, vB (decide (lo ≤ n))), (0, vI n), (2, vI hi)], []⟩ [] [] (by kernel_rfl) on wn ?_
  cases h1 : decide (lo ≤ n) with
  | true =>
    have h1 := of_decide_eq_true h1
    refine JL_run 5 [] [6] 0 ⟨[(6, vB (decide (n ≤ hi)))], []⟩ [] [] (by kernel_rfl) on wn ?_
    refine l_nil (q_then_normal ?_)
    refine c_ret ?_
    refine q_ret (.inl rfl) [vB (decide (n ≤ hi))] rfl (fun bs w hS => ?_)
    exact ⟨by simp [retOf, den, inB, h1], hS.kp⟩
  | false =>
    have h1 := of_decide_eq_false h1
    refine JL_run 5 [] [6] 0 ⟨[(6, vB false)], []⟩ [] [] (by kernel_rfl) on wn ?_
    refine l_nil (q_then_normal ?_)
    refine c_ret ?_
    refine q_ret (.inl rfl) [vB false] rfl (fun bs w hS => ?_)
    exact ⟨by simp [retOf, den, inB, h1], hS.kp⟩

theorem lock_Name1 (c : UInt8) (w : World) : Calls Try.prog 131 #[.int .u8 (c.toNat : Int)] w fun e w' => e = .returned (.bool (nameBad c)) ∧ Kp [] w w' := by
  refine calls_J0 9 Try.func131 rfl rfl [.int .u8 (c.toNat : Int)] rfl ?_
  refine c_seq ?_
  refine c_region ?_
  refine JL_run 1 [] [0] 0 ⟨[(0, .v (.int .u8 (c.toNat : Int)))], []⟩ [] [] (by kernel_rfl) on wn ?_
  refine l_nil (q_then_normal ?_)
  refine c_seq ?_
  refine c_region ?_
  refine JL_run 3 [] [5, 0] 0 ⟨[(5, vB (decide ((c.toNat : Int) < 97))), (0, .v (.int .u8 (c.toNat : Int)))], []⟩ [] [] (by kernel_rfl) on wn ?_
  cases h1 : decide ((c.toNat : Int) < 97) with
  | true =>
    have h1 := of_decide_eq_true h1
    refine JL_run 4 [] [2] 0 ⟨[(2, vB true)], []⟩ [] [] (by kernel_rfl) on wn ?_
    refine l_nil (q_then_normal ?_)
    refine c_ret ?_
    refine q_ret (.inl rfl) [vB true] rfl (fun bs w hS => ?_)
    exact ⟨by simp [retOf, den, nameBad, h1], hS.kp⟩
  | false =>
    have h1 := of_decide_eq_false h1
    refine JL_run 4 [] [2] 0 ⟨[(2, vB (decide ((122 : Int) < (c.toNat : Int))))], []⟩ [] [] (by kernel_rfl) on wn ?_
    refine l_nil (q_then_normal ?_)
    refine c_ret ?_
    refine q_ret (.inl rfl) [vB (decide ((122 : Int) < (c.toNat : Int)))] rfl (fun bs w hS => ?_)
    exact ⟨by simp [retOf, den, nameBad, h1], hS.kp⟩

theorem idx_bytes {B : Nat → Prop} (s : Sl UInt8) (w : World) (hs : s.rd B w) : Calls Try.prog 153 #[.slice s.A s.n s.c, .func (.func 131) #[] #[]] w fun e w' => e = .returned (.int .i64 (mIdx nameBad s.xs)) ∧ Kp [] w w' := by
  have oks := Sl.rd.ok hs
  have ncs := Sl.ok.nc oks
  have hns : s.n = s.xs.length := rfl
  refine calls_J 19 [] Try.func153 rfl rfl [] [] [] [.v (.slice s.A s.n s.c), .fn 131 []] [.slice s.A s.n s.c, .func (.func 131) #[] #[]] rfl rfl (WS.start w) ?_
  refine c_seq ?_
  refine c_region ?_
  refine JL_run 1 [] [0, 1] 0 ⟨[(0, .v (.slice s.A s.n s.c)), (1, .fn 131 [])], []⟩ [] [] (by kernel_rfl) on wn ?_
  refine l_nil (q_then_normal ?_)
  refine c_seq ?_
  refine c_seq ?_
  refine c_region ?_
  refine JL_run 3 [] [8, 7, 0, 1] 0 ⟨[(8, vI 0), (7, vI ((s.n : Nat) : Int)), (0, .v (.slice s.A s.n s.c)), (1, .fn 131 [])], []⟩ [] [] (by kernel_rfl) on wn ?_
  refine l_nil (q_then_normal ?_)
  refine c_block ?_
  refine c_loop (σ := Nat) (fun i => i ≤ s.n ∧ ∀ j, j < i → nameBad (s.at j) = false) (fun i => s.n - i) (fun i => []) (fun i => ⟨[(8, vI ((i : Nat) : Int)), (7, vI ((s.n : Nat) : Int)), (0, .v (.slice s.A s.n s.c)), (1, .fn 131 [])], []⟩) 0 ⟨Nat.zero_le _, fun j hj => absurd hj (Nat.not_lt_zero _)⟩ (s_start [8, 7, 0, 1] 0 (by kernel_rfl) rfl) ?_
  rintro i ⟨hi, hI⟩
  refine c_seq ?_
  refine c_region ?_
  refine JL_run 1 [] [9, 8, 7, 0, 1] 0 ⟨[(9, vB (decide (((i : Nat) : Int) < ((s.n : Nat) : Int)))), (8, vI ((i : Nat) : Int)), (7, vI ((s.n : Nat) : Int)), (0, .v (.slice s.A s.n s.c)), (1, .fn 131 [])], []⟩ [] [] (by kernel_rfl) on wn ?_
  refine l_nil (q_then_normal ?_)
  refine c_seq ?_
  cases h1 : decide (((i : Nat) : Int) < ((s.n : Nat) : Int)) with
  | true =>
    have h1 := of_decide_eq_true h1
    refine c_if true rfl ?_
    refine c_skip ?_
    refine q_then_normal ?_
    refine c_seq ?_
    refine c_block ?_
    refine c_seq ?_
    refine c_region ?_
    refine JL_run 2 [] [5, 8, 7, 0, 1] 0 ⟨[(5, vI ((i : Nat) : Int)), (8, vI ((i : Nat) : Int)), (7, vI ((s.n : Nat) : Int)), (0, .v (.slice s.A s.n s.c)), (1, .fn 131 [])], []⟩ [] [] (by kernel_rfl) on wn ?_
    refine l_nil (q_then_normal ?_)
    refine c_seq ?_
    refine c_region ?_
    refine JL_run 5 [(3, .idx s.ad i), (4, .ext [.int .u8 ((s.at i).toNat : Int)])] [15, 11, 5, 8, 7, 0, 1] 0 ⟨[(15, .v (.int .u8 ((s.at i).toNat : Int))), (11, .fn 131 []), (5, vI ((i : Nat) : Int)), (8, vI ((i : Nat) : Int)), (7, vI ((s.n : Nat) : Int)), (0, .v (.slice s.A s.n s.c)), (1, .fn 131 [])], []⟩ [s.A = some s.ad, ((i : Nat) : Int) = ((i : Nat) : Int), i < s.n] [(s.ad.add (i * 1), [.int .u8 ((s.at i).toNat : Int)])] (by kernel_rfl) (oc (Sl.ok.own (s := s) (i := i) oks (by omega)) (oc rfl (oc (by omega) on))) (fun w hk hr => ⟨(Sl.rd.all (s := s) (i := i) (Sl.rd.kp hs hk) (by omega) rfl), trivial⟩) ?_
    refine l_pure 131 [] [.v (.int .u8 ((s.at i).toNat : Int))] (.bool (nameBad (s.at i))) Try.call131 rfl rfl rfl rfl (fun bs w hS => lock_Name1 _ w) ?_
    refine l_nil (q_then_normal ?_)
    cases h2 : nameBad (s.at i) with
    | true =>
      refine c_if true rfl ?_
      refine c_seq ?_
      refine c_region ?_
      refine JL_run 2 [] [4] 0 ⟨[(4, vI ((i : Nat) : Int))], []⟩ [] [] (by kernel_rfl) on wn ?_
      refine l_nil (q_then_normal ?_)
      refine c_ret ?_
      refine q_block_ret (q_then_ret (q_then_ret (q_block_ret (q_then_ret (q_ret (.inl rfl) [vI ((i : Nat) : Int)] rfl (fun bs w hS => ?_))))))
      refine ⟨?_, hS.kp⟩
      rw [mIdx_here (by omega) (by assumption) hI]
      rfl
    | false =>
      refine c_if false rfl ?_
      refine c_skip ?_
      refine q_block_normal (q_then_normal ?_)
      refine c_region ?_
      refine JL_run 2 [] [8, 7, 0, 1] 0 ⟨[(8, vI (((i : Nat) : Int) + 1)), (7, vI ((s.n : Nat) : Int)), (0, .v (.slice s.A s.n s.c)), (1, .fn 131 [])], []⟩ [inR (((i : Nat) : Int) + 1)] [] (by kernel_rfl) (oc (by unfold inR; omega) on) wn ?_
      refine l_nil (q_loop (x := (i : Nat)) ((i + 1) : Nat) ⟨by omega, fun j hj => by rcases Nat.lt_succ_iff_lt_or_eq.1 hj with h | h; exact hI j h; subst h; assumption⟩ (by omega) (s_start [8, 7, 0, 1] 0 (by kernel_rfl) rfl))
  | false =>
    have h1 := of_decide_eq_false h1
    refine c_if false rfl ?_
    refine c_exit ?_
    refine q_then_exit (q_then_exit (q_block_hit (q_then_normal ?_)))
    refine c_seq ?_
    refine c_region ?_
    refine JL_run 1 [] [4] 0 ⟨[(4, vI (-1))], []⟩ [] [] (by kernel_rfl) on wn ?_
    refine l_nil (q_then_normal ?_)
    refine c_ret ?_
    refine q_ret (.inl rfl) [vI (-1)] rfl (fun bs w hS => ?_)
    refine ⟨?_, hS.kp⟩
    rw [mIdx_none fun j hj => hI j (by omega)]
    rfl

theorem has_bytes {B : Nat → Prop} (s : Sl UInt8) (w : World) (hs : s.rd B w) : Calls Try.prog 130 #[.slice s.A s.n s.c, .func (.func 131) #[] #[]] w fun e w' => e = .returned (.bool (s.xs.any nameBad)) ∧ Kp [] w w' := by
  have oks := Sl.rd.ok hs
  have ncs := Sl.ok.nc oks
  have hns : s.n = s.xs.length := rfl
  refine calls_J 9 [] Try.func130 rfl rfl [] [] [] [.v (.slice s.A s.n s.c), .fn 131 []] [.slice s.A s.n s.c, .func (.func 131) #[] #[]] rfl rfl (WS.start w) ?_
  refine c_seq ?_
  refine c_region ?_
  refine JL_run 1 [] [0, 1] 0 ⟨[(0, .v (.slice s.A s.n s.c)), (1, .fn 131 [])], []⟩ [] [] (by kernel_rfl) on wn ?_
  refine l_nil (q_then_normal ?_)
  refine c_seq ?_
  refine c_region ?_
  refine JL_run 2 [] [6, 5] 0 ⟨[(6, .fn 131 []), (5, .v (.slice s.A s.n s.c))], []⟩ [] [] (by kernel_rfl) on wn ?_
  refine l_pure 153 [] [.v (.slice s.A s.n s.c), .fn 131 []] (.int .i64 (mIdx nameBad s.xs)) Try.call153 rfl rfl rfl rfl (fun bs w hS => idx_bytes _ w (Sl.rd.kp hs hS.kp)) ?_
  refine JL_run 2 [] [4] 0 ⟨[(4, vB (decide ((0 : Int) ≤ mIdx nameBad s.xs)))], []⟩ [] [] (by kernel_rfl) on wn ?_
  refine l_nil (q_then_normal ?_)
  refine c_ret ?_
  refine q_ret (.inl rfl) [vB (decide ((0 : Int) ≤ mIdx nameBad s.xs))] rfl (fun bs w hS => ?_)
  refine ⟨?_, hS.kp⟩
  simp only [retOf, den, List.map_cons, List.map_nil, mIdx_nonneg]

theorem lock_Name (s : ByteArray) (w : World) (hs : s.size ≤ 9223372036854775807) : Calls Try.prog 90 #[.string s] w fun e w' => e = .returned (.bool (mName s)) ∧ Kp [] w w' := by
  refine calls_J0 16 Try.func90 rfl rfl [.string s] rfl ?_
  refine c_seq ?_
  refine c_region ?_
  refine JL_run 1 [] [0] 0 ⟨[(0, vS s)], []⟩ [] [] (by kernel_rfl) on wn ?_
  refine l_nil (q_then_normal ?_)
  refine c_seq ?_
  refine c_region ?_
  refine JL_run 3 [] [5, 0] 0 ⟨[(5, vB (!(decide (s = emp)))), (0, vS s)], []⟩ [] [] (by kernel_rfl) on wn ?_
  cases h1 : decide (s = emp) with
  | true =>
    have h1 := of_decide_eq_true h1
    refine JL_run 11 [] [2] 0 ⟨[(2, vB false)], []⟩ [] [] (by kernel_rfl) on wn ?_
    refine l_nil (q_then_normal ?_)
    refine c_ret ?_
    refine q_ret (.inl rfl) [vB false] rfl (fun bs w hS => ?_)
    refine ⟨?_, hS.kp⟩
    simp [retOf, den, mName, *]
  | false =>
    have h1 := of_decide_eq_false h1
    refine JL_run 5 [] [10, 0] 0 ⟨[(10, vB (decide ((s.size : Int) ≤ 6))), (0, vS s)], []⟩ [] [] (by kernel_rfl) on wn ?_
    cases h2 : decide ((s.size : Int) ≤ 6) with
    | true =>
      have h2 := of_decide_eq_true h2
      refine JL_run 1 [] [11, 10] 0 ⟨[(11, vS s), (10, vB true)], []⟩ [] [] (by kernel_rfl) on wn ?_
      refine l_strbytes 5 s Try.underlying9 Try.underlying163 Try.underlying5 (by unfold maxLen; omega) rfl rfl rfl ?_
      rintro fp1 y1 hF1 hok1
      refine l_pure 130 [] [.v (.slice y1.A y1.n y1.c), .fn 131 []] (.bool (y1.xs.any nameBad)) Try.call130 rfl rfl rfl rfl (fun bs w hS => has_bytes _ w (hS.res _ (.head _))) ?_
      refine JL_run 3 [] [2] 0 ⟨[(2, vB (!(y1.xs.any nameBad)))], []⟩ [] [] (by kernel_rfl) on wn ?_
      refine l_nil (q_then_normal ?_)
      refine c_ret ?_
      refine q_ret (.inl rfl) [vB (!(y1.xs.any nameBad))] rfl (fun bs w hS => ?_)
      refine ⟨?_, hS.kp⟩
      simp [retOf, den, mName, *]
    | false =>
      have h2 := of_decide_eq_false h2
      refine JL_run 6 [] [2] 0 ⟨[(2, vB false)], []⟩ [] [] (by kernel_rfl) on wn ?_
      refine l_nil (q_then_normal ?_)
      refine c_ret ?_
      refine q_ret (.inl rfl) [vB false] rfl (fun bs w hS => ?_)
      refine ⟨?_, hS.kp⟩
      simp [retOf, den, mName, *]

theorem ref_NameMay (s : ByteArray) (w : World) (hs : s.size ≤ 9223372036854775807) : Calls Try.prog 95 #[.string s] w fun e w' => e = .returned (.bool (mName s)) ∧ Kp [] w w' := by
  refine calls_J0 19 Try.func95 rfl rfl [.string s] rfl ?_
  refine c_seq ?_
  refine c_region ?_
  refine JL_run 1 [] [0] 0 ⟨[(0, vS s)], []⟩ [] [] (by kernel_rfl) on wn ?_
  refine l_nil (q_then_normal ?_)
  refine c_seq ?_
  refine c_seq ?_
  refine c_region ?_
  refine JL_run 1 [] [3, 0] 0 ⟨[(3, vI 0), (0, vS s)], []⟩ [] [] (by kernel_rfl) on wn ?_
  refine l_nil (q_then_normal ?_)
  refine c_block ?_
  refine c_loop (σ := Nat) (fun i => i ≤ s.size ∧ ∀ j, j < i → nameBad (s.data.getD j 0) = false) (fun i => s.size - i) (fun i => []) (fun i => ⟨[(3, vI ((i : Nat) : Int)), (0, vS s)], []⟩) 0 ⟨Nat.zero_le _, fun j hj => absurd hj (Nat.not_lt_zero _)⟩ (s_start [3, 0] 0 (by kernel_rfl) rfl) ?_
  rintro i ⟨hi, hI⟩
  have hu := (s.data.getD i 0).toNat_lt
  refine c_seq ?_
  refine c_seq ?_
  refine c_region ?_
  refine JL_run 4 [] [7, 3, 0] 0 ⟨[(7, vB (decide (((i : Nat) : Int) < (s.size : Int)))), (3, vI ((i : Nat) : Int)), (0, vS s)], []⟩ [] [] (by kernel_rfl) on wn ?_
  refine l_nil (q_then_normal ?_)
  cases h1 : decide (((i : Nat) : Int) < (s.size : Int)) with
  | true =>
    have h1 := of_decide_eq_true h1
    refine c_if true rfl ?_
    refine c_skip ?_
    refine q_then_normal ?_
    refine c_seq ?_
    refine c_block ?_
    refine c_seq ?_
    refine c_region ?_
    refine JL_run 4 [(2, .sidx i)] [13, 3, 0] 0 ⟨[(13, vI ((s.data.getD i 0).toNat : Int)), (3, vI ((i : Nat) : Int)), (0, vS s)], []⟩ [((i : Nat) : Int) = ((i : Nat) : Int), i < s.size, 0 ≤ ((s.data.getD i 0).toNat : Int), ((s.data.getD i 0).toNat : Int) ≤ 255] [] (by kernel_rfl) (oc rfl (oc (by omega) (oc (by omega) (oc (by omega) on)))) wn ?_
    refine l_pure 64 [] [vI ((s.data.getD i 0).toNat : Int), vI 97, vI 122] (.bool (inB ((s.data.getD i 0).toNat : Int) 97 122)) Try.call64 rfl rfl rfl rfl (fun bs w hS => ref_In _ _ _ w) ?_
    refine JL_run 1 [] [15, 3, 0] 0 ⟨[(15, vB (!(inB ((s.data.getD i 0).toNat : Int) 97 122))), (3, vI ((i : Nat) : Int)), (0, vS s)], []⟩ [] [] (by kernel_rfl) on wn ?_
    refine l_nil (q_then_normal ?_)
    cases h2 : inB ((s.data.getD i 0).toNat : Int) 97 122 with
    | true =>
      refine c_if false rfl ?_
      refine c_skip ?_
      refine q_block_normal (q_then_normal ?_)
      refine c_region ?_
      refine JL_run 3 [] [3, 0] 0 ⟨[(3, vI (((i : Nat) : Int) + 1)), (0, vS s)], []⟩ [inR (((i : Nat) : Int) + 1)] [] (by kernel_rfl) (oc (by unfold inR; omega) on) wn ?_
      refine l_nil (q_loop (x := (i : Nat)) ((i + 1) : Nat) ⟨by omega, fun j hj => by rcases Nat.lt_succ_iff_lt_or_eq.1 hj with h | h; exact hI j h; subst h; simp only [inB, nameBad, Bool.and_eq_true, Bool.or_eq_false_iff, decide_eq_true_eq, decide_eq_false_iff_not] at *; omega⟩ (by omega) (s_start [3, 0] 0 (by kernel_rfl) rfl))
    | false =>
      refine c_if true rfl ?_
      refine c_seq ?_
      refine c_region ?_
      refine JL_run 1 [] [2] 0 ⟨[(2, vB false)], []⟩ [] [] (by kernel_rfl) on wn ?_
      refine l_nil (q_then_normal ?_)
      refine c_ret ?_
      refine q_block_ret (q_then_ret (q_then_ret (q_block_ret (q_then_ret (q_ret (.inl rfl) [vB false] rfl (fun bs w hS => ?_))))))
      refine ⟨?_, hS.kp⟩
      rw [mName_bad (i := i) (by omega) (by simp only [inB, nameBad, Bool.and_eq_false_iff, Bool.or_eq_true, decide_eq_true_eq, decide_eq_false_iff_not] at *; omega)]
      rfl
  | false =>
    have h1 := of_decide_eq_false h1
    refine c_if false rfl ?_
    refine c_exit ?_
    refine q_then_exit (q_then_exit (q_block_hit (q_then_normal ?_)))
    refine c_seq ?_
    refine c_region ?_
    refine JL_run 2 [] [17] 0 ⟨[(17, vI (s.size : Int))], []⟩ [] [] (by kernel_rfl) on wn ?_
    refine l_pure 64 [] [vI (s.size : Int), vI 1, vI 6] (.bool (inB (s.size : Int) 1 6)) Try.call64 rfl rfl rfl rfl (fun bs w hS => ref_In _ _ _ w) ?_
    refine JL_run 1 [] [2] 0 ⟨[(2, vB (inB (s.size : Int) 1 6))], []⟩ [] [] (by kernel_rfl) on wn ?_
    refine l_nil (q_then_normal ?_)
    refine c_ret ?_
    refine q_ret (.inl rfl) [vB (inB (s.size : Int) 1 6)] rfl (fun bs w hS => ?_)
    refine ⟨?_, hS.kp⟩
    simp only [retOf, den, List.map_cons, List.map_nil, mName_good fun j hj => hI j (by omega)]

theorem codec_ReadNumber (s : ByteArray) (w : World) (hs : s.size ≤ 9223372036854775807) : Calls Try.prog 147 #[.string s] w fun e w' => e = .returned (.tuple #[.int .i64 (mRead s).1, .string (mRead s).2.1, .int .i64 (mRead s).2.2]) ∧ Kp [] w w' := by
  refine calls_J0 46 Try.func147 rfl rfl [.string s] rfl ?_
  refine c_seq ?_
  refine c_region ?_
  refine JL_run 3 [] [0] 0 ⟨[(0, vS s)], []⟩ [] [] (by kernel_rfl) on wn ?_
  refine l_nil (q_then_normal ?_)
  refine c_seq ?_
  refine c_region ?_
  refine JL_run 1 [] [5, 0] 0 ⟨[(5, vI 0), (0, vS s)], []⟩ [] [] (by kernel_rfl) on wn ?_
  refine l_nil (q_then_normal ?_)
  refine c_seq ?_
  refine c_seq ?_
  refine c_region ?_
  refine JL_run 1 [] [6, 5, 0] 0 ⟨[(6, vI 0), (5, vI 0), (0, vS s)], []⟩ [] [] (by kernel_rfl) on wn ?_
  refine l_nil (q_then_normal ?_)
  refine c_block ?_
  refine c_loop (σ := Nat × Int) (fun ⟨i, n⟩ => RdIn s i n) (fun ⟨i, n⟩ => 6 - i) (fun ⟨i, n⟩ => []) (fun ⟨i, n⟩ => ⟨[(6, vI ((i : Nat) : Int)), (5, vI n), (0, vS s)], []⟩) ⟨0, 0⟩ (RdIn.start s) (s_start [6, 5, 0] 0 (by kernel_rfl) rfl) ?_
  rintro ⟨i, n⟩ hI
  have hle := hI.le
  have hsz := hI.sz
  have hlo := hI.lo
  have hhi := hI.hi
  have hu := (s.data.getD i 0).toNat_lt
  have hbt := and127_bd (s.data.getD i 0)
  refine c_seq ?_
  refine c_seq ?_
  refine c_region ?_
  refine JL_run 2 [] [8, 6, 5, 0] 0 ⟨[(8, vB (decide (((i : Nat) : Int) < 6))), (6, vI ((i : Nat) : Int)), (5, vI n), (0, vS s)], []⟩ [] [] (by kernel_rfl) on wn ?_
  refine l_nil (q_then_normal ?_)
  cases h1 : decide (((i : Nat) : Int) < 6) with
  | true =>
    have h1 := of_decide_eq_true h1
    refine c_if true rfl ?_
    refine c_skip ?_
    refine q_then_normal ?_
    refine c_seq ?_
    refine c_block ?_
    refine c_seq ?_
    refine c_seq ?_
    refine c_region ?_
    refine JL_run 4 [] [14, 6, 5, 0] 0 ⟨[(14, vB (decide (((i : Nat) : Int) = (s.size : Int)))), (6, vI ((i : Nat) : Int)), (5, vI n), (0, vS s)], []⟩ [] [] (by kernel_rfl) on wn ?_
    refine l_nil (q_then_normal ?_)
    cases h2 : decide (((i : Nat) : Int) = (s.size : Int)) with
    | true =>
      have h2 := of_decide_eq_true h2
      refine c_if true rfl ?_
      refine c_seq ?_
      refine c_region ?_
      refine JL_run 3 [] [4, 3, 2] 0 ⟨[(4, vI 5), (3, vS emp), (2, vI 0)], []⟩ [] [] (by kernel_rfl) on wn ?_
      refine l_nil (q_then_normal ?_)
      refine c_ret ?_
      refine q_then_ret (q_block_ret (q_then_ret (q_then_ret (q_block_ret (q_then_ret (q_ret (.inl rfl) [vI 0, vS emp, vI 5] rfl (fun bs w hS => ?_)))))))
      refine ⟨?_, hS.kp⟩
      rw [hI.short (by omega) (by omega)]
      simp only [retOf, den, List.map_cons, List.map_nil]
    | false =>
      have h2 := of_decide_eq_false h2
      refine c_if false rfl ?_
      refine c_skip ?_
      refine q_then_normal ?_
      refine c_seq ?_
      refine c_region ?_
      refine JL_run 11 [(3, .sidx i)] [5, 6, 0] 0 ⟨[(5, vI (bits .or .i64 n (IntKind.i64.wrap ((bits .and .u8 ((s.data.getD i 0).toNat : Int) 127) * 2 ^ ((7 : Int) * ((i : Nat) : Int) : Int).toNat)))), (6, vI ((i : Nat) : Int)), (0, vS s)], []⟩ [((i : Nat) : Int) = ((i : Nat) : Int), i < s.size, 0 ≤ (bits .and .u8 ((s.data.getD i 0).toNat : Int) 127), (bits .and .u8 ((s.data.getD i 0).toNat : Int) 127) ≤ 255, inR ((7 : Int) * ((i : Nat) : Int)), (0 : Int) ≤ (7 : Int) * ((i : Nat) : Int), (7 : Int) * ((i : Nat) : Int) ≤ (64 : Int)] [] (by kernel_rfl) (oc rfl (oc (by omega) (oc (by omega) (oc (by omega) (oc (by unfold inR; omega) (oc (by omega) (oc (by omega) on))))))) wn ?_
      refine l_nil (q_then_normal ?_)
      refine c_seq ?_
      refine c_seq ?_
      refine c_region ?_
      refine JL_run 4 [(2, .sidx i)] [28, 5, 6, 0] 0 ⟨[(28, vB (decide ((128 : Int) ≤ ((s.data.getD i 0).toNat : Int)))), (5, vI (bits .or .i64 n (IntKind.i64.wrap ((bits .and .u8 ((s.data.getD i 0).toNat : Int) 127) * 2 ^ ((7 : Int) * ((i : Nat) : Int) : Int).toNat)))), (6, vI ((i : Nat) : Int)), (0, vS s)], []⟩ [((i : Nat) : Int) = ((i : Nat) : Int), i < s.size] [] (by kernel_rfl) (oc rfl (oc (by omega) on)) wn ?_
      refine l_nil (q_then_normal ?_)
      cases h3 : decide ((128 : Int) ≤ ((s.data.getD i 0).toNat : Int)) with
      | true =>
        have h3 := of_decide_eq_true h3
        refine c_if true rfl ?_
        refine c_exit ?_
        refine q_then_exit (q_block_hit (q_then_normal ?_))
        refine c_region ?_
        refine JL_run 3 [] [6, 5, 0] 0 ⟨[(6, vI (((i : Nat) : Int) + 1)), (5, vI (bits .or .i64 n (IntKind.i64.wrap ((bits .and .u8 ((s.data.getD i 0).toNat : Int) 127) * 2 ^ ((7 : Int) * ((i : Nat) : Int) : Int).toNat)))), (0, vS s)], []⟩ [inR (((i : Nat) : Int) + 1)] [] (by kernel_rfl) (oc (by unfold inR; omega) on) wn ?_
        refine l_nil (q_loop (x := (⟨i, n⟩ : Nat × Int)) (⟨i + 1, bits .or .i64 n (IntKind.i64.wrap ((bits .and .u8 ((s.data.getD i 0).toNat : Int) 127) * 2 ^ ((7 : Int) * ((i : Nat) : Int) : Int).toNat))⟩ : Nat × Int) (by show RdIn s (i + 1) _; rw [or_shift s i n hI.lo hI.hi (by omega)]; exact hI.step (by omega) (by omega) (by omega)) (by show 6 - (i + 1) < 6 - i; omega) (s_start [6, 5, 0] 0 (by kernel_rfl) rfl))
      | false =>
        have h3 := of_decide_eq_false h3
        refine c_if false rfl ?_
        refine c_skip ?_
        refine q_then_normal ?_
        refine c_seq ?_
        refine c_seq ?_
        refine c_region ?_
        refine JL_run 5 [(2, .sidx i)] [33, 5, 6, 0] 0 ⟨[(33, vB (decide (((s.data.getD i 0).toNat : Int) = 0))), (5, vI (bits .or .i64 n (IntKind.i64.wrap ((bits .and .u8 ((s.data.getD i 0).toNat : Int) 127) * 2 ^ ((7 : Int) * ((i : Nat) : Int) : Int).toNat)))), (6, vI ((i : Nat) : Int)), (0, vS s)], []⟩ [((i : Nat) : Int) = ((i : Nat) : Int), i < s.size] [] (by kernel_rfl) (oc rfl (oc (by omega) on)) wn ?_
        cases h4 : decide (((s.data.getD i 0).toNat : Int) = 0) with
        | true =>
          have h4 := of_decide_eq_true h4
          refine JL_run 4 [] [37, 5, 6, 0] 0 ⟨[(37, vB (decide ((0 : Int) < ((i : Nat) : Int)))), (5, vI (bits .or .i64 n (IntKind.i64.wrap ((bits .and .u8 ((s.data.getD i 0).toNat : Int) 127) * 2 ^ ((7 : Int) * ((i : Nat) : Int) : Int).toNat)))), (6, vI ((i : Nat) : Int)), (0, vS s)], []⟩ [] [] (by kernel_rfl) on wn ?_
          cases h5 : decide ((0 : Int) < ((i : Nat) : Int)) with
          | true =>
            have h5 := of_decide_eq_true h5
            refine JL_run 3 [] [40, 5, 6, 0] 0 ⟨[(40, vB true), (5, vI (bits .or .i64 n (IntKind.i64.wrap ((bits .and .u8 ((s.data.getD i 0).toNat : Int) 127) * 2 ^ ((7 : Int) * ((i : Nat) : Int) : Int).toNat)))), (6, vI ((i : Nat) : Int)), (0, vS s)], []⟩ [] [] (by kernel_rfl) on wn ?_
            refine l_nil (q_then_normal ?_)
            refine c_if true rfl ?_
            refine c_seq ?_
            refine c_region ?_
            refine JL_run 3 [] [4, 3, 2] 0 ⟨[(4, vI 4), (3, vS emp), (2, vI 0)], []⟩ [] [] (by kernel_rfl) on wn ?_
            refine l_nil (q_then_normal ?_)
            refine c_ret ?_
            refine q_then_ret (q_block_ret (q_then_ret (q_then_ret (q_block_ret (q_then_ret (q_ret (.inl rfl) [vI 0, vS emp, vI 4] rfl (fun bs w hS => ?_)))))))
            refine ⟨?_, hS.kp⟩
            have hor := or_shift s i n hI.lo hI.hi (by omega)
            try rw [hor] at h5
            try rw [hor]
            rw [hI.last (by omega) (by omega) (by omega), if_pos (by omega)]
            simp only [retOf, den, List.map_cons, List.map_nil]
          | false =>
            have h5 := of_decide_eq_false h5
            refine JL_run 3 [] [40, 5, 6, 0] 0 ⟨[(40, vB (decide ((1099511627776 : Int) < bits .or .i64 n (IntKind.i64.wrap ((bits .and .u8 ((s.data.getD i 0).toNat : Int) 127) * 2 ^ ((7 : Int) * ((i : Nat) : Int) : Int).toNat))))), (5, vI (bits .or .i64 n (IntKind.i64.wrap ((bits .and .u8 ((s.data.getD i 0).toNat : Int) 127) * 2 ^ ((7 : Int) * ((i : Nat) : Int) : Int).toNat)))), (6, vI ((i : Nat) : Int)), (0, vS s)], []⟩ [] [] (by kernel_rfl) on wn ?_
            refine l_nil (q_then_normal ?_)
            cases h6 : decide ((1099511627776 : Int) < bits .or .i64 n (IntKind.i64.wrap ((bits .and .u8 ((s.data.getD i 0).toNat : Int) 127) * 2 ^ ((7 : Int) * ((i : Nat) : Int) : Int).toNat))) with
            | true =>
              have h6 := of_decide_eq_true h6
              refine c_if true rfl ?_
              refine c_seq ?_
              refine c_region ?_
              refine JL_run 3 [] [4, 3, 2] 0 ⟨[(4, vI 4), (3, vS emp), (2, vI 0)], []⟩ [] [] (by kernel_rfl) on wn ?_
              refine l_nil (q_then_normal ?_)
              refine c_ret ?_
              refine q_then_ret (q_block_ret (q_then_ret (q_then_ret (q_block_ret (q_then_ret (q_ret (.inl rfl) [vI 0, vS emp, vI 4] rfl (fun bs w hS => ?_)))))))
              refine ⟨?_, hS.kp⟩
              have hor := or_shift s i n hI.lo hI.hi (by omega)
              try rw [hor] at h6
              try rw [hor]
              rw [hI.last (by omega) (by omega) (by omega), if_pos (by omega)]
              simp only [retOf, den, List.map_cons, List.map_nil]
            | false =>
              have h6 := of_decide_eq_false h6
              refine c_if false rfl ?_
              refine c_skip ?_
              refine q_then_normal ?_
              refine c_seq ?_
              refine c_draw 8 [] (.p 0 (.p 1 (.p 2 (.p 3 (.p 4 (.p 5 (.p 6 (.p 7 .nil)))))))) [] [] Try_mixed (by kernel_rfl) (pq_then (pq_block (pq_then (pq_then (pq_block (pq_then pq_body)))))) .slnil ?_
              refine h_quiet [(4, .sl (i + 1) s.size)] [(0, true), (1, true), (2, true), (3, true), (4, true), (5, true), (6, true), (7, true)] [(4, vI 0), (3, vS (s.extract (i + 1) s.size)), (2, vI (bits .or .i64 n (IntKind.i64.wrap ((bits .and .u8 ((s.data.getD i 0).toNat : Int) 127) * 2 ^ ((7 : Int) * ((i : Nat) : Int) : Int).toNat)))), (45, vS (s.extract (i + 1) s.size)), (44, vI (((i : Nat) : Int) + 1)), (43, vI ((i : Nat) : Int)), (42, vS s), (41, vI (bits .or .i64 n (IntKind.i64.wrap ((bits .and .u8 ((s.data.getD i 0).toNat : Int) 127) * 2 ^ ((7 : Int) * ((i : Nat) : Int) : Int).toNat)))), (40, vB false), (5, vI (bits .or .i64 n (IntKind.i64.wrap ((bits .and .u8 ((s.data.getD i 0).toNat : Int) 127) * 2 ^ ((7 : Int) * ((i : Nat) : Int) : Int).toNat)))), (6, vI ((i : Nat) : Int)), (0, vS s)] [inR (((i : Nat) : Int) + 1), ((i : Nat) : Int) + 1 = (((i + 1) : Nat) : Int), s.size = s.size, (i + 1) ≤ s.size] [] rfl (by kernel_rfl) (oc (by unfold inR; omega) (oc (by omega) (oc rfl (oc (by omega) on)))) wn ?_
              refine h_nil ?_
              refine l_nil (q_then_normal ?_)
              refine c_ret ?_
              refine q_block_ret (q_then_ret (q_then_ret (q_block_ret (q_then_ret (q_ret (.inl rfl) [vI (bits .or .i64 n (IntKind.i64.wrap ((bits .and .u8 ((s.data.getD i 0).toNat : Int) 127) * 2 ^ ((7 : Int) * ((i : Nat) : Int) : Int).toNat))), vS (s.extract (i + 1) s.size), vI 0] rfl (fun bs w hS => ?_))))))
              refine ⟨?_, hS.kp⟩
              have hor := or_shift s i n hI.lo hI.hi (by omega)
              try rw [hor] at h6
              try rw [hor]
              rw [hI.last (by omega) (by omega) (by omega), if_neg (by omega)]
              simp only [retOf, den, List.map_cons, List.map_nil]
        | false =>
          have h4 := of_decide_eq_false h4
          refine JL_run 7 [] [40, 5, 6, 0] 0 ⟨[(40, vB (decide ((1099511627776 : Int) < bits .or .i64 n (IntKind.i64.wrap ((bits .and .u8 ((s.data.getD i 0).toNat : Int) 127) * 2 ^ ((7 : Int) * ((i : Nat) : Int) : Int).toNat))))), (5, vI (bits .or .i64 n (IntKind.i64.wrap ((bits .and .u8 ((s.data.getD i 0).toNat : Int) 127) * 2 ^ ((7 : Int) * ((i : Nat) : Int) : Int).toNat)))), (6, vI ((i : Nat) : Int)), (0, vS s)], []⟩ [] [] (by kernel_rfl) on wn ?_
          refine l_nil (q_then_normal ?_)
          cases h7 : decide ((1099511627776 : Int) < bits .or .i64 n (IntKind.i64.wrap ((bits .and .u8 ((s.data.getD i 0).toNat : Int) 127) * 2 ^ ((7 : Int) * ((i : Nat) : Int) : Int).toNat))) with
          | true =>
            have h7 := of_decide_eq_true h7
            refine c_if true rfl ?_
            refine c_seq ?_
            refine c_region ?_
            refine JL_run 3 [] [4, 3, 2] 0 ⟨[(4, vI 4), (3, vS emp), (2, vI 0)], []⟩ [] [] (by kernel_rfl) on wn ?_
            refine l_nil (q_then_normal ?_)
            refine c_ret ?_
            refine q_then_ret (q_block_ret (q_then_ret (q_then_ret (q_block_ret (q_then_ret (q_ret (.inl rfl) [vI 0, vS emp, vI 4] rfl (fun bs w hS => ?_)))))))
            refine ⟨?_, hS.kp⟩
            have hor := or_shift s i n hI.lo hI.hi (by omega)
            try rw [hor] at h7
            try rw [hor]
            rw [hI.last (by omega) (by omega) (by omega), if_pos (by omega)]
            simp only [retOf, den, List.map_cons, List.map_nil]
          | false =>
            have h7 := of_decide_eq_false h7
            refine c_if false rfl ?_
            refine c_skip ?_
            refine q_then_normal ?_
            refine c_seq ?_
            refine c_draw 8 [] (.p 0 (.p 1 (.p 2 (.p 3 (.p 4 (.p 5 (.p 6 (.p 7 .nil)))))))) [] [] Try_mixed (by kernel_rfl) (pq_then (pq_block (pq_then (pq_then (pq_block (pq_then pq_body)))))) .slnil ?_
            refine h_quiet [(4, .sl (i + 1) s.size)] [(0, true), (1, true), (2, true), (3, true), (4, true), (5, true), (6, true), (7, true)] [(4, vI 0), (3, vS (s.extract (i + 1) s.size)), (2, vI (bits .or .i64 n (IntKind.i64.wrap ((bits .and .u8 ((s.data.getD i 0).toNat : Int) 127) * 2 ^ ((7 : Int) * ((i : Nat) : Int) : Int).toNat)))), (45, vS (s.extract (i + 1) s.size)), (44, vI (((i : Nat) : Int) + 1)), (43, vI ((i : Nat) : Int)), (42, vS s), (41, vI (bits .or .i64 n (IntKind.i64.wrap ((bits .and .u8 ((s.data.getD i 0).toNat : Int) 127) * 2 ^ ((7 : Int) * ((i : Nat) : Int) : Int).toNat)))), (40, vB false), (5, vI (bits .or .i64 n (IntKind.i64.wrap ((bits .and .u8 ((s.data.getD i 0).toNat : Int) 127) * 2 ^ ((7 : Int) * ((i : Nat) : Int) : Int).toNat)))), (6, vI ((i : Nat) : Int)), (0, vS s)] [inR (((i : Nat) : Int) + 1), ((i : Nat) : Int) + 1 = (((i + 1) : Nat) : Int), s.size = s.size, (i + 1) ≤ s.size] [] rfl (by kernel_rfl) (oc (by unfold inR; omega) (oc (by omega) (oc rfl (oc (by omega) on)))) wn ?_
            refine h_nil ?_
            refine l_nil (q_then_normal ?_)
            refine c_ret ?_
            refine q_block_ret (q_then_ret (q_then_ret (q_block_ret (q_then_ret (q_ret (.inl rfl) [vI (bits .or .i64 n (IntKind.i64.wrap ((bits .and .u8 ((s.data.getD i 0).toNat : Int) 127) * 2 ^ ((7 : Int) * ((i : Nat) : Int) : Int).toNat))), vS (s.extract (i + 1) s.size), vI 0] rfl (fun bs w hS => ?_))))))
            refine ⟨?_, hS.kp⟩
            have hor := or_shift s i n hI.lo hI.hi (by omega)
            try rw [hor] at h7
            try rw [hor]
            rw [hI.last (by omega) (by omega) (by omega), if_neg (by omega)]
            simp only [retOf, den, List.map_cons, List.map_nil]
  | false =>
    have h1 := of_decide_eq_false h1
    refine c_if false rfl ?_
    refine c_exit ?_
    refine q_then_exit (q_then_exit (q_block_hit (q_then_normal ?_)))
    refine c_seq ?_
    refine c_region ?_
    refine JL_run 3 [] [4, 3, 2] 0 ⟨[(4, vI 4), (3, vS emp), (2, vI 0)], []⟩ [] [] (by kernel_rfl) on wn ?_
    refine l_nil (q_then_normal ?_)
    refine c_ret ?_
    refine q_ret (.inl rfl) [vI 0, vS emp, vI 4] rfl (fun bs w hS => ?_)
    refine ⟨?_, hS.kp⟩
    rw [hI.out (by omega)]
    simp only [retOf, den, List.map_cons, List.map_nil]

theorem ref_NumberOf (s : ByteArray) (w : World) (hs : s.size ≤ 9223372036854775807) : Calls Try.prog 116 #[.string s] w fun e w' => e = .returned (.tuple #[.int .i64 (mRead s).1, .string (mRead s).2.1, .int .i64 (mRead s).2.2]) ∧ Kp [] w w' := by
  refine calls_J0 48 Try.func116 rfl rfl [.string s] rfl ?_
  refine c_seq ?_
  refine c_region ?_
  refine JL_run 3 [] [0] 0 ⟨[(0, vS s)], []⟩ [] [] (by kernel_rfl) on wn ?_
  refine l_nil (q_then_normal ?_)
  refine c_seq ?_
  refine c_region ?_
  refine JL_run 1 [] [5, 0] 0 ⟨[(5, vI 0), (0, vS s)], []⟩ [] [] (by kernel_rfl) on wn ?_
  refine l_nil (q_then_normal ?_)
  refine c_seq ?_
  refine c_region ?_
  refine JL_run 1 [] [6, 5, 0] 0 ⟨[(6, vI 1), (5, vI 0), (0, vS s)], []⟩ [] [] (by kernel_rfl) on wn ?_
  refine l_nil (q_then_normal ?_)
  refine c_seq ?_
  refine c_seq ?_
  refine c_region ?_
  refine JL_run 1 [] [7, 6, 5, 0] 0 ⟨[(7, vI 0), (6, vI 1), (5, vI 0), (0, vS s)], []⟩ [] [] (by kernel_rfl) on wn ?_
  refine l_nil (q_then_normal ?_)
  refine c_block ?_
  refine c_loop (σ := Nat × Int) (fun ⟨i, n⟩ => RdIn s i n) (fun ⟨i, n⟩ => 6 - i) (fun ⟨i, n⟩ => []) (fun ⟨i, n⟩ => ⟨[(7, vI ((i : Nat) : Int)), (6, vI ((128 : Int) ^ i)), (5, vI n), (0, vS s)], []⟩) ⟨0, 0⟩ (RdIn.start s) (s_start [7, 6, 5, 0] 0 (by kernel_rfl) rfl) ?_
  rintro ⟨i, n⟩ hI
  have hle := hI.le
  have hsz := hI.sz
  have hlo := hI.lo
  have hhi := hI.hi
  have hu := (s.data.getD i 0).toNat_lt
  have hbt := unit_bd (s.data.getD i 0) i hle
  refine c_seq ?_
  refine c_seq ?_
  refine c_region ?_
  refine JL_run 2 [] [9, 7, 6, 5, 0] 0 ⟨[(9, vB (decide (((i : Nat) : Int) < 6))), (7, vI ((i : Nat) : Int)), (6, vI ((128 : Int) ^ i)), (5, vI n), (0, vS s)], []⟩ [] [] (by kernel_rfl) on wn ?_
  refine l_nil (q_then_normal ?_)
  cases h1 : decide (((i : Nat) : Int) < 6) with
  | true =>
    have h1 := of_decide_eq_true h1
    refine c_if true rfl ?_
    refine c_skip ?_
    refine q_then_normal ?_
    refine c_seq ?_
    refine c_block ?_
    refine c_seq ?_
    refine c_seq ?_
    refine c_region ?_
    refine JL_run 4 [] [15, 7, 6, 5, 0] 0 ⟨[(15, vB (decide ((s.size : Int) ≤ ((i : Nat) : Int)))), (7, vI ((i : Nat) : Int)), (6, vI ((128 : Int) ^ i)), (5, vI n), (0, vS s)], []⟩ [] [] (by kernel_rfl) on wn ?_
    refine l_nil (q_then_normal ?_)
    cases h2 : decide ((s.size : Int) ≤ ((i : Nat) : Int)) with
    | true =>
      have h2 := of_decide_eq_true h2
      refine c_if true rfl ?_
      refine c_seq ?_
      refine c_region ?_
      refine JL_run 3 [] [4, 3, 2] 0 ⟨[(4, vI 5), (3, vS emp), (2, vI 0)], []⟩ [] [] (by kernel_rfl) on wn ?_
      refine l_nil (q_then_normal ?_)
      refine c_ret ?_
      refine q_then_ret (q_block_ret (q_then_ret (q_then_ret (q_block_ret (q_then_ret (q_ret (.inl rfl) [vI 0, vS emp, vI 5] rfl (fun bs w hS => ?_)))))))
      refine ⟨?_, hS.kp⟩
      rw [hI.short (by omega) (by omega)]
      simp only [retOf, den, List.map_cons, List.map_nil]
    | false =>
      have h2 := of_decide_eq_false h2
      refine c_if false rfl ?_
      refine c_skip ?_
      refine q_then_normal ?_
      refine c_seq ?_
      refine c_region ?_
      refine JL_run 10 [(4, .sidx i)] [5, 7, 6, 0] 0 ⟨[(5, vI (n + (((128 : Int) ^ i) * (((s.data.getD i 0).toNat : Int) % 128)))), (7, vI ((i : Nat) : Int)), (6, vI ((128 : Int) ^ i)), (0, vS s)], []⟩ [((i : Nat) : Int) = ((i : Nat) : Int), i < s.size, 0 ≤ ((s.data.getD i 0).toNat : Int), ((s.data.getD i 0).toNat : Int) ≤ 255, 0 ≤ ((s.data.getD i 0).toNat : Int), (0 : Int) < 128, inR (((128 : Int) ^ i) * (((s.data.getD i 0).toNat : Int) % 128)), inR (n + (((128 : Int) ^ i) * (((s.data.getD i 0).toNat : Int) % 128)))] [] (by kernel_rfl) (oc rfl (oc (by omega) (oc (by omega) (oc (by omega) (oc (by omega) (oc (by omega) (oc (by unfold inR; omega) (oc (by unfold inR; omega) on)))))))) wn ?_
      refine l_nil (q_then_normal ?_)
      refine c_seq ?_
      refine c_region ?_
      refine JL_run 3 [] [6, 5, 7, 0] 0 ⟨[(6, vI (((128 : Int) ^ i) * 128)), (5, vI (n + (((128 : Int) ^ i) * (((s.data.getD i 0).toNat : Int) % 128)))), (7, vI ((i : Nat) : Int)), (0, vS s)], []⟩ [inR (((128 : Int) ^ i) * 128)] [] (by kernel_rfl) (oc (by unfold inR; omega) on) wn ?_
      refine l_nil (q_then_normal ?_)
      refine c_seq ?_
      refine c_region ?_
      refine JL_run 4 [(2, .sidx i)] [30, 6, 5, 7, 0] 0 ⟨[(30, vB (decide (((s.data.getD i 0).toNat : Int) < 128))), (6, vI (((128 : Int) ^ i) * 128)), (5, vI (n + (((128 : Int) ^ i) * (((s.data.getD i 0).toNat : Int) % 128)))), (7, vI ((i : Nat) : Int)), (0, vS s)], []⟩ [((i : Nat) : Int) = ((i : Nat) : Int), i < s.size] [] (by kernel_rfl) (oc rfl (oc (by omega) on)) wn ?_
      refine l_nil (q_then_normal ?_)
      cases h3 : decide (((s.data.getD i 0).toNat : Int) < 128) with
      | true =>
        have h3 := of_decide_eq_true h3
        refine c_if true rfl ?_
        refine c_seq ?_
        refine c_seq ?_
        refine c_region ?_
        refine JL_run 3 [] [33, 5, 7, 0] 0 ⟨[(33, vB (decide ((0 : Int) < ((i : Nat) : Int)))), (5, vI (n + (((128 : Int) ^ i) * (((s.data.getD i 0).toNat : Int) % 128)))), (7, vI ((i : Nat) : Int)), (0, vS s)], []⟩ [] [] (by kernel_rfl) on wn ?_
        cases h4 : decide ((0 : Int) < ((i : Nat) : Int)) with
        | true =>
          have h4 := of_decide_eq_true h4
          refine JL_run 6 [(2, .sidx i)] [39, 5, 7, 0] 0 ⟨[(39, vB (decide (((s.data.getD i 0).toNat : Int) = 0))), (5, vI (n + (((128 : Int) ^ i) * (((s.data.getD i 0).toNat : Int) % 128)))), (7, vI ((i : Nat) : Int)), (0, vS s)], []⟩ [((i : Nat) : Int) = ((i : Nat) : Int), i < s.size] [] (by kernel_rfl) (oc rfl (oc (by omega) on)) wn ?_
          cases h5 : decide (((s.data.getD i 0).toNat : Int) = 0) with
          | true =>
            have h5 := of_decide_eq_true h5
            refine JL_run 3 [] [42, 5, 7, 0] 0 ⟨[(42, vB true), (5, vI (n + (((128 : Int) ^ i) * (((s.data.getD i 0).toNat : Int) % 128)))), (7, vI ((i : Nat) : Int)), (0, vS s)], []⟩ [] [] (by kernel_rfl) on wn ?_
            refine l_nil (q_then_normal ?_)
            refine c_if true rfl ?_
            refine c_seq ?_
            refine c_region ?_
            refine JL_run 3 [] [4, 3, 2] 0 ⟨[(4, vI 4), (3, vS emp), (2, vI 0)], []⟩ [] [] (by kernel_rfl) on wn ?_
            refine l_nil (q_then_normal ?_)
            refine c_ret ?_
            refine q_then_ret (q_block_ret (q_then_ret (q_then_ret (q_block_ret (q_then_ret (q_ret (.inl rfl) [vI 0, vS emp, vI 4] rfl (fun bs w hS => ?_)))))))
            refine ⟨?_, hS.kp⟩
            rw [hI.last (by omega) (by omega) (by omega), if_pos (by omega)]
            simp only [retOf, den, List.map_cons, List.map_nil]
          | false =>
            have h5 := of_decide_eq_false h5
            refine JL_run 3 [] [42, 5, 7, 0] 0 ⟨[(42, vB (decide ((1099511627776 : Int) < n + (((128 : Int) ^ i) * (((s.data.getD i 0).toNat : Int) % 128))))), (5, vI (n + (((128 : Int) ^ i) * (((s.data.getD i 0).toNat : Int) % 128)))), (7, vI ((i : Nat) : Int)), (0, vS s)], []⟩ [] [] (by kernel_rfl) on wn ?_
            refine l_nil (q_then_normal ?_)
            cases h6 : decide ((1099511627776 : Int) < n + (((128 : Int) ^ i) * (((s.data.getD i 0).toNat : Int) % 128))) with
            | true =>
              have h6 := of_decide_eq_true h6
              refine c_if true rfl ?_
              refine c_seq ?_
              refine c_region ?_
              refine JL_run 3 [] [4, 3, 2] 0 ⟨[(4, vI 4), (3, vS emp), (2, vI 0)], []⟩ [] [] (by kernel_rfl) on wn ?_
              refine l_nil (q_then_normal ?_)
              refine c_ret ?_
              refine q_then_ret (q_block_ret (q_then_ret (q_then_ret (q_block_ret (q_then_ret (q_ret (.inl rfl) [vI 0, vS emp, vI 4] rfl (fun bs w hS => ?_)))))))
              refine ⟨?_, hS.kp⟩
              rw [hI.last (by omega) (by omega) (by omega), if_pos (by omega)]
              simp only [retOf, den, List.map_cons, List.map_nil]
            | false =>
              have h6 := of_decide_eq_false h6
              refine c_if false rfl ?_
              refine c_skip ?_
              refine q_then_normal ?_
              refine c_seq ?_
              refine c_draw 8 [] (.p 0 (.p 1 (.p 2 (.p 3 (.p 4 (.p 5 (.p 6 (.p 7 .nil)))))))) [] [] Try_mixed (by kernel_rfl) (pq_then (pq_block (pq_then (pq_then (pq_block (pq_then pq_body)))))) .slnil ?_
              refine h_quiet [(4, .sl (i + 1) s.size)] [(0, true), (1, true), (2, true), (3, true), (4, true), (5, true), (6, true), (7, true)] [(4, vI 0), (3, vS (s.extract (i + 1) s.size)), (2, vI (n + (((128 : Int) ^ i) * (((s.data.getD i 0).toNat : Int) % 128)))), (47, vS (s.extract (i + 1) s.size)), (46, vI (((i : Nat) : Int) + 1)), (45, vI ((i : Nat) : Int)), (44, vS s), (43, vI (n + (((128 : Int) ^ i) * (((s.data.getD i 0).toNat : Int) % 128)))), (42, vB false), (5, vI (n + (((128 : Int) ^ i) * (((s.data.getD i 0).toNat : Int) % 128)))), (7, vI ((i : Nat) : Int)), (0, vS s)] [inR (((i : Nat) : Int) + 1), ((i : Nat) : Int) + 1 = (((i + 1) : Nat) : Int), s.size = s.size, (i + 1) ≤ s.size] [] rfl (by kernel_rfl) (oc (by unfold inR; omega) (oc (by omega) (oc rfl (oc (by omega) on)))) wn ?_
              refine h_nil ?_
              refine l_nil (q_then_normal ?_)
              refine c_ret ?_
              refine q_block_ret (q_then_ret (q_then_ret (q_block_ret (q_then_ret (q_ret (.inl rfl) [vI (n + (((128 : Int) ^ i) * (((s.data.getD i 0).toNat : Int) % 128))), vS (s.extract (i + 1) s.size), vI 0] rfl (fun bs w hS => ?_))))))
              refine ⟨?_, hS.kp⟩
              rw [hI.last (by omega) (by omega) (by omega), if_neg (by omega)]
              simp only [retOf, den, List.map_cons, List.map_nil]
        | false =>
          have h4 := of_decide_eq_false h4
          refine JL_run 9 [] [42, 5, 7, 0] 0 ⟨[(42, vB (decide ((1099511627776 : Int) < n + (((128 : Int) ^ i) * (((s.data.getD i 0).toNat : Int) % 128))))), (5, vI (n + (((128 : Int) ^ i) * (((s.data.getD i 0).toNat : Int) % 128)))), (7, vI ((i : Nat) : Int)), (0, vS s)], []⟩ [] [] (by kernel_rfl) on wn ?_
          refine l_nil (q_then_normal ?_)
          cases h7 : decide ((1099511627776 : Int) < n + (((128 : Int) ^ i) * (((s.data.getD i 0).toNat : Int) % 128))) with
          | true =>
            have h7 := of_decide_eq_true h7
            refine c_if true rfl ?_
            refine c_seq ?_
            refine c_region ?_
            refine JL_run 3 [] [4, 3, 2] 0 ⟨[(4, vI 4), (3, vS emp), (2, vI 0)], []⟩ [] [] (by kernel_rfl) on wn ?_
            refine l_nil (q_then_normal ?_)
            refine c_ret ?_
            refine q_then_ret (q_block_ret (q_then_ret (q_then_ret (q_block_ret (q_then_ret (q_ret (.inl rfl) [vI 0, vS emp, vI 4] rfl (fun bs w hS => ?_)))))))
            refine ⟨?_, hS.kp⟩
            rw [hI.last (by omega) (by omega) (by omega), if_pos (by omega)]
            simp only [retOf, den, List.map_cons, List.map_nil]
          | false =>
            have h7 := of_decide_eq_false h7
            refine c_if false rfl ?_
            refine c_skip ?_
            refine q_then_normal ?_
            refine c_seq ?_
            refine c_draw 8 [] (.p 0 (.p 1 (.p 2 (.p 3 (.p 4 (.p 5 (.p 6 (.p 7 .nil)))))))) [] [] Try_mixed (by kernel_rfl) (pq_then (pq_block (pq_then (pq_then (pq_block (pq_then pq_body)))))) .slnil ?_
            refine h_quiet [(4, .sl (i + 1) s.size)] [(0, true), (1, true), (2, true), (3, true), (4, true), (5, true), (6, true), (7, true)] [(4, vI 0), (3, vS (s.extract (i + 1) s.size)), (2, vI (n + (((128 : Int) ^ i) * (((s.data.getD i 0).toNat : Int) % 128)))), (47, vS (s.extract (i + 1) s.size)), (46, vI (((i : Nat) : Int) + 1)), (45, vI ((i : Nat) : Int)), (44, vS s), (43, vI (n + (((128 : Int) ^ i) * (((s.data.getD i 0).toNat : Int) % 128)))), (42, vB false), (5, vI (n + (((128 : Int) ^ i) * (((s.data.getD i 0).toNat : Int) % 128)))), (7, vI ((i : Nat) : Int)), (0, vS s)] [inR (((i : Nat) : Int) + 1), ((i : Nat) : Int) + 1 = (((i + 1) : Nat) : Int), s.size = s.size, (i + 1) ≤ s.size] [] rfl (by kernel_rfl) (oc (by unfold inR; omega) (oc (by omega) (oc rfl (oc (by omega) on)))) wn ?_
            refine h_nil ?_
            refine l_nil (q_then_normal ?_)
            refine c_ret ?_
            refine q_block_ret (q_then_ret (q_then_ret (q_block_ret (q_then_ret (q_ret (.inl rfl) [vI (n + (((128 : Int) ^ i) * (((s.data.getD i 0).toNat : Int) % 128))), vS (s.extract (i + 1) s.size), vI 0] rfl (fun bs w hS => ?_))))))
            refine ⟨?_, hS.kp⟩
            rw [hI.last (by omega) (by omega) (by omega), if_neg (by omega)]
            simp only [retOf, den, List.map_cons, List.map_nil]
      | false =>
        have h3 := of_decide_eq_false h3
        refine c_if false rfl ?_
        refine c_skip ?_
        refine q_block_normal (q_then_normal ?_)
        refine c_region ?_
        refine JL_run 3 [] [7, 6, 5, 0] 0 ⟨[(7, vI (((i : Nat) : Int) + 1)), (6, vI (((128 : Int) ^ i) * 128)), (5, vI (n + (((128 : Int) ^ i) * (((s.data.getD i 0).toNat : Int) % 128)))), (0, vS s)], []⟩ [inR (((i : Nat) : Int) + 1)] [] (by kernel_rfl) (oc (by unfold inR; omega) on) wn ?_
        refine l_nil (q_loop (x := (⟨i, n⟩ : Nat × Int)) (⟨i + 1, n + (((128 : Int) ^ i) * (((s.data.getD i 0).toNat : Int) % 128))⟩ : Nat × Int) (hI.step (by omega) (by omega) (by omega)) (by show 6 - (i + 1) < 6 - i; omega) (s_start [7, 6, 5, 0] 0 (by simp only [Int.pow_succ]; kernel_rfl) rfl))
  | false =>
    have h1 := of_decide_eq_false h1
    refine c_if false rfl ?_
    refine c_exit ?_
    refine q_then_exit (q_then_exit (q_block_hit (q_then_normal ?_)))
    refine c_seq ?_
    refine c_region ?_
    refine JL_run 3 [] [4, 3, 2] 0 ⟨[(4, vI 4), (3, vS emp), (2, vI 0)], []⟩ [] [] (by kernel_rfl) on wn ?_
    refine l_nil (q_then_normal ?_)
    refine c_ret ?_
    refine q_ret (.inl rfl) [vI 0, vS emp, vI 4] rfl (fun bs w hS => ?_)
    refine ⟨?_, hS.kp⟩
    rw [hI.out (by omega)]
    simp only [retOf, den, List.map_cons, List.map_nil]

theorem codec_ReadText (s : ByteArray) (w : World) (hs : s.size ≤ 9223372036854775807) : Calls Try.prog 148 #[.string s] w fun e w' => e = .returned (.tuple #[.string (mTell s).1, .string (mTell s).2.1, .int .i64 (mTell s).2.2]) ∧ Kp [] w w' := by
  have hb := mRead_bd s
  refine calls_J0 29 Try.func148 rfl rfl [.string s] rfl ?_
  refine c_seq ?_
  refine c_region ?_
  refine JL_run 3 [] [0] 0 ⟨[(0, vS s)], []⟩ [] [] (by kernel_rfl) on wn ?_
  refine l_nil (q_then_normal ?_)
  refine c_seq ?_
  refine c_region ?_
  refine JL_run 1 [] [9] 0 ⟨[(9, vS s)], []⟩ [] [] (by kernel_rfl) on wn ?_
  refine l_pure 147 [] [vS s] (.tuple #[.int .i64 ((mRead s).1), .string ((mRead s).2.1), .int .i64 ((mRead s).2.2)]) Try.call147 rfl rfl rfl rfl (fun bs w hS => codec_ReadNumber _ w (by first | assumption | omega | (simp only [emp_size]; omega))) ?_
  refine JL_run 7 [] [7, 6, 5] 0 ⟨[(7, vI ((mRead s).2.2)), (6, vS ((mRead s).2.1)), (5, vI ((mRead s).1))], []⟩ [] [] (by kernel_rfl) on wn ?_
  refine l_nil (q_then_normal ?_)
  refine c_seq ?_
  refine c_seq ?_
  refine c_region ?_
  refine JL_run 2 [] [15, 7, 6, 5] 0 ⟨[(15, vB (!(decide ((mRead s).2.2 = 0)))), (7, vI ((mRead s).2.2)), (6, vS ((mRead s).2.1)), (5, vI ((mRead s).1))], []⟩ [] [] (by kernel_rfl) on wn ?_
  refine l_nil (q_then_normal ?_)
  cases h1 : decide ((mRead s).2.2 = 0) with
  | true =>
    have h1 := of_decide_eq_true h1
    refine c_if false rfl ?_
    refine c_skip ?_
    refine q_then_normal ?_
    refine c_seq ?_
    refine c_seq ?_
    refine c_region ?_
    refine JL_run 2 [] [18, 6, 5] 0 ⟨[(18, vB (decide ((5000 : Int) < (mRead s).1))), (6, vS ((mRead s).2.1)), (5, vI ((mRead s).1))], []⟩ [] [] (by kernel_rfl) on wn ?_
    refine l_nil (q_then_normal ?_)
    cases h2 : decide ((5000 : Int) < (mRead s).1) with
    | true =>
      have h2 := of_decide_eq_true h2
      refine c_if true rfl ?_
      refine c_seq ?_
      refine c_region ?_
      refine JL_run 3 [] [4, 3, 2] 0 ⟨[(4, vI 1), (3, vS emp), (2, vS emp)], []⟩ [] [] (by kernel_rfl) on wn ?_
      refine l_nil (q_then_normal ?_)
      refine c_ret ?_
      refine q_then_ret (q_ret (.inl rfl) [vS emp, vS emp, vI 1] rfl (fun bs w hS => ?_))
      refine ⟨?_, hS.kp⟩
      simp only [retOf, den, List.map_cons, List.map_nil]
      unfold mTell
      try simp only [h1, h2, emp_size, ne_eq, not_true_eq_false, not_false_eq_true, true_or, or_true, false_or, or_false, and_true, true_and, and_false, false_and, and_self, or_self, if_true, if_false, Bool.true_eq_false, Bool.false_eq_true, reduceIte, Classical.not_not, Bool.and_eq_true, decide_eq_true_eq]
      repeat (first | rw [if_pos (by omega)] | rw [if_neg (by omega)])
      all_goals first | rfl | (exfalso; omega)
    | false =>
      have h2 := of_decide_eq_false h2
      refine c_if false rfl ?_
      refine c_skip ?_
      refine q_then_normal ?_
      refine c_seq ?_
      refine c_seq ?_
      refine c_region ?_
      refine JL_run 4 [] [22, 6, 5] 0 ⟨[(22, vB (decide ((((mRead s).2.1).size : Int) < (mRead s).1))), (6, vS ((mRead s).2.1)), (5, vI ((mRead s).1))], []⟩ [] [] (by kernel_rfl) on wn ?_
      refine l_nil (q_then_normal ?_)
      cases h3 : decide ((((mRead s).2.1).size : Int) < (mRead s).1) with
      | true =>
        have h3 := of_decide_eq_true h3
        refine c_if true rfl ?_
        refine c_seq ?_
        refine c_region ?_
        refine JL_run 3 [] [4, 3, 2] 0 ⟨[(4, vI 5), (3, vS emp), (2, vS emp)], []⟩ [] [] (by kernel_rfl) on wn ?_
        refine l_nil (q_then_normal ?_)
        refine c_ret ?_
        refine q_then_ret (q_ret (.inl rfl) [vS emp, vS emp, vI 5] rfl (fun bs w hS => ?_))
        refine ⟨?_, hS.kp⟩
        simp only [retOf, den, List.map_cons, List.map_nil]
        unfold mTell
        try simp only [h1, h2, h3, emp_size, ne_eq, not_true_eq_false, not_false_eq_true, true_or, or_true, false_or, or_false, and_true, true_and, and_false, false_and, and_self, or_self, if_true, if_false, Bool.true_eq_false, Bool.false_eq_true, reduceIte, Classical.not_not, Bool.and_eq_true, decide_eq_true_eq]
        repeat (first | rw [if_pos (by omega)] | rw [if_neg (by omega)])
        all_goals first | rfl | (exfalso; omega)
      | false =>
        have h3 := of_decide_eq_false h3
        refine c_if false rfl ?_
        refine c_skip ?_
        refine q_then_normal ?_
        refine c_seq ?_
        refine c_draw 9 [] (.p 0 (.p 1 (.p 2 (.p 3 (.p 4 (.p 5 (.p 6 (.p 7 (.p 8 .nil))))))))) [] [] Try_mixed (by kernel_rfl) (pq_then pq_body) .slnil ?_
        refine h_quiet [(2, .sl 0 ((mRead s).1.toNat)), (5, .sl ((mRead s).1.toNat) ((mRead s).2.1.size))] [(0, true), (1, true), (2, true), (3, true), (4, true), (5, true), (6, true), (7, true), (8, true)] [(4, vI 0), (3, vS (((mRead s).2.1).extract ((mRead s).1.toNat) ((mRead s).2.1.size))), (2, vS (((mRead s).2.1).extract 0 ((mRead s).1.toNat))), (28, vS (((mRead s).2.1).extract ((mRead s).1.toNat) ((mRead s).2.1.size))), (27, vI ((mRead s).1)), (26, vS ((mRead s).2.1)), (25, vS (((mRead s).2.1).extract 0 ((mRead s).1.toNat))), (24, vI ((mRead s).1)), (23, vS ((mRead s).2.1)), (22, vB false), (6, vS ((mRead s).2.1)), (5, vI ((mRead s).1))] [0 = 0, (mRead s).1 = (((mRead s).1.toNat : Nat) : Int), (mRead s).1.toNat ≤ ((mRead s).2.1).size, (mRead s).1 = (((mRead s).1.toNat : Nat) : Int), (mRead s).2.1.size = ((mRead s).2.1).size, (mRead s).1.toNat ≤ (mRead s).2.1.size] [] rfl (by kernel_rfl) (oc rfl (oc (by omega) (oc (by omega) (oc (by omega) (oc rfl (oc (by omega) on)))))) wn ?_
        refine h_nil ?_
        refine l_nil (q_then_normal ?_)
        refine c_ret ?_
        refine q_ret (.inl rfl) [vS (((mRead s).2.1).extract 0 ((mRead s).1.toNat)), vS (((mRead s).2.1).extract ((mRead s).1.toNat) ((mRead s).2.1.size)), vI 0] rfl (fun bs w hS => ?_)
        refine ⟨?_, hS.kp⟩
        simp only [retOf, den, List.map_cons, List.map_nil]
        unfold mTell
        try simp only [h1, h2, h3, emp_size, ne_eq, not_true_eq_false, not_false_eq_true, true_or, or_true, false_or, or_false, and_true, true_and, and_false, false_and, and_self, or_self, if_true, if_false, Bool.true_eq_false, Bool.false_eq_true, reduceIte, Classical.not_not, Bool.and_eq_true, decide_eq_true_eq]
        repeat (first | rw [if_pos (by omega)] | rw [if_neg (by omega)])
        all_goals first | rfl | (exfalso; omega)
  | false =>
    have h1 := of_decide_eq_false h1
    refine c_if true rfl ?_
    refine c_seq ?_
    refine c_region ?_
    refine JL_run 4 [] [4, 3, 2] 0 ⟨[(4, vI ((mRead s).2.2)), (3, vS emp), (2, vS emp)], []⟩ [] [] (by kernel_rfl) on wn ?_
    refine l_nil (q_then_normal ?_)
    refine c_ret ?_
    refine q_then_ret (q_ret (.inl rfl) [vS emp, vS emp, vI ((mRead s).2.2)] rfl (fun bs w hS => ?_))
    refine ⟨?_, hS.kp⟩
    simp only [retOf, den, List.map_cons, List.map_nil]
    unfold mTell
    try simp only [h1, emp_size, ne_eq, not_true_eq_false, not_false_eq_true, true_or, or_true, false_or, or_false, and_true, true_and, and_false, false_and, and_self, or_self, if_true, if_false, Bool.true_eq_false, Bool.false_eq_true, reduceIte, Classical.not_not, Bool.and_eq_true, decide_eq_true_eq]
    repeat (first | rw [if_pos (by omega)] | rw [if_neg (by omega)])
    all_goals first | rfl | (exfalso; omega)

theorem ref_TextOf (s : ByteArray) (w : World) (hs : s.size ≤ 9223372036854775807) : Calls Try.prog 117 #[.string s] w fun e w' => e = .returned (.tuple #[.string (mTell s).1, .string (mTell s).2.1, .int .i64 (mTell s).2.2]) ∧ Kp [] w w' := by
  have hb := mRead_bd s
  refine calls_J0 37 Try.func117 rfl rfl [.string s] rfl ?_
  refine c_seq ?_
  refine c_region ?_
  refine JL_run 3 [] [0] 0 ⟨[(0, vS s)], []⟩ [] [] (by kernel_rfl) on wn ?_
  refine l_nil (q_then_normal ?_)
  refine c_seq ?_
  refine c_region ?_
  refine JL_run 1 [] [9] 0 ⟨[(9, vS s)], []⟩ [] [] (by kernel_rfl) on wn ?_
  refine l_pure 116 [] [vS s] (.tuple #[.int .i64 ((mRead s).1), .string ((mRead s).2.1), .int .i64 ((mRead s).2.2)]) Try.call116 rfl rfl rfl rfl (fun bs w hS => ref_NumberOf _ w (by first | assumption | omega | (simp only [emp_size]; omega))) ?_
  refine JL_run 7 [] [7, 6, 5] 0 ⟨[(7, vI ((mRead s).2.2)), (6, vS ((mRead s).2.1)), (5, vI ((mRead s).1))], []⟩ [] [] (by kernel_rfl) on wn ?_
  refine l_nil (q_then_normal ?_)
  refine c_seq ?_
  refine c_seq ?_
  refine c_region ?_
  refine JL_run 3 [] [16, 7, 6, 5] 0 ⟨[(16, vB (decide ((mRead s).2.2 = 0))), (7, vI ((mRead s).2.2)), (6, vS ((mRead s).2.1)), (5, vI ((mRead s).1))], []⟩ [] [] (by kernel_rfl) on wn ?_
  cases h1 : decide ((mRead s).2.2 = 0) with
  | true =>
    have h1 := of_decide_eq_true h1
    refine JL_run 3 [] [19, 7, 6, 5] 0 ⟨[(19, vB (decide ((5000 : Int) < (mRead s).1))), (7, vI ((mRead s).2.2)), (6, vS ((mRead s).2.1)), (5, vI ((mRead s).1))], []⟩ [] [] (by kernel_rfl) on wn ?_
    refine l_nil (q_then_normal ?_)
    cases h2 : decide ((5000 : Int) < (mRead s).1) with
    | true =>
      have h2 := of_decide_eq_true h2
      refine c_if true rfl ?_
      refine c_region ?_
      refine JL_run 1 [] [7, 6, 5] 0 ⟨[(7, vI 1), (6, vS ((mRead s).2.1)), (5, vI ((mRead s).1))], []⟩ [] [] (by kernel_rfl) on wn ?_
      refine l_nil (q_then_normal ?_)
      refine c_seq ?_
      refine c_seq ?_
      refine c_region ?_
      refine JL_run 8 [] [27, 7, 6, 5] 0 ⟨[(27, vB false), (7, vI 1), (6, vS ((mRead s).2.1)), (5, vI ((mRead s).1))], []⟩ [] [] (by kernel_rfl) on wn ?_
      refine l_nil (q_then_normal ?_)
      refine c_if false rfl ?_
      refine c_skip ?_
      refine q_then_normal ?_
      refine c_seq ?_
      refine c_seq ?_
      refine c_region ?_
      refine JL_run 2 [] [29, 7, 6, 5] 0 ⟨[(29, vB true), (7, vI 1), (6, vS ((mRead s).2.1)), (5, vI ((mRead s).1))], []⟩ [] [] (by kernel_rfl) on wn ?_
      refine l_nil (q_then_normal ?_)
      refine c_if true rfl ?_
      refine c_seq ?_
      refine c_region ?_
      refine JL_run 4 [] [4, 3, 2] 0 ⟨[(4, vI 1), (3, vS emp), (2, vS emp)], []⟩ [] [] (by kernel_rfl) on wn ?_
      refine l_nil (q_then_normal ?_)
      refine c_ret ?_
      refine q_then_ret (q_ret (.inl rfl) [vS emp, vS emp, vI 1] rfl (fun bs w hS => ?_))
      refine ⟨?_, hS.kp⟩
      simp only [retOf, den, List.map_cons, List.map_nil]
      unfold mTell
      try simp only [h1, h2, emp_size, ne_eq, not_true_eq_false, not_false_eq_true, true_or, or_true, false_or, or_false, and_true, true_and, and_false, false_and, and_self, or_self, if_true, if_false, Bool.true_eq_false, Bool.false_eq_true, reduceIte, Classical.not_not, Bool.and_eq_true, decide_eq_true_eq]
      repeat (first | rw [if_pos (by omega)] | rw [if_neg (by omega)])
      all_goals first | rfl | (exfalso; omega)
    | false =>
      have h2 := of_decide_eq_false h2
      refine c_if false rfl ?_
      refine c_skip ?_
      refine q_then_normal ?_
      refine c_seq ?_
      refine c_seq ?_
      refine c_region ?_
      refine JL_run 3 [] [22, 7, 6, 5] 0 ⟨[(22, vB (decide ((mRead s).2.2 = 0))), (7, vI ((mRead s).2.2)), (6, vS ((mRead s).2.1)), (5, vI ((mRead s).1))], []⟩ [] [] (by kernel_rfl) on wn ?_
      cases h3 : decide ((mRead s).2.2 = 0) with
      | true =>
        have h3 := of_decide_eq_true h3
        refine JL_run 5 [] [27, 7, 6, 5] 0 ⟨[(27, vB (decide ((((mRead s).2.1).size : Int) < (mRead s).1))), (7, vI ((mRead s).2.2)), (6, vS ((mRead s).2.1)), (5, vI ((mRead s).1))], []⟩ [] [] (by kernel_rfl) on wn ?_
        refine l_nil (q_then_normal ?_)
        cases h4 : decide ((((mRead s).2.1).size : Int) < (mRead s).1) with
        | true =>
          have h4 := of_decide_eq_true h4
          refine c_if true rfl ?_
          refine c_region ?_
          refine JL_run 1 [] [7, 6, 5] 0 ⟨[(7, vI 5), (6, vS ((mRead s).2.1)), (5, vI ((mRead s).1))], []⟩ [] [] (by kernel_rfl) on wn ?_
          refine l_nil (q_then_normal ?_)
          refine c_seq ?_
          refine c_seq ?_
          refine c_region ?_
          refine JL_run 2 [] [29, 7, 6, 5] 0 ⟨[(29, vB true), (7, vI 5), (6, vS ((mRead s).2.1)), (5, vI ((mRead s).1))], []⟩ [] [] (by kernel_rfl) on wn ?_
          refine l_nil (q_then_normal ?_)
          refine c_if true rfl ?_
          refine c_seq ?_
          refine c_region ?_
          refine JL_run 4 [] [4, 3, 2] 0 ⟨[(4, vI 5), (3, vS emp), (2, vS emp)], []⟩ [] [] (by kernel_rfl) on wn ?_
          refine l_nil (q_then_normal ?_)
          refine c_ret ?_
          refine q_then_ret (q_ret (.inl rfl) [vS emp, vS emp, vI 5] rfl (fun bs w hS => ?_))
          refine ⟨?_, hS.kp⟩
          simp only [retOf, den, List.map_cons, List.map_nil]
          unfold mTell
          try simp only [h1, h2, h3, h4, emp_size, ne_eq, not_true_eq_false, not_false_eq_true, true_or, or_true, false_or, or_false, and_true, true_and, and_false, false_and, and_self, or_self, if_true, if_false, Bool.true_eq_false, Bool.false_eq_true, reduceIte, Classical.not_not, Bool.and_eq_true, decide_eq_true_eq]
          repeat (first | rw [if_pos (by omega)] | rw [if_neg (by omega)])
          all_goals first | rfl | (exfalso; omega)
        | false =>
          have h4 := of_decide_eq_false h4
          refine c_if false rfl ?_
          refine c_skip ?_
          refine q_then_normal ?_
          refine c_seq ?_
          refine c_seq ?_
          refine c_region ?_
          refine JL_run 2 [] [29, 7, 6, 5] 0 ⟨[(29, vB (!(decide ((mRead s).2.2 = 0)))), (7, vI ((mRead s).2.2)), (6, vS ((mRead s).2.1)), (5, vI ((mRead s).1))], []⟩ [] [] (by kernel_rfl) on wn ?_
          refine l_nil (q_then_normal ?_)
          cases h5 : decide ((mRead s).2.2 = 0) with
          | true =>
            have h5 := of_decide_eq_true h5
            refine c_if false rfl ?_
            refine c_skip ?_
            refine q_then_normal ?_
            refine c_seq ?_
            refine c_draw 9 [] (.p 0 (.p 1 (.p 2 (.p 3 (.p 4 (.p 5 (.p 6 (.p 7 (.p 8 .nil))))))))) [] [] Try_mixed (by kernel_rfl) (pq_then pq_body) .slnil ?_
            refine h_quiet [(2, .sl 0 ((mRead s).1.toNat)), (5, .sl ((mRead s).1.toNat) ((mRead s).2.1.size))] [(0, true), (1, true), (2, true), (3, true), (4, true), (5, true), (6, true), (7, true), (8, true)] [(4, vI 0), (3, vS (((mRead s).2.1).extract ((mRead s).1.toNat) ((mRead s).2.1.size))), (2, vS (((mRead s).2.1).extract 0 ((mRead s).1.toNat))), (36, vS (((mRead s).2.1).extract ((mRead s).1.toNat) ((mRead s).2.1.size))), (35, vI ((mRead s).1)), (34, vS ((mRead s).2.1)), (33, vS (((mRead s).2.1).extract 0 ((mRead s).1.toNat))), (32, vI ((mRead s).1)), (31, vS ((mRead s).2.1)), (29, vB false), (7, vI ((mRead s).2.2)), (6, vS ((mRead s).2.1)), (5, vI ((mRead s).1))] [0 = 0, (mRead s).1 = (((mRead s).1.toNat : Nat) : Int), (mRead s).1.toNat ≤ ((mRead s).2.1).size, (mRead s).1 = (((mRead s).1.toNat : Nat) : Int), (mRead s).2.1.size = ((mRead s).2.1).size, (mRead s).1.toNat ≤ (mRead s).2.1.size] [] rfl (by kernel_rfl) (oc rfl (oc (by omega) (oc (by omega) (oc (by omega) (oc rfl (oc (by omega) on)))))) wn ?_
            refine h_nil ?_
            refine l_nil (q_then_normal ?_)
            refine c_ret ?_
            refine q_ret (.inl rfl) [vS (((mRead s).2.1).extract 0 ((mRead s).1.toNat)), vS (((mRead s).2.1).extract ((mRead s).1.toNat) ((mRead s).2.1.size)), vI 0] rfl (fun bs w hS => ?_)
            refine ⟨?_, hS.kp⟩
            simp only [retOf, den, List.map_cons, List.map_nil]
            unfold mTell
            try simp only [h1, h2, h3, h4, h5, emp_size, ne_eq, not_true_eq_false, not_false_eq_true, true_or, or_true, false_or, or_false, and_true, true_and, and_false, false_and, and_self, or_self, if_true, if_false, Bool.true_eq_false, Bool.false_eq_true, reduceIte, Classical.not_not, Bool.and_eq_true, decide_eq_true_eq]
            repeat (first | rw [if_pos (by omega)] | rw [if_neg (by omega)])
            all_goals first | rfl | (exfalso; omega)
          | false =>
            have h5 := of_decide_eq_false h5
            exact absurd h1 h5
      | false =>
        have h3 := of_decide_eq_false h3
        exact absurd h1 h3
  | false =>
    have h1 := of_decide_eq_false h1
    refine JL_run 3 [] [19, 7, 6, 5] 0 ⟨[(19, vB false), (7, vI ((mRead s).2.2)), (6, vS ((mRead s).2.1)), (5, vI ((mRead s).1))], []⟩ [] [] (by kernel_rfl) on wn ?_
    refine l_nil (q_then_normal ?_)
    refine c_if false rfl ?_
    refine c_skip ?_
    refine q_then_normal ?_
    refine c_seq ?_
    refine c_seq ?_
    refine c_region ?_
    refine JL_run 3 [] [22, 7, 6, 5] 0 ⟨[(22, vB (decide ((mRead s).2.2 = 0))), (7, vI ((mRead s).2.2)), (6, vS ((mRead s).2.1)), (5, vI ((mRead s).1))], []⟩ [] [] (by kernel_rfl) on wn ?_
    cases h6 : decide ((mRead s).2.2 = 0) with
    | true =>
      have h6 := of_decide_eq_true h6
      exact absurd h6 h1
    | false =>
      have h6 := of_decide_eq_false h6
      refine JL_run 5 [] [27, 7, 6, 5] 0 ⟨[(27, vB false), (7, vI ((mRead s).2.2)), (6, vS ((mRead s).2.1)), (5, vI ((mRead s).1))], []⟩ [] [] (by kernel_rfl) on wn ?_
      refine l_nil (q_then_normal ?_)
      refine c_if false rfl ?_
      refine c_skip ?_
      refine q_then_normal ?_
      refine c_seq ?_
      refine c_seq ?_
      refine c_region ?_
      refine JL_run 2 [] [29, 7, 6, 5] 0 ⟨[(29, vB (!(decide ((mRead s).2.2 = 0)))), (7, vI ((mRead s).2.2)), (6, vS ((mRead s).2.1)), (5, vI ((mRead s).1))], []⟩ [] [] (by kernel_rfl) on wn ?_
      refine l_nil (q_then_normal ?_)
      cases h7 : decide ((mRead s).2.2 = 0) with
      | true =>
        have h7 := of_decide_eq_true h7
        exact absurd h7 h1
      | false =>
        have h7 := of_decide_eq_false h7
        refine c_if true rfl ?_
        refine c_seq ?_
        refine c_region ?_
        refine JL_run 4 [] [4, 3, 2] 0 ⟨[(4, vI ((mRead s).2.2)), (3, vS emp), (2, vS emp)], []⟩ [] [] (by kernel_rfl) on wn ?_
        refine l_nil (q_then_normal ?_)
        refine c_ret ?_
        refine q_then_ret (q_ret (.inl rfl) [vS emp, vS emp, vI ((mRead s).2.2)] rfl (fun bs w hS => ?_))
        refine ⟨?_, hS.kp⟩
        simp only [retOf, den, List.map_cons, List.map_nil]
        unfold mTell
        try simp only [h1, h6, h7, emp_size, ne_eq, not_true_eq_false, not_false_eq_true, true_or, or_true, false_or, or_false, and_true, true_and, and_false, false_and, and_self, or_self, if_true, if_false, Bool.true_eq_false, Bool.false_eq_true, reduceIte, Classical.not_not, Bool.and_eq_true, decide_eq_true_eq]
        repeat (first | rw [if_pos (by omega)] | rw [if_neg (by omega)])
        all_goals first | rfl | (exfalso; omega)

theorem command_CheckOp {B : Nat → Prop} (x : DOp) (w : World) (hx : Rds.sub B w x) : Calls Try.prog 149 #[.agg #[.int .i64 x.kind, .string x.a, .string x.b, .int .i64 x.n]] w fun e w' => e = .returned (.int .i64 (mOp x)) ∧ Kp [] w w' := by
  have okx := Rds.okof hx
  refine calls_J0 52 Try.func149 rfl rfl [.agg #[.int .i64 x.kind, .string x.a, .string x.b, .int .i64 x.n]] rfl ?_
  refine c_seq ?_
  refine c_region ?_
  refine JL_run 2 [] [1] 1 ⟨[(1, .p 0 0)], [⟨98, [vI x.kind, vS x.a, vS x.b, vI x.n]⟩]⟩ [] [] (by kernel_rfl) on wn ?_
  refine l_nil (q_then_normal ?_)
  refine c_seq ?_
  refine c_seq ?_
  refine c_region ?_
  refine JL_run 4 [] [6, 1] 1 ⟨[(6, vB (decide (x.kind < 1))), (1, .p 0 0)], [⟨98, [vI x.kind, vS x.a, vS x.b, vI x.n]⟩]⟩ [] [] (by kernel_rfl) on wn ?_
  cases h1 : decide (x.kind < 1) with
  | true =>
    have h1 := of_decide_eq_true h1
    refine JL_run 4 [] [10, 1] 1 ⟨[(10, vB true), (1, .p 0 0)], [⟨98, [vI x.kind, vS x.a, vS x.b, vI x.n]⟩]⟩ [] [] (by kernel_rfl) on wn ?_
    refine l_nil (q_then_normal ?_)
    refine c_if true rfl ?_
    refine c_seq ?_
    refine c_region ?_
    refine JL_run 1 [] [2] 0 ⟨[(2, vI 3)], []⟩ [] [] (by kernel_rfl) on wn ?_
    refine l_nil (q_then_normal ?_)
    refine c_ret ?_
    refine q_then_ret (q_ret (.inl rfl) [vI 3] rfl (fun bs w hS => ?_))
    refine ⟨?_, hS.kp⟩
    simp only [retOf, den, List.map_cons, List.map_nil]
    unfold mOp
    try simp only [h1, emp_size, ne_eq, not_true_eq_false, not_false_eq_true, true_or, or_true, false_or, or_false, and_true, true_and, and_false, false_and, and_self, or_self, if_true, if_false, Bool.true_eq_false, Bool.false_eq_true, reduceIte, Classical.not_not, Bool.and_eq_true, decide_eq_true_eq]
    repeat (first | rw [if_pos (by omega)] | rw [if_neg (by omega)])
    all_goals first | rfl | (exfalso; omega)
  | false =>
    have h1 := of_decide_eq_false h1
    refine JL_run 4 [] [10, 1] 1 ⟨[(10, vB (decide ((6 : Int) < x.kind))), (1, .p 0 0)], [⟨98, [vI x.kind, vS x.a, vS x.b, vI x.n]⟩]⟩ [] [] (by kernel_rfl) on wn ?_
    refine l_nil (q_then_normal ?_)
    cases h2 : decide ((6 : Int) < x.kind) with
    | true =>
      have h2 := of_decide_eq_true h2
      refine c_if true rfl ?_
      refine c_seq ?_
      refine c_region ?_
      refine JL_run 1 [] [2] 0 ⟨[(2, vI 3)], []⟩ [] [] (by kernel_rfl) on wn ?_
      refine l_nil (q_then_normal ?_)
      refine c_ret ?_
      refine q_then_ret (q_ret (.inl rfl) [vI 3] rfl (fun bs w hS => ?_))
      refine ⟨?_, hS.kp⟩
      simp only [retOf, den, List.map_cons, List.map_nil]
      unfold mOp
      try simp only [h1, h2, emp_size, ne_eq, not_true_eq_false, not_false_eq_true, true_or, or_true, false_or, or_false, and_true, true_and, and_false, false_and, and_self, or_self, if_true, if_false, Bool.true_eq_false, Bool.false_eq_true, reduceIte, Classical.not_not, Bool.and_eq_true, decide_eq_true_eq]
      repeat (first | rw [if_pos (by omega)] | rw [if_neg (by omega)])
      all_goals first | rfl | (exfalso; omega)
    | false =>
      have h2 := of_decide_eq_false h2
      refine c_if false rfl ?_
      refine c_skip ?_
      refine q_then_normal ?_
      refine c_seq ?_
      refine c_seq ?_
      refine c_region ?_
      refine JL_run 2 [] [12, 1] 1 ⟨[(12, vS x.a), (1, .p 0 0)], [⟨98, [vI x.kind, vS x.a, vS x.b, vI x.n]⟩]⟩ [] [] (by kernel_rfl) on wn ?_
      refine l_pure 90 [] [vS x.a] (.bool (mName x.a)) Try.call90 rfl rfl rfl rfl (fun bs w hS => lock_Name _ w (And.left okx)) ?_
      refine JL_run 2 [] [15, 1] 1 ⟨[(15, vB (!(mName x.a))), (1, .p 0 0)], [⟨98, [vI x.kind, vS x.a, vS x.b, vI x.n]⟩]⟩ [] [] (by kernel_rfl) on wn ?_
      cases h3 : mName x.a with
      | true =>
        refine JL_run 4 [] [19, 15, 1] 1 ⟨[(19, vB (!(decide (x.kind = 5)))), (15, vB false), (1, .p 0 0)], [⟨98, [vI x.kind, vS x.a, vS x.b, vI x.n]⟩]⟩ [] [] (by kernel_rfl) on wn ?_
        cases h4 : decide (x.kind = 5) with
        | true =>
          have h4 := of_decide_eq_true h4
          refine JL_run 5 [] [24, 1] 1 ⟨[(24, vB false), (1, .p 0 0)], [⟨98, [vI x.kind, vS x.a, vS x.b, vI x.n]⟩]⟩ [] [] (by kernel_rfl) on wn ?_
          refine l_nil (q_then_normal ?_)
          refine c_if false rfl ?_
          refine c_skip ?_
          refine q_then_normal ?_
          refine c_seq ?_
          refine c_seq ?_
          refine c_region ?_
          refine JL_run 4 [] [28, 1] 1 ⟨[(28, vB (decide ((12 : Int) < (x.b.size : Int)))), (1, .p 0 0)], [⟨98, [vI x.kind, vS x.a, vS x.b, vI x.n]⟩]⟩ [] [] (by kernel_rfl) on wn ?_
          refine l_nil (q_then_normal ?_)
          cases h5 : decide ((12 : Int) < (x.b.size : Int)) with
          | true =>
            have h5 := of_decide_eq_true h5
            refine c_if true rfl ?_
            refine c_seq ?_
            refine c_region ?_
            refine JL_run 1 [] [2] 0 ⟨[(2, vI 1)], []⟩ [] [] (by kernel_rfl) on wn ?_
            refine l_nil (q_then_normal ?_)
            refine c_ret ?_
            refine q_then_ret (q_ret (.inl rfl) [vI 1] rfl (fun bs w hS => ?_))
            refine ⟨?_, hS.kp⟩
            simp only [retOf, den, List.map_cons, List.map_nil]
            unfold mOp
            try simp only [h1, h2, h3, h4, h5, emp_size, ne_eq, not_true_eq_false, not_false_eq_true, true_or, or_true, false_or, or_false, and_true, true_and, and_false, false_and, and_self, or_self, if_true, if_false, Bool.true_eq_false, Bool.false_eq_true, reduceIte, Classical.not_not, Bool.and_eq_true, decide_eq_true_eq]
            repeat (first | rw [if_pos (by omega)] | rw [if_neg (by omega)])
            all_goals first | rfl | (exfalso; omega)
          | false =>
            have h5 := of_decide_eq_false h5
            refine c_if false rfl ?_
            refine c_skip ?_
            refine q_then_normal ?_
            refine c_seq ?_
            refine c_seq ?_
            refine c_region ?_
            refine JL_run 4 [] [32, 1] 1 ⟨[(32, vB (decide (x.kind = 5))), (1, .p 0 0)], [⟨98, [vI x.kind, vS x.a, vS x.b, vI x.n]⟩]⟩ [] [] (by kernel_rfl) on wn ?_
            cases h6 : decide (x.kind = 5) with
            | true =>
              have h6 := of_decide_eq_true h6
              refine JL_run 4 [] [36, 32, 1] 1 ⟨[(36, vB (decide (x.n < 1))), (32, vB true), (1, .p 0 0)], [⟨98, [vI x.kind, vS x.a, vS x.b, vI x.n]⟩]⟩ [] [] (by kernel_rfl) on wn ?_
              cases h7 : decide (x.n < 1) with
              | true =>
                have h7 := of_decide_eq_true h7
                refine JL_run 15 [] [51] 0 ⟨[(51, vB true)], []⟩ [] [] (by kernel_rfl) on wn ?_
                refine l_nil (q_then_normal ?_)
                refine c_if true rfl ?_
                refine c_seq ?_
                refine c_region ?_
                refine JL_run 1 [] [2] 0 ⟨[(2, vI 2)], []⟩ [] [] (by kernel_rfl) on wn ?_
                refine l_nil (q_then_normal ?_)
                refine c_ret ?_
                refine q_then_ret (q_ret (.inl rfl) [vI 2] rfl (fun bs w hS => ?_))
                refine ⟨?_, hS.kp⟩
                simp only [retOf, den, List.map_cons, List.map_nil]
                unfold mOp
                try simp only [h1, h2, h3, h4, h5, h6, h7, emp_size, ne_eq, not_true_eq_false, not_false_eq_true, true_or, or_true, false_or, or_false, and_true, true_and, and_false, false_and, and_self, or_self, if_true, if_false, Bool.true_eq_false, Bool.false_eq_true, reduceIte, Classical.not_not, Bool.and_eq_true, decide_eq_true_eq]
                repeat (first | rw [if_pos (by omega)] | rw [if_neg (by omega)])
                all_goals first | rfl | (exfalso; omega)
              | false =>
                have h7 := of_decide_eq_false h7
                refine JL_run 6 [] [42, 1] 1 ⟨[(42, vB (decide ((1073741824 : Int) < x.n))), (1, .p 0 0)], [⟨98, [vI x.kind, vS x.a, vS x.b, vI x.n]⟩]⟩ [] [] (by kernel_rfl) on wn ?_
                cases h8 : decide ((1073741824 : Int) < x.n) with
                | true =>
                  have h8 := of_decide_eq_true h8
                  refine JL_run 9 [] [51] 0 ⟨[(51, vB true)], []⟩ [] [] (by kernel_rfl) on wn ?_
                  refine l_nil (q_then_normal ?_)
                  refine c_if true rfl ?_
                  refine c_seq ?_
                  refine c_region ?_
                  refine JL_run 1 [] [2] 0 ⟨[(2, vI 2)], []⟩ [] [] (by kernel_rfl) on wn ?_
                  refine l_nil (q_then_normal ?_)
                  refine c_ret ?_
                  refine q_then_ret (q_ret (.inl rfl) [vI 2] rfl (fun bs w hS => ?_))
                  refine ⟨?_, hS.kp⟩
                  simp only [retOf, den, List.map_cons, List.map_nil]
                  unfold mOp
                  try simp only [h1, h2, h3, h4, h5, h6, h7, h8, emp_size, ne_eq, not_true_eq_false, not_false_eq_true, true_or, or_true, false_or, or_false, and_true, true_and, and_false, false_and, and_self, or_self, if_true, if_false, Bool.true_eq_false, Bool.false_eq_true, reduceIte, Classical.not_not, Bool.and_eq_true, decide_eq_true_eq]
                  repeat (first | rw [if_pos (by omega)] | rw [if_neg (by omega)])
                  all_goals first | rfl | (exfalso; omega)
                | false =>
                  have h8 := of_decide_eq_false h8
                  refine JL_run 4 [] [46, 42, 1] 1 ⟨[(46, vB (!(decide (x.kind = 5)))), (42, vB false), (1, .p 0 0)], [⟨98, [vI x.kind, vS x.a, vS x.b, vI x.n]⟩]⟩ [] [] (by kernel_rfl) on wn ?_
                  cases h9 : decide (x.kind = 5) with
                  | true =>
                    have h9 := of_decide_eq_true h9
                    refine JL_run 5 [] [51] 0 ⟨[(51, vB false)], []⟩ [] [] (by kernel_rfl) on wn ?_
                    refine l_nil (q_then_normal ?_)
                    refine c_if false rfl ?_
                    refine c_skip ?_
                    refine q_then_normal ?_
                    refine c_seq ?_
                    refine c_region ?_
                    refine JL_run 1 [] [2] 0 ⟨[(2, vI 0)], []⟩ [] [] (by kernel_rfl) on wn ?_
                    refine l_nil (q_then_normal ?_)
                    refine c_ret ?_
                    refine q_ret (.inl rfl) [vI 0] rfl (fun bs w hS => ?_)
                    refine ⟨?_, hS.kp⟩
                    simp only [retOf, den, List.map_cons, List.map_nil]
                    unfold mOp
                    try simp only [h1, h2, h3, h4, h5, h6, h7, h8, h9, emp_size, ne_eq, not_true_eq_false, not_false_eq_true, true_or, or_true, false_or, or_false, and_true, true_and, and_false, false_and, and_self, or_self, if_true, if_false, Bool.true_eq_false, Bool.false_eq_true, reduceIte, Classical.not_not, Bool.and_eq_true, decide_eq_true_eq]
                    repeat (first | rw [if_pos (by omega)] | rw [if_neg (by omega)])
                    all_goals first | rfl | (exfalso; omega)
                  | false =>
                    have h9 := of_decide_eq_false h9
                    exact absurd h4 h9
            | false =>
              have h6 := of_decide_eq_false h6
              exact absurd h4 h6
        | false =>
          have h4 := of_decide_eq_false h4
          refine JL_run 5 [] [24, 1] 1 ⟨[(24, vB (!(decide (x.b = emp)))), (1, .p 0 0)], [⟨98, [vI x.kind, vS x.a, vS x.b, vI x.n]⟩]⟩ [] [] (by kernel_rfl) on wn ?_
          refine l_nil (q_then_normal ?_)
          cases h10 : decide (x.b = emp) with
          | true =>
            have h10 := of_decide_eq_true h10
            have hzh10 : x.b.size = 0 := by rw [h10]; rfl
            refine c_if false rfl ?_
            refine c_skip ?_
            refine q_then_normal ?_
            refine c_seq ?_
            refine c_seq ?_
            refine c_region ?_
            refine JL_run 4 [] [28, 1] 1 ⟨[(28, vB (decide ((12 : Int) < (x.b.size : Int)))), (1, .p 0 0)], [⟨98, [vI x.kind, vS x.a, vS x.b, vI x.n]⟩]⟩ [] [] (by kernel_rfl) on wn ?_
            refine l_nil (q_then_normal ?_)
            cases h11 : decide ((12 : Int) < (x.b.size : Int)) with
            | true =>
              have h11 := of_decide_eq_true h11
              refine c_if true rfl ?_
              refine c_seq ?_
              refine c_region ?_
              refine JL_run 1 [] [2] 0 ⟨[(2, vI 1)], []⟩ [] [] (by kernel_rfl) on wn ?_
              refine l_nil (q_then_normal ?_)
              refine c_ret ?_
              refine q_then_ret (q_ret (.inl rfl) [vI 1] rfl (fun bs w hS => ?_))
              refine ⟨?_, hS.kp⟩
              simp only [retOf, den, List.map_cons, List.map_nil]
              unfold mOp
              try simp only [h1, h2, h3, h4, h10, h11, emp_size, ne_eq, not_true_eq_false, not_false_eq_true, true_or, or_true, false_or, or_false, and_true, true_and, and_false, false_and, and_self, or_self, if_true, if_false, Bool.true_eq_false, Bool.false_eq_true, reduceIte, Classical.not_not, Bool.and_eq_true, decide_eq_true_eq]
              repeat (first | rw [if_pos (by omega)] | rw [if_neg (by omega)])
              all_goals first | rfl | (exfalso; omega)
            | false =>
              have h11 := of_decide_eq_false h11
              refine c_if false rfl ?_
              refine c_skip ?_
              refine q_then_normal ?_
              refine c_seq ?_
              refine c_seq ?_
              refine c_region ?_
              refine JL_run 4 [] [32, 1] 1 ⟨[(32, vB (decide (x.kind = 5))), (1, .p 0 0)], [⟨98, [vI x.kind, vS x.a, vS x.b, vI x.n]⟩]⟩ [] [] (by kernel_rfl) on wn ?_
              cases h12 : decide (x.kind = 5) with
              | true =>
                have h12 := of_decide_eq_true h12
                exact absurd h12 h4
              | false =>
                have h12 := of_decide_eq_false h12
                refine JL_run 14 [] [46, 42, 1] 1 ⟨[(46, vB (!(decide (x.kind = 5)))), (42, vB false), (1, .p 0 0)], [⟨98, [vI x.kind, vS x.a, vS x.b, vI x.n]⟩]⟩ [] [] (by kernel_rfl) on wn ?_
                cases h13 : decide (x.kind = 5) with
                | true =>
                  have h13 := of_decide_eq_true h13
                  exact absurd h13 h4
                | false =>
                  have h13 := of_decide_eq_false h13
                  refine JL_run 5 [] [51] 0 ⟨[(51, vB (!(decide (x.n = 0))))], []⟩ [] [] (by kernel_rfl) on wn ?_
                  refine l_nil (q_then_normal ?_)
                  cases h14 : decide (x.n = 0) with
                  | true =>
                    have h14 := of_decide_eq_true h14
                    refine c_if false rfl ?_
                    refine c_skip ?_
                    refine q_then_normal ?_
                    refine c_seq ?_
                    refine c_region ?_
                    refine JL_run 1 [] [2] 0 ⟨[(2, vI 0)], []⟩ [] [] (by kernel_rfl) on wn ?_
                    refine l_nil (q_then_normal ?_)
                    refine c_ret ?_
                    refine q_ret (.inl rfl) [vI 0] rfl (fun bs w hS => ?_)
                    refine ⟨?_, hS.kp⟩
                    simp only [retOf, den, List.map_cons, List.map_nil]
                    unfold mOp
                    try simp only [h1, h2, h3, h4, h10, h11, h12, h13, h14, emp_size, ne_eq, not_true_eq_false, not_false_eq_true, true_or, or_true, false_or, or_false, and_true, true_and, and_false, false_and, and_self, or_self, if_true, if_false, Bool.true_eq_false, Bool.false_eq_true, reduceIte, Classical.not_not, Bool.and_eq_true, decide_eq_true_eq]
                    repeat (first | rw [if_pos (by omega)] | rw [if_neg (by omega)])
                    all_goals first | rfl | (exfalso; omega)
                  | false =>
                    have h14 := of_decide_eq_false h14
                    refine c_if true rfl ?_
                    refine c_seq ?_
                    refine c_region ?_
                    refine JL_run 1 [] [2] 0 ⟨[(2, vI 2)], []⟩ [] [] (by kernel_rfl) on wn ?_
                    refine l_nil (q_then_normal ?_)
                    refine c_ret ?_
                    refine q_then_ret (q_ret (.inl rfl) [vI 2] rfl (fun bs w hS => ?_))
                    refine ⟨?_, hS.kp⟩
                    simp only [retOf, den, List.map_cons, List.map_nil]
                    unfold mOp
                    try simp only [h1, h2, h3, h4, h10, h11, h12, h13, h14, emp_size, ne_eq, not_true_eq_false, not_false_eq_true, true_or, or_true, false_or, or_false, and_true, true_and, and_false, false_and, and_self, or_self, if_true, if_false, Bool.true_eq_false, Bool.false_eq_true, reduceIte, Classical.not_not, Bool.and_eq_true, decide_eq_true_eq]
                    repeat (first | rw [if_pos (by omega)] | rw [if_neg (by omega)])
                    all_goals first | rfl | (exfalso; omega)
          | false =>
            have h10 := of_decide_eq_false h10
            refine c_if true rfl ?_
            refine c_seq ?_
            refine c_region ?_
            refine JL_run 1 [] [2] 0 ⟨[(2, vI 4)], []⟩ [] [] (by kernel_rfl) on wn ?_
            refine l_nil (q_then_normal ?_)
            refine c_ret ?_
            refine q_then_ret (q_ret (.inl rfl) [vI 4] rfl (fun bs w hS => ?_))
            refine ⟨?_, hS.kp⟩
            simp only [retOf, den, List.map_cons, List.map_nil]
            unfold mOp
            try simp only [h1, h2, h3, h4, h10, emp_size, ne_eq, not_true_eq_false, not_false_eq_true, true_or, or_true, false_or, or_false, and_true, true_and, and_false, false_and, and_self, or_self, if_true, if_false, Bool.true_eq_false, Bool.false_eq_true, reduceIte, Classical.not_not, Bool.and_eq_true, decide_eq_true_eq]
            repeat (first | rw [if_pos (by omega)] | rw [if_neg (by omega)])
            all_goals first | rfl | (exfalso; omega)
      | false =>
        refine JL_run 9 [] [24, 1] 1 ⟨[(24, vB true), (1, .p 0 0)], [⟨98, [vI x.kind, vS x.a, vS x.b, vI x.n]⟩]⟩ [] [] (by kernel_rfl) on wn ?_
        refine l_nil (q_then_normal ?_)
        refine c_if true rfl ?_
        refine c_seq ?_
        refine c_region ?_
        refine JL_run 1 [] [2] 0 ⟨[(2, vI 4)], []⟩ [] [] (by kernel_rfl) on wn ?_
        refine l_nil (q_then_normal ?_)
        refine c_ret ?_
        refine q_then_ret (q_ret (.inl rfl) [vI 4] rfl (fun bs w hS => ?_))
        refine ⟨?_, hS.kp⟩
        simp only [retOf, den, List.map_cons, List.map_nil]
        unfold mOp
        try simp only [h1, h2, h3, emp_size, ne_eq, not_true_eq_false, not_false_eq_true, true_or, or_true, false_or, or_false, and_true, true_and, and_false, false_and, and_self, or_self, if_true, if_false, Bool.true_eq_false, Bool.false_eq_true, reduceIte, Classical.not_not, Bool.and_eq_true, decide_eq_true_eq]
        repeat (first | rw [if_pos (by omega)] | rw [if_neg (by omega)])
        all_goals first | rfl | (exfalso; omega)

theorem ref_OpFault {B : Nat → Prop} (x : DOp) (w : World) (hx : Rds.sub B w x) : Calls Try.prog 150 #[.agg #[.int .i64 x.kind, .string x.a, .string x.b, .int .i64 x.n]] w fun e w' => e = .returned (.int .i64 (mOp x)) ∧ Kp [] w w' := by
  have okx := Rds.okof hx
  refine calls_J0 35 Try.func150 rfl rfl [.agg #[.int .i64 x.kind, .string x.a, .string x.b, .int .i64 x.n]] rfl ?_
  refine c_seq ?_
  refine c_region ?_
  refine JL_run 2 [] [1] 1 ⟨[(1, .p 0 0)], [⟨98, [vI x.kind, vS x.a, vS x.b, vI x.n]⟩]⟩ [] [] (by kernel_rfl) on wn ?_
  refine l_nil (q_then_normal ?_)
  refine c_seq ?_
  refine c_seq ?_
  refine c_region ?_
  refine JL_run 2 [] [4, 1] 1 ⟨[(4, vI x.kind), (1, .p 0 0)], [⟨98, [vI x.kind, vS x.a, vS x.b, vI x.n]⟩]⟩ [] [] (by kernel_rfl) on wn ?_
  refine l_pure 64 [] [vI x.kind, vI 1, vI 6] (.bool (inB x.kind 1 6)) Try.call64 rfl rfl rfl rfl (fun bs w hS => ref_In _ _ _ w) ?_
  refine JL_run 1 [] [6, 1] 1 ⟨[(6, vB (!(inB x.kind 1 6))), (1, .p 0 0)], [⟨98, [vI x.kind, vS x.a, vS x.b, vI x.n]⟩]⟩ [] [] (by kernel_rfl) on wn ?_
  refine l_nil (q_then_normal ?_)
  cases h1 : inB x.kind 1 6 with
  | true =>
    simp only [inB, Bool.and_eq_true, Bool.and_eq_false_iff, decide_eq_true_eq, decide_eq_false_iff_not] at h1
    refine c_if false rfl ?_
    refine c_skip ?_
    refine q_then_normal ?_
    refine c_seq ?_
    refine c_seq ?_
    refine c_region ?_
    refine JL_run 2 [] [8, 1] 1 ⟨[(8, vS x.a), (1, .p 0 0)], [⟨98, [vI x.kind, vS x.a, vS x.b, vI x.n]⟩]⟩ [] [] (by kernel_rfl) on wn ?_
    refine l_pure 95 [] [vS x.a] (.bool (mName x.a)) Try.call95 rfl rfl rfl rfl (fun bs w hS => ref_NameMay _ w (And.left okx)) ?_
    refine JL_run 2 [] [11, 1] 1 ⟨[(11, vB (!(mName x.a))), (1, .p 0 0)], [⟨98, [vI x.kind, vS x.a, vS x.b, vI x.n]⟩]⟩ [] [] (by kernel_rfl) on wn ?_
    cases h2 : mName x.a with
    | true =>
      refine JL_run 4 [] [15, 11, 1] 1 ⟨[(15, vB (!(decide (x.b = emp)))), (11, vB false), (1, .p 0 0)], [⟨98, [vI x.kind, vS x.a, vS x.b, vI x.n]⟩]⟩ [] [] (by kernel_rfl) on wn ?_
      cases h3 : decide (x.b = emp) with
      | true =>
        have h3 := of_decide_eq_true h3
        have hzh3 : x.b.size = 0 := by rw [h3]; rfl
        refine JL_run 5 [] [20, 1] 1 ⟨[(20, vB false), (1, .p 0 0)], [⟨98, [vI x.kind, vS x.a, vS x.b, vI x.n]⟩]⟩ [] [] (by kernel_rfl) on wn ?_
        refine l_nil (q_then_normal ?_)
        refine c_if false rfl ?_
        refine c_skip ?_
        refine q_then_normal ?_
        refine c_seq ?_
        refine c_seq ?_
        refine c_region ?_
        refine JL_run 4 [] [24, 1] 1 ⟨[(24, vB (decide ((12 : Int) < (x.b.size : Int)))), (1, .p 0 0)], [⟨98, [vI x.kind, vS x.a, vS x.b, vI x.n]⟩]⟩ [] [] (by kernel_rfl) on wn ?_
        refine l_nil (q_then_normal ?_)
        cases h4 : decide ((12 : Int) < (x.b.size : Int)) with
        | true =>
          have h4 := of_decide_eq_true h4
          refine c_if true rfl ?_
          refine c_seq ?_
          refine c_region ?_
          refine JL_run 1 [] [2] 0 ⟨[(2, vI 1)], []⟩ [] [] (by kernel_rfl) on wn ?_
          refine l_nil (q_then_normal ?_)
          refine c_ret ?_
          refine q_then_ret (q_ret (.inl rfl) [vI 1] rfl (fun bs w hS => ?_))
          refine ⟨?_, hS.kp⟩
          simp only [retOf, den, List.map_cons, List.map_nil]
          unfold mOp
          try simp only [h1, h2, h3, h4, emp_size, ne_eq, not_true_eq_false, not_false_eq_true, true_or, or_true, false_or, or_false, and_true, true_and, and_false, false_and, and_self, or_self, if_true, if_false, Bool.true_eq_false, Bool.false_eq_true, reduceIte, Classical.not_not, Bool.and_eq_true, decide_eq_true_eq]
          repeat (first | rw [if_pos (by omega)] | rw [if_neg (by omega)])
          all_goals first | rfl | (exfalso; omega)
        | false =>
          have h4 := of_decide_eq_false h4
          refine c_if false rfl ?_
          refine c_skip ?_
          refine q_then_normal ?_
          refine c_seq ?_
          refine c_seq ?_
          refine c_region ?_
          refine JL_run 3 [] [27, 1] 1 ⟨[(27, vB (decide (x.kind = 5))), (1, .p 0 0)], [⟨98, [vI x.kind, vS x.a, vS x.b, vI x.n]⟩]⟩ [] [] (by kernel_rfl) on wn ?_
          refine l_nil (q_then_normal ?_)
          cases h5 : decide (x.kind = 5) with
          | true =>
            have h5 := of_decide_eq_true h5
            refine c_if true rfl ?_
            refine c_seq ?_
            refine c_region ?_
            refine JL_run 2 [] [29] 0 ⟨[(29, vI x.n)], []⟩ [] [] (by kernel_rfl) on wn ?_
            refine l_pure 64 [] [vI x.n, vI 1, vI 1073741824] (.bool (inB x.n 1 1073741824)) Try.call64 rfl rfl rfl rfl (fun bs w hS => ref_In _ _ _ w) ?_
            refine JL_run 1 [] [31] 0 ⟨[(31, vB (!(inB x.n 1 1073741824)))], []⟩ [] [] (by kernel_rfl) on wn ?_
            refine l_nil (q_then_normal ?_)
            cases h6 : inB x.n 1 1073741824 with
            | true =>
              simp only [inB, Bool.and_eq_true, Bool.and_eq_false_iff, decide_eq_true_eq, decide_eq_false_iff_not] at h6
              refine c_if false rfl ?_
              refine c_skip ?_
              refine q_then_normal ?_
              refine c_seq ?_
              refine c_region ?_
              refine JL_run 1 [] [2] 0 ⟨[(2, vI 0)], []⟩ [] [] (by kernel_rfl) on wn ?_
              refine l_nil (q_then_normal ?_)
              refine c_ret ?_
              refine q_ret (.inl rfl) [vI 0] rfl (fun bs w hS => ?_)
              refine ⟨?_, hS.kp⟩
              simp only [retOf, den, List.map_cons, List.map_nil]
              unfold mOp
              try simp only [h1, h2, h3, h4, h5, h6, emp_size, ne_eq, not_true_eq_false, not_false_eq_true, true_or, or_true, false_or, or_false, and_true, true_and, and_false, false_and, and_self, or_self, if_true, if_false, Bool.true_eq_false, Bool.false_eq_true, reduceIte, Classical.not_not, Bool.and_eq_true, decide_eq_true_eq]
              repeat (first | rw [if_pos (by omega)] | rw [if_neg (by omega)])
              all_goals first | rfl | (exfalso; omega)
            | false =>
              simp only [inB, Bool.and_eq_true, Bool.and_eq_false_iff, decide_eq_true_eq, decide_eq_false_iff_not] at h6
              refine c_if true rfl ?_
              refine c_seq ?_
              refine c_region ?_
              refine JL_run 1 [] [2] 0 ⟨[(2, vI 2)], []⟩ [] [] (by kernel_rfl) on wn ?_
              refine l_nil (q_then_normal ?_)
              refine c_ret ?_
              refine q_then_ret (q_ret (.inl rfl) [vI 2] rfl (fun bs w hS => ?_))
              refine ⟨?_, hS.kp⟩
              simp only [retOf, den, List.map_cons, List.map_nil]
              unfold mOp
              try simp only [h1, h2, h3, h4, h5, h6, emp_size, ne_eq, not_true_eq_false, not_false_eq_true, true_or, or_true, false_or, or_false, and_true, true_and, and_false, false_and, and_self, or_self, if_true, if_false, Bool.true_eq_false, Bool.false_eq_true, reduceIte, Classical.not_not, Bool.and_eq_true, decide_eq_true_eq]
              repeat (first | rw [if_pos (by omega)] | rw [if_neg (by omega)])
              all_goals first | rfl | (exfalso; omega)
          | false =>
            have h5 := of_decide_eq_false h5
            refine c_if false rfl ?_
            refine c_seq ?_
            refine c_region ?_
            refine JL_run 3 [] [34] 0 ⟨[(34, vB (!(decide (x.n = 0))))], []⟩ [] [] (by kernel_rfl) on wn ?_
            refine l_nil (q_then_normal ?_)
            cases h7 : decide (x.n = 0) with
            | true =>
              have h7 := of_decide_eq_true h7
              refine c_if false rfl ?_
              refine c_skip ?_
              refine q_then_normal ?_
              refine c_seq ?_
              refine c_region ?_
              refine JL_run 1 [] [2] 0 ⟨[(2, vI 0)], []⟩ [] [] (by kernel_rfl) on wn ?_
              refine l_nil (q_then_normal ?_)
              refine c_ret ?_
              refine q_ret (.inl rfl) [vI 0] rfl (fun bs w hS => ?_)
              refine ⟨?_, hS.kp⟩
              simp only [retOf, den, List.map_cons, List.map_nil]
              unfold mOp
              try simp only [h1, h2, h3, h4, h5, h7, emp_size, ne_eq, not_true_eq_false, not_false_eq_true, true_or, or_true, false_or, or_false, and_true, true_and, and_false, false_and, and_self, or_self, if_true, if_false, Bool.true_eq_false, Bool.false_eq_true, reduceIte, Classical.not_not, Bool.and_eq_true, decide_eq_true_eq]
              repeat (first | rw [if_pos (by omega)] | rw [if_neg (by omega)])
              all_goals first | rfl | (exfalso; omega)
            | false =>
              have h7 := of_decide_eq_false h7
              refine c_if true rfl ?_
              refine c_seq ?_
              refine c_region ?_
              refine JL_run 1 [] [2] 0 ⟨[(2, vI 2)], []⟩ [] [] (by kernel_rfl) on wn ?_
              refine l_nil (q_then_normal ?_)
              refine c_ret ?_
              refine q_then_ret (q_ret (.inl rfl) [vI 2] rfl (fun bs w hS => ?_))
              refine ⟨?_, hS.kp⟩
              simp only [retOf, den, List.map_cons, List.map_nil]
              unfold mOp
              try simp only [h1, h2, h3, h4, h5, h7, emp_size, ne_eq, not_true_eq_false, not_false_eq_true, true_or, or_true, false_or, or_false, and_true, true_and, and_false, false_and, and_self, or_self, if_true, if_false, Bool.true_eq_false, Bool.false_eq_true, reduceIte, Classical.not_not, Bool.and_eq_true, decide_eq_true_eq]
              repeat (first | rw [if_pos (by omega)] | rw [if_neg (by omega)])
              all_goals first | rfl | (exfalso; omega)
      | false =>
        have h3 := of_decide_eq_false h3
        refine JL_run 5 [] [20, 1] 1 ⟨[(20, vB (!(decide (x.kind = 5)))), (1, .p 0 0)], [⟨98, [vI x.kind, vS x.a, vS x.b, vI x.n]⟩]⟩ [] [] (by kernel_rfl) on wn ?_
        refine l_nil (q_then_normal ?_)
        cases h8 : decide (x.kind = 5) with
        | true =>
          have h8 := of_decide_eq_true h8
          refine c_if false rfl ?_
          refine c_skip ?_
          refine q_then_normal ?_
          refine c_seq ?_
          refine c_seq ?_
          refine c_region ?_
          refine JL_run 4 [] [24, 1] 1 ⟨[(24, vB (decide ((12 : Int) < (x.b.size : Int)))), (1, .p 0 0)], [⟨98, [vI x.kind, vS x.a, vS x.b, vI x.n]⟩]⟩ [] [] (by kernel_rfl) on wn ?_
          refine l_nil (q_then_normal ?_)
          cases h9 : decide ((12 : Int) < (x.b.size : Int)) with
          | true =>
            have h9 := of_decide_eq_true h9
            refine c_if true rfl ?_
            refine c_seq ?_
            refine c_region ?_
            refine JL_run 1 [] [2] 0 ⟨[(2, vI 1)], []⟩ [] [] (by kernel_rfl) on wn ?_
            refine l_nil (q_then_normal ?_)
            refine c_ret ?_
            refine q_then_ret (q_ret (.inl rfl) [vI 1] rfl (fun bs w hS => ?_))
            refine ⟨?_, hS.kp⟩
            simp only [retOf, den, List.map_cons, List.map_nil]
            unfold mOp
            try simp only [h1, h2, h3, h8, h9, emp_size, ne_eq, not_true_eq_false, not_false_eq_true, true_or, or_true, false_or, or_false, and_true, true_and, and_false, false_and, and_self, or_self, if_true, if_false, Bool.true_eq_false, Bool.false_eq_true, reduceIte, Classical.not_not, Bool.and_eq_true, decide_eq_true_eq]
            repeat (first | rw [if_pos (by omega)] | rw [if_neg (by omega)])
            all_goals first | rfl | (exfalso; omega)
          | false =>
            have h9 := of_decide_eq_false h9
            refine c_if false rfl ?_
            refine c_skip ?_
            refine q_then_normal ?_
            refine c_seq ?_
            refine c_seq ?_
            refine c_region ?_
            refine JL_run 3 [] [27, 1] 1 ⟨[(27, vB (decide (x.kind = 5))), (1, .p 0 0)], [⟨98, [vI x.kind, vS x.a, vS x.b, vI x.n]⟩]⟩ [] [] (by kernel_rfl) on wn ?_
            refine l_nil (q_then_normal ?_)
            cases h10 : decide (x.kind = 5) with
            | true =>
              have h10 := of_decide_eq_true h10
              refine c_if true rfl ?_
              refine c_seq ?_
              refine c_region ?_
              refine JL_run 2 [] [29] 0 ⟨[(29, vI x.n)], []⟩ [] [] (by kernel_rfl) on wn ?_
              refine l_pure 64 [] [vI x.n, vI 1, vI 1073741824] (.bool (inB x.n 1 1073741824)) Try.call64 rfl rfl rfl rfl (fun bs w hS => ref_In _ _ _ w) ?_
              refine JL_run 1 [] [31] 0 ⟨[(31, vB (!(inB x.n 1 1073741824)))], []⟩ [] [] (by kernel_rfl) on wn ?_
              refine l_nil (q_then_normal ?_)
              cases h11 : inB x.n 1 1073741824 with
              | true =>
                simp only [inB, Bool.and_eq_true, Bool.and_eq_false_iff, decide_eq_true_eq, decide_eq_false_iff_not] at h11
                refine c_if false rfl ?_
                refine c_skip ?_
                refine q_then_normal ?_
                refine c_seq ?_
                refine c_region ?_
                refine JL_run 1 [] [2] 0 ⟨[(2, vI 0)], []⟩ [] [] (by kernel_rfl) on wn ?_
                refine l_nil (q_then_normal ?_)
                refine c_ret ?_
                refine q_ret (.inl rfl) [vI 0] rfl (fun bs w hS => ?_)
                refine ⟨?_, hS.kp⟩
                simp only [retOf, den, List.map_cons, List.map_nil]
                unfold mOp
                try simp only [h1, h2, h3, h8, h9, h10, h11, emp_size, ne_eq, not_true_eq_false, not_false_eq_true, true_or, or_true, false_or, or_false, and_true, true_and, and_false, false_and, and_self, or_self, if_true, if_false, Bool.true_eq_false, Bool.false_eq_true, reduceIte, Classical.not_not, Bool.and_eq_true, decide_eq_true_eq]
                repeat (first | rw [if_pos (by omega)] | rw [if_neg (by omega)])
                all_goals first | rfl | (exfalso; omega)
              | false =>
                simp only [inB, Bool.and_eq_true, Bool.and_eq_false_iff, decide_eq_true_eq, decide_eq_false_iff_not] at h11
                refine c_if true rfl ?_
                refine c_seq ?_
                refine c_region ?_
                refine JL_run 1 [] [2] 0 ⟨[(2, vI 2)], []⟩ [] [] (by kernel_rfl) on wn ?_
                refine l_nil (q_then_normal ?_)
                refine c_ret ?_
                refine q_then_ret (q_ret (.inl rfl) [vI 2] rfl (fun bs w hS => ?_))
                refine ⟨?_, hS.kp⟩
                simp only [retOf, den, List.map_cons, List.map_nil]
                unfold mOp
                try simp only [h1, h2, h3, h8, h9, h10, h11, emp_size, ne_eq, not_true_eq_false, not_false_eq_true, true_or, or_true, false_or, or_false, and_true, true_and, and_false, false_and, and_self, or_self, if_true, if_false, Bool.true_eq_false, Bool.false_eq_true, reduceIte, Classical.not_not, Bool.and_eq_true, decide_eq_true_eq]
                repeat (first | rw [if_pos (by omega)] | rw [if_neg (by omega)])
                all_goals first | rfl | (exfalso; omega)
            | false =>
              have h10 := of_decide_eq_false h10
              exact absurd h8 h10
        | false =>
          have h8 := of_decide_eq_false h8
          refine c_if true rfl ?_
          refine c_seq ?_
          refine c_region ?_
          refine JL_run 1 [] [2] 0 ⟨[(2, vI 4)], []⟩ [] [] (by kernel_rfl) on wn ?_
          refine l_nil (q_then_normal ?_)
          refine c_ret ?_
          refine q_then_ret (q_ret (.inl rfl) [vI 4] rfl (fun bs w hS => ?_))
          refine ⟨?_, hS.kp⟩
          simp only [retOf, den, List.map_cons, List.map_nil]
          unfold mOp
          try simp only [h1, h2, h3, h8, emp_size, ne_eq, not_true_eq_false, not_false_eq_true, true_or, or_true, false_or, or_false, and_true, true_and, and_false, false_and, and_self, or_self, if_true, if_false, Bool.true_eq_false, Bool.false_eq_true, reduceIte, Classical.not_not, Bool.and_eq_true, decide_eq_true_eq]
          repeat (first | rw [if_pos (by omega)] | rw [if_neg (by omega)])
          all_goals first | rfl | (exfalso; omega)
    | false =>
      refine JL_run 9 [] [20, 1] 1 ⟨[(20, vB true), (1, .p 0 0)], [⟨98, [vI x.kind, vS x.a, vS x.b, vI x.n]⟩]⟩ [] [] (by kernel_rfl) on wn ?_
      refine l_nil (q_then_normal ?_)
      refine c_if true rfl ?_
      refine c_seq ?_
      refine c_region ?_
      refine JL_run 1 [] [2] 0 ⟨[(2, vI 4)], []⟩ [] [] (by kernel_rfl) on wn ?_
      refine l_nil (q_then_normal ?_)
      refine c_ret ?_
      refine q_then_ret (q_ret (.inl rfl) [vI 4] rfl (fun bs w hS => ?_))
      refine ⟨?_, hS.kp⟩
      simp only [retOf, den, List.map_cons, List.map_nil]
      unfold mOp
      try simp only [h1, h2, emp_size, ne_eq, not_true_eq_false, not_false_eq_true, true_or, or_true, false_or, or_false, and_true, true_and, and_false, false_and, and_self, or_self, if_true, if_false, Bool.true_eq_false, Bool.false_eq_true, reduceIte, Classical.not_not, Bool.and_eq_true, decide_eq_true_eq]
      repeat (first | rw [if_pos (by omega)] | rw [if_neg (by omega)])
      all_goals first | rfl | (exfalso; omega)
  | false =>
    simp only [inB, Bool.and_eq_true, Bool.and_eq_false_iff, decide_eq_true_eq, decide_eq_false_iff_not] at h1
    refine c_if true rfl ?_
    refine c_seq ?_
    refine c_region ?_
    refine JL_run 1 [] [2] 0 ⟨[(2, vI 3)], []⟩ [] [] (by kernel_rfl) on wn ?_
    refine l_nil (q_then_normal ?_)
    refine c_ret ?_
    refine q_then_ret (q_ret (.inl rfl) [vI 3] rfl (fun bs w hS => ?_))
    refine ⟨?_, hS.kp⟩
    simp only [retOf, den, List.map_cons, List.map_nil]
    unfold mOp
    try simp only [h1, emp_size, ne_eq, not_true_eq_false, not_false_eq_true, true_or, or_true, false_or, or_false, and_true, true_and, and_false, false_and, and_self, or_self, if_true, if_false, Bool.true_eq_false, Bool.false_eq_true, reduceIte, Classical.not_not, Bool.and_eq_true, decide_eq_true_eq]
    repeat (first | rw [if_pos (by omega)] | rw [if_neg (by omega)])
    all_goals first | rfl | (exfalso; omega)

theorem command_Check {B : Nat → Prop} (x : DCommand) (w : World) (hx : Rds.sub B w x) : Calls Try.prog 115 #[.agg #[.int .i64 x.kind, .int .i64 x.client, .int .i64 x.session, .int .i64 x.seq, .int .i64 x.acked, .int .i64 x.op.kind, .string x.op.a, .string x.op.b, .int .i64 x.op.n]] w fun e w' => e = .returned (.int .i64 (mCmd x)) ∧ Kp [] w w' := by
  have okx := Rds.okof hx
  refine calls_J0 74 Try.func115 rfl rfl [.agg #[.int .i64 x.kind, .int .i64 x.client, .int .i64 x.session, .int .i64 x.seq, .int .i64 x.acked, .int .i64 x.op.kind, .string x.op.a, .string x.op.b, .int .i64 x.op.n]] rfl ?_
  refine c_seq ?_
  refine c_region ?_
  refine JL_run 2 [] [1] 1 ⟨[(1, .p 0 0)], [⟨100, [vI x.kind, vI x.client, vI x.session, vI x.seq, vI x.acked, vI x.op.kind, vS x.op.a, vS x.op.b, vI x.op.n]⟩]⟩ [] [] (by kernel_rfl) on wn ?_
  refine l_nil (q_then_normal ?_)
  refine c_seq ?_
  refine c_seq ?_
  refine c_region ?_
  refine JL_run 4 [] [6, 1] 1 ⟨[(6, vB (decide (x.kind < 1))), (1, .p 0 0)], [⟨100, [vI x.kind, vI x.client, vI x.session, vI x.seq, vI x.acked, vI x.op.kind, vS x.op.a, vS x.op.b, vI x.op.n]⟩]⟩ [] [] (by kernel_rfl) on wn ?_
  cases h1 : decide (x.kind < 1) with
  | true =>
    have h1 := of_decide_eq_true h1
    refine JL_run 4 [] [10, 1] 1 ⟨[(10, vB true), (1, .p 0 0)], [⟨100, [vI x.kind, vI x.client, vI x.session, vI x.seq, vI x.acked, vI x.op.kind, vS x.op.a, vS x.op.b, vI x.op.n]⟩]⟩ [] [] (by kernel_rfl) on wn ?_
    refine l_nil (q_then_normal ?_)
    refine c_if true rfl ?_
    refine c_seq ?_
    refine c_region ?_
    refine JL_run 1 [] [2] 0 ⟨[(2, vI 3)], []⟩ [] [] (by kernel_rfl) on wn ?_
    refine l_nil (q_then_normal ?_)
    refine c_ret ?_
    refine q_then_ret (q_ret (.inl rfl) [vI 3] rfl (fun bs w hS => ?_))
    refine ⟨?_, hS.kp⟩
    simp only [retOf, den, List.map_cons, List.map_nil]
    unfold mCmd
    try simp only [h1, emp_size, ne_eq, not_true_eq_false, not_false_eq_true, true_or, or_true, false_or, or_false, and_true, true_and, and_false, false_and, and_self, or_self, if_true, if_false, Bool.true_eq_false, Bool.false_eq_true, reduceIte, Classical.not_not, Bool.and_eq_true, decide_eq_true_eq]
    repeat (first | rw [if_pos (by omega)] | rw [if_neg (by omega)])
    all_goals first | rfl | (exfalso; omega)
  | false =>
    have h1 := of_decide_eq_false h1
    refine JL_run 4 [] [10, 1] 1 ⟨[(10, vB (decide ((3 : Int) < x.kind))), (1, .p 0 0)], [⟨100, [vI x.kind, vI x.client, vI x.session, vI x.seq, vI x.acked, vI x.op.kind, vS x.op.a, vS x.op.b, vI x.op.n]⟩]⟩ [] [] (by kernel_rfl) on wn ?_
    refine l_nil (q_then_normal ?_)
    cases h2 : decide ((3 : Int) < x.kind) with
    | true =>
      have h2 := of_decide_eq_true h2
      refine c_if true rfl ?_
      refine c_seq ?_
      refine c_region ?_
      refine JL_run 1 [] [2] 0 ⟨[(2, vI 3)], []⟩ [] [] (by kernel_rfl) on wn ?_
      refine l_nil (q_then_normal ?_)
      refine c_ret ?_
      refine q_then_ret (q_ret (.inl rfl) [vI 3] rfl (fun bs w hS => ?_))
      refine ⟨?_, hS.kp⟩
      simp only [retOf, den, List.map_cons, List.map_nil]
      unfold mCmd
      try simp only [h1, h2, emp_size, ne_eq, not_true_eq_false, not_false_eq_true, true_or, or_true, false_or, or_false, and_true, true_and, and_false, false_and, and_self, or_self, if_true, if_false, Bool.true_eq_false, Bool.false_eq_true, reduceIte, Classical.not_not, Bool.and_eq_true, decide_eq_true_eq]
      repeat (first | rw [if_pos (by omega)] | rw [if_neg (by omega)])
      all_goals first | rfl | (exfalso; omega)
    | false =>
      have h2 := of_decide_eq_false h2
      refine c_if false rfl ?_
      refine c_skip ?_
      refine q_then_normal ?_
      refine c_seq ?_
      refine c_seq ?_
      refine c_region ?_
      refine JL_run 4 [] [14, 1] 1 ⟨[(14, vB (decide (x.client < 1))), (1, .p 0 0)], [⟨100, [vI x.kind, vI x.client, vI x.session, vI x.seq, vI x.acked, vI x.op.kind, vS x.op.a, vS x.op.b, vI x.op.n]⟩]⟩ [] [] (by kernel_rfl) on wn ?_
      cases h3 : decide (x.client < 1) with
      | true =>
        have h3 := of_decide_eq_true h3
        refine JL_run 4 [] [18, 1] 1 ⟨[(18, vB true), (1, .p 0 0)], [⟨100, [vI x.kind, vI x.client, vI x.session, vI x.seq, vI x.acked, vI x.op.kind, vS x.op.a, vS x.op.b, vI x.op.n]⟩]⟩ [] [] (by kernel_rfl) on wn ?_
        refine l_nil (q_then_normal ?_)
        refine c_if true rfl ?_
        refine c_seq ?_
        refine c_region ?_
        refine JL_run 1 [] [2] 0 ⟨[(2, vI 2)], []⟩ [] [] (by kernel_rfl) on wn ?_
        refine l_nil (q_then_normal ?_)
        refine c_ret ?_
        refine q_then_ret (q_ret (.inl rfl) [vI 2] rfl (fun bs w hS => ?_))
        refine ⟨?_, hS.kp⟩
        simp only [retOf, den, List.map_cons, List.map_nil]
        unfold mCmd
        try simp only [h1, h2, h3, emp_size, ne_eq, not_true_eq_false, not_false_eq_true, true_or, or_true, false_or, or_false, and_true, true_and, and_false, false_and, and_self, or_self, if_true, if_false, Bool.true_eq_false, Bool.false_eq_true, reduceIte, Classical.not_not, Bool.and_eq_true, decide_eq_true_eq]
        repeat (first | rw [if_pos (by omega)] | rw [if_neg (by omega)])
        all_goals first | rfl | (exfalso; omega)
      | false =>
        have h3 := of_decide_eq_false h3
        refine JL_run 4 [] [18, 1] 1 ⟨[(18, vB (decide ((9 : Int) < x.client))), (1, .p 0 0)], [⟨100, [vI x.kind, vI x.client, vI x.session, vI x.seq, vI x.acked, vI x.op.kind, vS x.op.a, vS x.op.b, vI x.op.n]⟩]⟩ [] [] (by kernel_rfl) on wn ?_
        refine l_nil (q_then_normal ?_)
        cases h4 : decide ((9 : Int) < x.client) with
        | true =>
          have h4 := of_decide_eq_true h4
          refine c_if true rfl ?_
          refine c_seq ?_
          refine c_region ?_
          refine JL_run 1 [] [2] 0 ⟨[(2, vI 2)], []⟩ [] [] (by kernel_rfl) on wn ?_
          refine l_nil (q_then_normal ?_)
          refine c_ret ?_
          refine q_then_ret (q_ret (.inl rfl) [vI 2] rfl (fun bs w hS => ?_))
          refine ⟨?_, hS.kp⟩
          simp only [retOf, den, List.map_cons, List.map_nil]
          unfold mCmd
          try simp only [h1, h2, h3, h4, emp_size, ne_eq, not_true_eq_false, not_false_eq_true, true_or, or_true, false_or, or_false, and_true, true_and, and_false, false_and, and_self, or_self, if_true, if_false, Bool.true_eq_false, Bool.false_eq_true, reduceIte, Classical.not_not, Bool.and_eq_true, decide_eq_true_eq]
          repeat (first | rw [if_pos (by omega)] | rw [if_neg (by omega)])
          all_goals first | rfl | (exfalso; omega)
        | false =>
          have h4 := of_decide_eq_false h4
          refine c_if false rfl ?_
          refine c_skip ?_
          refine q_then_normal ?_
          refine c_seq ?_
          refine c_seq ?_
          refine c_region ?_
          refine JL_run 3 [] [21, 1] 1 ⟨[(21, vB (!(decide (x.kind = 2)))), (1, .p 0 0)], [⟨100, [vI x.kind, vI x.client, vI x.session, vI x.seq, vI x.acked, vI x.op.kind, vS x.op.a, vS x.op.b, vI x.op.n]⟩]⟩ [] [] (by kernel_rfl) on wn ?_
          refine l_nil (q_then_normal ?_)
          cases h5 : decide (x.kind = 2) with
          | true =>
            have h5 := of_decide_eq_true h5
            refine c_if false rfl ?_
            refine c_skip ?_
            refine q_then_normal ?_
            refine c_seq ?_
            refine c_seq ?_
            refine c_region ?_
            refine JL_run 4 [] [44, 1] 1 ⟨[(44, vB (decide (x.session < 1))), (1, .p 0 0)], [⟨100, [vI x.kind, vI x.client, vI x.session, vI x.seq, vI x.acked, vI x.op.kind, vS x.op.a, vS x.op.b, vI x.op.n]⟩]⟩ [] [] (by kernel_rfl) on wn ?_
            cases h6 : decide (x.session < 1) with
            | true =>
              have h6 := of_decide_eq_true h6
              refine JL_run 26 [] [70, 1] 1 ⟨[(70, vB true), (1, .p 0 0)], [⟨100, [vI x.kind, vI x.client, vI x.session, vI x.seq, vI x.acked, vI x.op.kind, vS x.op.a, vS x.op.b, vI x.op.n]⟩]⟩ [] [] (by kernel_rfl) on wn ?_
              refine l_nil (q_then_normal ?_)
              refine c_if true rfl ?_
              refine c_seq ?_
              refine c_region ?_
              refine JL_run 1 [] [2] 0 ⟨[(2, vI 2)], []⟩ [] [] (by kernel_rfl) on wn ?_
              refine l_nil (q_then_normal ?_)
              refine c_ret ?_
              refine q_then_ret (q_ret (.inl rfl) [vI 2] rfl (fun bs w hS => ?_))
              refine ⟨?_, hS.kp⟩
              simp only [retOf, den, List.map_cons, List.map_nil]
              unfold mCmd
              try simp only [h1, h2, h3, h4, h5, h6, emp_size, ne_eq, not_true_eq_false, not_false_eq_true, true_or, or_true, false_or, or_false, and_true, true_and, and_false, false_and, and_self, or_self, if_true, if_false, Bool.true_eq_false, Bool.false_eq_true, reduceIte, Classical.not_not, Bool.and_eq_true, decide_eq_true_eq]
              repeat (first | rw [if_pos (by omega)] | rw [if_neg (by omega)])
              all_goals first | rfl | (exfalso; omega)
            | false =>
              have h6 := of_decide_eq_false h6
              refine JL_run 5 [] [49, 1] 1 ⟨[(49, vB (decide ((1073741824 : Int) < x.session))), (1, .p 0 0)], [⟨100, [vI x.kind, vI x.client, vI x.session, vI x.seq, vI x.acked, vI x.op.kind, vS x.op.a, vS x.op.b, vI x.op.n]⟩]⟩ [] [] (by kernel_rfl) on wn ?_
              cases h7 : decide ((1073741824 : Int) < x.session) with
              | true =>
                have h7 := of_decide_eq_true h7
                refine JL_run 21 [] [70, 1] 1 ⟨[(70, vB true), (1, .p 0 0)], [⟨100, [vI x.kind, vI x.client, vI x.session, vI x.seq, vI x.acked, vI x.op.kind, vS x.op.a, vS x.op.b, vI x.op.n]⟩]⟩ [] [] (by kernel_rfl) on wn ?_
                refine l_nil (q_then_normal ?_)
                refine c_if true rfl ?_
                refine c_seq ?_
                refine c_region ?_
                refine JL_run 1 [] [2] 0 ⟨[(2, vI 2)], []⟩ [] [] (by kernel_rfl) on wn ?_
                refine l_nil (q_then_normal ?_)
                refine c_ret ?_
                refine q_then_ret (q_ret (.inl rfl) [vI 2] rfl (fun bs w hS => ?_))
                refine ⟨?_, hS.kp⟩
                simp only [retOf, den, List.map_cons, List.map_nil]
                unfold mCmd
                try simp only [h1, h2, h3, h4, h5, h6, h7, emp_size, ne_eq, not_true_eq_false, not_false_eq_true, true_or, or_true, false_or, or_false, and_true, true_and, and_false, false_and, and_self, or_self, if_true, if_false, Bool.true_eq_false, Bool.false_eq_true, reduceIte, Classical.not_not, Bool.and_eq_true, decide_eq_true_eq]
                repeat (first | rw [if_pos (by omega)] | rw [if_neg (by omega)])
                all_goals first | rfl | (exfalso; omega)
              | false =>
                have h7 := of_decide_eq_false h7
                refine JL_run 5 [] [54, 1] 1 ⟨[(54, vB (decide (x.seq < 1))), (1, .p 0 0)], [⟨100, [vI x.kind, vI x.client, vI x.session, vI x.seq, vI x.acked, vI x.op.kind, vS x.op.a, vS x.op.b, vI x.op.n]⟩]⟩ [] [] (by kernel_rfl) on wn ?_
                cases h8 : decide (x.seq < 1) with
                | true =>
                  have h8 := of_decide_eq_true h8
                  refine JL_run 16 [] [70, 1] 1 ⟨[(70, vB true), (1, .p 0 0)], [⟨100, [vI x.kind, vI x.client, vI x.session, vI x.seq, vI x.acked, vI x.op.kind, vS x.op.a, vS x.op.b, vI x.op.n]⟩]⟩ [] [] (by kernel_rfl) on wn ?_
                  refine l_nil (q_then_normal ?_)
                  refine c_if true rfl ?_
                  refine c_seq ?_
                  refine c_region ?_
                  refine JL_run 1 [] [2] 0 ⟨[(2, vI 2)], []⟩ [] [] (by kernel_rfl) on wn ?_
                  refine l_nil (q_then_normal ?_)
                  refine c_ret ?_
                  refine q_then_ret (q_ret (.inl rfl) [vI 2] rfl (fun bs w hS => ?_))
                  refine ⟨?_, hS.kp⟩
                  simp only [retOf, den, List.map_cons, List.map_nil]
                  unfold mCmd
                  try simp only [h1, h2, h3, h4, h5, h6, h7, h8, emp_size, ne_eq, not_true_eq_false, not_false_eq_true, true_or, or_true, false_or, or_false, and_true, true_and, and_false, false_and, and_self, or_self, if_true, if_false, Bool.true_eq_false, Bool.false_eq_true, reduceIte, Classical.not_not, Bool.and_eq_true, decide_eq_true_eq]
                  repeat (first | rw [if_pos (by omega)] | rw [if_neg (by omega)])
                  all_goals first | rfl | (exfalso; omega)
                | false =>
                  have h8 := of_decide_eq_false h8
                  refine JL_run 5 [] [59, 1] 1 ⟨[(59, vB (decide ((1048576 : Int) < x.seq))), (1, .p 0 0)], [⟨100, [vI x.kind, vI x.client, vI x.session, vI x.seq, vI x.acked, vI x.op.kind, vS x.op.a, vS x.op.b, vI x.op.n]⟩]⟩ [] [] (by kernel_rfl) on wn ?_
                  cases h9 : decide ((1048576 : Int) < x.seq) with
                  | true =>
                    have h9 := of_decide_eq_true h9
                    refine JL_run 11 [] [70, 1] 1 ⟨[(70, vB true), (1, .p 0 0)], [⟨100, [vI x.kind, vI x.client, vI x.session, vI x.seq, vI x.acked, vI x.op.kind, vS x.op.a, vS x.op.b, vI x.op.n]⟩]⟩ [] [] (by kernel_rfl) on wn ?_
                    refine l_nil (q_then_normal ?_)
                    refine c_if true rfl ?_
                    refine c_seq ?_
                    refine c_region ?_
                    refine JL_run 1 [] [2] 0 ⟨[(2, vI 2)], []⟩ [] [] (by kernel_rfl) on wn ?_
                    refine l_nil (q_then_normal ?_)
                    refine c_ret ?_
                    refine q_then_ret (q_ret (.inl rfl) [vI 2] rfl (fun bs w hS => ?_))
                    refine ⟨?_, hS.kp⟩
                    simp only [retOf, den, List.map_cons, List.map_nil]
                    unfold mCmd
                    try simp only [h1, h2, h3, h4, h5, h6, h7, h8, h9, emp_size, ne_eq, not_true_eq_false, not_false_eq_true, true_or, or_true, false_or, or_false, and_true, true_and, and_false, false_and, and_self, or_self, if_true, if_false, Bool.true_eq_false, Bool.false_eq_true, reduceIte, Classical.not_not, Bool.and_eq_true, decide_eq_true_eq]
                    repeat (first | rw [if_pos (by omega)] | rw [if_neg (by omega)])
                    all_goals first | rfl | (exfalso; omega)
                  | false =>
                    have h9 := of_decide_eq_false h9
                    refine JL_run 5 [] [64, 1] 1 ⟨[(64, vB (decide (x.acked < 0))), (1, .p 0 0)], [⟨100, [vI x.kind, vI x.client, vI x.session, vI x.seq, vI x.acked, vI x.op.kind, vS x.op.a, vS x.op.b, vI x.op.n]⟩]⟩ [] [] (by kernel_rfl) on wn ?_
                    cases h10 : decide (x.acked < 0) with
                    | true =>
                      have h10 := of_decide_eq_true h10
                      refine JL_run 6 [] [70, 1] 1 ⟨[(70, vB true), (1, .p 0 0)], [⟨100, [vI x.kind, vI x.client, vI x.session, vI x.seq, vI x.acked, vI x.op.kind, vS x.op.a, vS x.op.b, vI x.op.n]⟩]⟩ [] [] (by kernel_rfl) on wn ?_
                      refine l_nil (q_then_normal ?_)
                      refine c_if true rfl ?_
                      refine c_seq ?_
                      refine c_region ?_
                      refine JL_run 1 [] [2] 0 ⟨[(2, vI 2)], []⟩ [] [] (by kernel_rfl) on wn ?_
                      refine l_nil (q_then_normal ?_)
                      refine c_ret ?_
                      refine q_then_ret (q_ret (.inl rfl) [vI 2] rfl (fun bs w hS => ?_))
                      refine ⟨?_, hS.kp⟩
                      simp only [retOf, den, List.map_cons, List.map_nil]
                      unfold mCmd
                      try simp only [h1, h2, h3, h4, h5, h6, h7, h8, h9, h10, emp_size, ne_eq, not_true_eq_false, not_false_eq_true, true_or, or_true, false_or, or_false, and_true, true_and, and_false, false_and, and_self, or_self, if_true, if_false, Bool.true_eq_false, Bool.false_eq_true, reduceIte, Classical.not_not, Bool.and_eq_true, decide_eq_true_eq]
                      repeat (first | rw [if_pos (by omega)] | rw [if_neg (by omega)])
                      all_goals first | rfl | (exfalso; omega)
                    | false =>
                      have h10 := of_decide_eq_false h10
                      refine JL_run 6 [] [70, 1] 1 ⟨[(70, vB (decide (x.seq ≤ x.acked))), (1, .p 0 0)], [⟨100, [vI x.kind, vI x.client, vI x.session, vI x.seq, vI x.acked, vI x.op.kind, vS x.op.a, vS x.op.b, vI x.op.n]⟩]⟩ [] [] (by kernel_rfl) on wn ?_
                      refine l_nil (q_then_normal ?_)
                      cases h11 : decide (x.seq ≤ x.acked) with
                      | true =>
                        have h11 := of_decide_eq_true h11
                        refine c_if true rfl ?_
                        refine c_seq ?_
                        refine c_region ?_
                        refine JL_run 1 [] [2] 0 ⟨[(2, vI 2)], []⟩ [] [] (by kernel_rfl) on wn ?_
                        refine l_nil (q_then_normal ?_)
                        refine c_ret ?_
                        refine q_then_ret (q_ret (.inl rfl) [vI 2] rfl (fun bs w hS => ?_))
                        refine ⟨?_, hS.kp⟩
                        simp only [retOf, den, List.map_cons, List.map_nil]
                        unfold mCmd
                        try simp only [h1, h2, h3, h4, h5, h6, h7, h8, h9, h10, h11, emp_size, ne_eq, not_true_eq_false, not_false_eq_true, true_or, or_true, false_or, or_false, and_true, true_and, and_false, false_and, and_self, or_self, if_true, if_false, Bool.true_eq_false, Bool.false_eq_true, reduceIte, Classical.not_not, Bool.and_eq_true, decide_eq_true_eq]
                        repeat (first | rw [if_pos (by omega)] | rw [if_neg (by omega)])
                        all_goals first | rfl | (exfalso; omega)
                      | false =>
                        have h11 := of_decide_eq_false h11
                        refine c_if false rfl ?_
                        refine c_skip ?_
                        refine q_then_normal ?_
                        refine c_seq ?_
                        refine c_region ?_
                        refine JL_run 2 [] [72] 0 ⟨[(72, .v (.agg #[.int .i64 x.op.kind, .string x.op.a, .string x.op.b, .int .i64 x.op.n]))], []⟩ [] [] (by kernel_rfl) on wn ?_
                        refine l_pure 149 [] [.v (.agg #[.int .i64 x.op.kind, .string x.op.a, .string x.op.b, .int .i64 x.op.n])] (.int .i64 (mOp x.op)) Try.call149 rfl rfl rfl rfl (fun bs w hS => command_CheckOp (B := anyB) x.op w ⟨(And.left okx), (And.right okx)⟩) ?_
                        refine JL_run 1 [] [2] 0 ⟨[(2, vI (mOp x.op))], []⟩ [] [] (by kernel_rfl) on wn ?_
                        refine l_nil (q_then_normal ?_)
                        refine c_ret ?_
                        refine q_ret (.inl rfl) [vI (mOp x.op)] rfl (fun bs w hS => ?_)
                        refine ⟨?_, hS.kp⟩
                        simp only [retOf, den, List.map_cons, List.map_nil]
                        unfold mCmd
                        try simp only [h1, h2, h3, h4, h5, h6, h7, h8, h9, h10, h11, emp_size, ne_eq, not_true_eq_false, not_false_eq_true, true_or, or_true, false_or, or_false, and_true, true_and, and_false, false_and, and_self, or_self, if_true, if_false, Bool.true_eq_false, Bool.false_eq_true, reduceIte, Classical.not_not, Bool.and_eq_true, decide_eq_true_eq]
                        repeat (first | rw [if_pos (by omega)] | rw [if_neg (by omega)])
                        all_goals first | rfl | (exfalso; omega)
          | false =>
            have h5 := of_decide_eq_false h5
            refine c_if true rfl ?_
            refine c_seq ?_
            refine c_seq ?_
            refine c_region ?_
            refine JL_run 4 [] [25, 1] 1 ⟨[(25, vB (!(decide (x.session = 0)))), (1, .p 0 0)], [⟨100, [vI x.kind, vI x.client, vI x.session, vI x.seq, vI x.acked, vI x.op.kind, vS x.op.a, vS x.op.b, vI x.op.n]⟩]⟩ [] [] (by kernel_rfl) on wn ?_
            cases h12 : decide (x.session = 0) with
            | true =>
              have h12 := of_decide_eq_true h12
              refine JL_run 5 [] [30, 1] 1 ⟨[(30, vB (!(decide (x.seq = 0)))), (1, .p 0 0)], [⟨100, [vI x.kind, vI x.client, vI x.session, vI x.seq, vI x.acked, vI x.op.kind, vS x.op.a, vS x.op.b, vI x.op.n]⟩]⟩ [] [] (by kernel_rfl) on wn ?_
              cases h13 : decide (x.seq = 0) with
              | true =>
                have h13 := of_decide_eq_true h13
                refine JL_run 5 [] [35, 1] 1 ⟨[(35, vB (!(decide (x.acked = 0)))), (1, .p 0 0)], [⟨100, [vI x.kind, vI x.client, vI x.session, vI x.seq, vI x.acked, vI x.op.kind, vS x.op.a, vS x.op.b, vI x.op.n]⟩]⟩ [] [] (by kernel_rfl) on wn ?_
                cases h14 : decide (x.acked = 0) with
                | true =>
                  have h14 := of_decide_eq_true h14
                  refine JL_run 5 [(3, .val (.bool (!((decide (x.op.kind = 0)) && ((decide (x.op.a = emp)) && ((decide (x.op.b = emp)) && ((decide (x.op.n = 0)) && true)))))))] [40] 0 ⟨[(40, vB (!((decide (x.op.kind = 0)) && ((decide (x.op.a = emp)) && ((decide (x.op.b = emp)) && ((decide (x.op.n = 0)) && true))))))], []⟩ [∀ w, (do eqGuard .neq 98 (.tmp 37) (.tmp 38) (.agg #[.int .i64 x.op.kind, .string x.op.a, .string x.op.b, .int .i64 x.op.n]) (.agg #[.int .i64 0, .string emp, .string emp, .int .i64 0]); binOp .neq 98 (.agg #[.int .i64 x.op.kind, .string x.op.a, .string x.op.b, .int .i64 x.op.n]) (.agg #[.int .i64 0, .string emp, .string emp, .int .i64 0]) : Sem Value).run Try.prog w = .ok (.bool (!((decide (x.op.kind = 0)) && ((decide (x.op.a = emp)) && ((decide (x.op.b = emp)) && ((decide (x.op.n = 0)) && true)))))) w] [] (by kernel_rfl) (oc (neq_agg (by kernel_rfl) (by kernel_rfl)) on) wn ?_
                  refine l_nil (q_then_normal ?_)
                  cases h15 : (decide (x.op.kind = 0)) && ((decide (x.op.a = emp)) && ((decide (x.op.b = emp)) && ((decide (x.op.n = 0)) && true))) with
                  | true =>
                    simp only [Bool.and_eq_true, decide_eq_true_eq, and_true] at h15
                    refine c_if false rfl ?_
                    refine c_skip ?_
                    refine q_then_normal ?_
                    refine c_seq ?_
                    refine c_region ?_
                    refine JL_run 1 [] [2] 0 ⟨[(2, vI 0)], []⟩ [] [] (by kernel_rfl) on wn ?_
                    refine l_nil (q_then_normal ?_)
                    refine c_ret ?_
                    refine q_then_ret (q_ret (.inl rfl) [vI 0] rfl (fun bs w hS => ?_))
                    refine ⟨?_, hS.kp⟩
                    simp only [retOf, den, List.map_cons, List.map_nil]
                    unfold mCmd
                    try simp only [h1, h2, h3, h4, h5, h12, h13, h14, h15, emp_size, ne_eq, not_true_eq_false, not_false_eq_true, true_or, or_true, false_or, or_false, and_true, true_and, and_false, false_and, and_self, or_self, if_true, if_false, Bool.true_eq_false, Bool.false_eq_true, reduceIte, Classical.not_not, Bool.and_eq_true, decide_eq_true_eq]
                    repeat (first | rw [if_pos (by omega)] | rw [if_neg (by omega)])
                    all_goals first | rfl | (exfalso; omega)
                  | false =>
                    rw [Bool.eq_false_iff] at h15
                    simp only [ne_eq, Bool.and_eq_true, decide_eq_true_eq, and_true] at h15
                    refine c_if true rfl ?_
                    refine c_seq ?_
                    refine c_region ?_
                    refine JL_run 1 [] [2] 0 ⟨[(2, vI 4)], []⟩ [] [] (by kernel_rfl) on wn ?_
                    refine l_nil (q_then_normal ?_)
                    refine c_ret ?_
                    refine q_then_ret (q_then_ret (q_ret (.inl rfl) [vI 4] rfl (fun bs w hS => ?_)))
                    refine ⟨?_, hS.kp⟩
                    simp only [retOf, den, List.map_cons, List.map_nil]
                    unfold mCmd
                    try simp only [h1, h2, h3, h4, h5, h12, h13, h14, h15, emp_size, ne_eq, not_true_eq_false, not_false_eq_true, true_or, or_true, false_or, or_false, and_true, true_and, and_false, false_and, and_self, or_self, if_true, if_false, Bool.true_eq_false, Bool.false_eq_true, reduceIte, Classical.not_not, Bool.and_eq_true, decide_eq_true_eq]
                    repeat (first | rw [if_pos (by omega)] | rw [if_neg (by omega)])
                    all_goals first | rfl | (exfalso; omega)
                | false =>
                  have h14 := of_decide_eq_false h14
                  refine JL_run 5 [] [40] 0 ⟨[(40, vB true)], []⟩ [] [] (by kernel_rfl) on wn ?_
                  refine l_nil (q_then_normal ?_)
                  refine c_if true rfl ?_
                  refine c_seq ?_
                  refine c_region ?_
                  refine JL_run 1 [] [2] 0 ⟨[(2, vI 4)], []⟩ [] [] (by kernel_rfl) on wn ?_
                  refine l_nil (q_then_normal ?_)
                  refine c_ret ?_
                  refine q_then_ret (q_then_ret (q_ret (.inl rfl) [vI 4] rfl (fun bs w hS => ?_)))
                  refine ⟨?_, hS.kp⟩
                  simp only [retOf, den, List.map_cons, List.map_nil]
                  unfold mCmd
                  try simp only [h1, h2, h3, h4, h5, h12, h13, h14, emp_size, ne_eq, not_true_eq_false, not_false_eq_true, true_or, or_true, false_or, or_false, and_true, true_and, and_false, false_and, and_self, or_self, if_true, if_false, Bool.true_eq_false, Bool.false_eq_true, reduceIte, Classical.not_not, Bool.and_eq_true, decide_eq_true_eq]
                  repeat (first | rw [if_pos (by omega)] | rw [if_neg (by omega)])
                  all_goals first | rfl | (exfalso; omega)
              | false =>
                have h13 := of_decide_eq_false h13
                refine JL_run 10 [] [40] 0 ⟨[(40, vB true)], []⟩ [] [] (by kernel_rfl) on wn ?_
                refine l_nil (q_then_normal ?_)
                refine c_if true rfl ?_
                refine c_seq ?_
                refine c_region ?_
                refine JL_run 1 [] [2] 0 ⟨[(2, vI 4)], []⟩ [] [] (by kernel_rfl) on wn ?_
                refine l_nil (q_then_normal ?_)
                refine c_ret ?_
                refine q_then_ret (q_then_ret (q_ret (.inl rfl) [vI 4] rfl (fun bs w hS => ?_)))
                refine ⟨?_, hS.kp⟩
                simp only [retOf, den, List.map_cons, List.map_nil]
                unfold mCmd
                try simp only [h1, h2, h3, h4, h5, h12, h13, emp_size, ne_eq, not_true_eq_false, not_false_eq_true, true_or, or_true, false_or, or_false, and_true, true_and, and_false, false_and, and_self, or_self, if_true, if_false, Bool.true_eq_false, Bool.false_eq_true, reduceIte, Classical.not_not, Bool.and_eq_true, decide_eq_true_eq]
                repeat (first | rw [if_pos (by omega)] | rw [if_neg (by omega)])
                all_goals first | rfl | (exfalso; omega)
            | false =>
              have h12 := of_decide_eq_false h12
              refine JL_run 15 [] [40] 0 ⟨[(40, vB true)], []⟩ [] [] (by kernel_rfl) on wn ?_
              refine l_nil (q_then_normal ?_)
              refine c_if true rfl ?_
              refine c_seq ?_
              refine c_region ?_
              refine JL_run 1 [] [2] 0 ⟨[(2, vI 4)], []⟩ [] [] (by kernel_rfl) on wn ?_
              refine l_nil (q_then_normal ?_)
              refine c_ret ?_
              refine q_then_ret (q_then_ret (q_ret (.inl rfl) [vI 4] rfl (fun bs w hS => ?_)))
              refine ⟨?_, hS.kp⟩
              simp only [retOf, den, List.map_cons, List.map_nil]
              unfold mCmd
              try simp only [h1, h2, h3, h4, h5, h12, emp_size, ne_eq, not_true_eq_false, not_false_eq_true, true_or, or_true, false_or, or_false, and_true, true_and, and_false, false_and, and_self, or_self, if_true, if_false, Bool.true_eq_false, Bool.false_eq_true, reduceIte, Classical.not_not, Bool.and_eq_true, decide_eq_true_eq]
              repeat (first | rw [if_pos (by omega)] | rw [if_neg (by omega)])
              all_goals first | rfl | (exfalso; omega)

theorem ref_CommandFault {B : Nat → Prop} (x : DCommand) (w : World) (hx : Rds.sub B w x) : Calls Try.prog 118 #[.agg #[.int .i64 x.kind, .int .i64 x.client, .int .i64 x.session, .int .i64 x.seq, .int .i64 x.acked, .int .i64 x.op.kind, .string x.op.a, .string x.op.b, .int .i64 x.op.n]] w fun e w' => e = .returned (.int .i64 (mCmd x)) ∧ Kp [] w w' := by
  have okx := Rds.okof hx
  refine calls_J0 73 Try.func118 rfl rfl [.agg #[.int .i64 x.kind, .int .i64 x.client, .int .i64 x.session, .int .i64 x.seq, .int .i64 x.acked, .int .i64 x.op.kind, .string x.op.a, .string x.op.b, .int .i64 x.op.n]] rfl ?_
  refine c_seq ?_
  refine c_region ?_
  refine JL_run 2 [] [1] 1 ⟨[(1, .p 0 0)], [⟨100, [vI x.kind, vI x.client, vI x.session, vI x.seq, vI x.acked, vI x.op.kind, vS x.op.a, vS x.op.b, vI x.op.n]⟩]⟩ [] [] (by kernel_rfl) on wn ?_
  refine l_nil (q_then_normal ?_)
  refine c_seq ?_
  refine c_seq ?_
  refine c_region ?_
  refine JL_run 2 [] [4, 1] 1 ⟨[(4, vI x.kind), (1, .p 0 0)], [⟨100, [vI x.kind, vI x.client, vI x.session, vI x.seq, vI x.acked, vI x.op.kind, vS x.op.a, vS x.op.b, vI x.op.n]⟩]⟩ [] [] (by kernel_rfl) on wn ?_
  refine l_pure 64 [] [vI x.kind, vI 1, vI 3] (.bool (inB x.kind 1 3)) Try.call64 rfl rfl rfl rfl (fun bs w hS => ref_In _ _ _ w) ?_
  refine JL_run 1 [] [6, 1] 1 ⟨[(6, vB (!(inB x.kind 1 3))), (1, .p 0 0)], [⟨100, [vI x.kind, vI x.client, vI x.session, vI x.seq, vI x.acked, vI x.op.kind, vS x.op.a, vS x.op.b, vI x.op.n]⟩]⟩ [] [] (by kernel_rfl) on wn ?_
  refine l_nil (q_then_normal ?_)
  cases h1 : inB x.kind 1 3 with
  | true =>
    simp only [inB, Bool.and_eq_true, Bool.and_eq_false_iff, decide_eq_true_eq, decide_eq_false_iff_not] at h1
    refine c_if false rfl ?_
    refine c_skip ?_
    refine q_then_normal ?_
    refine c_seq ?_
    refine c_seq ?_
    refine c_region ?_
    refine JL_run 2 [] [8, 1] 1 ⟨[(8, vI x.client), (1, .p 0 0)], [⟨100, [vI x.kind, vI x.client, vI x.session, vI x.seq, vI x.acked, vI x.op.kind, vS x.op.a, vS x.op.b, vI x.op.n]⟩]⟩ [] [] (by kernel_rfl) on wn ?_
    refine l_pure 64 [] [vI x.client, vI 1, vI 9] (.bool (inB x.client 1 9)) Try.call64 rfl rfl rfl rfl (fun bs w hS => ref_In _ _ _ w) ?_
    refine JL_run 1 [] [10, 1] 1 ⟨[(10, vB (!(inB x.client 1 9))), (1, .p 0 0)], [⟨100, [vI x.kind, vI x.client, vI x.session, vI x.seq, vI x.acked, vI x.op.kind, vS x.op.a, vS x.op.b, vI x.op.n]⟩]⟩ [] [] (by kernel_rfl) on wn ?_
    refine l_nil (q_then_normal ?_)
    cases h2 : inB x.client 1 9 with
    | true =>
      simp only [inB, Bool.and_eq_true, Bool.and_eq_false_iff, decide_eq_true_eq, decide_eq_false_iff_not] at h2
      refine c_if false rfl ?_
      refine c_skip ?_
      refine q_then_normal ?_
      refine c_seq ?_
      refine c_seq ?_
      refine c_region ?_
      refine JL_run 3 [] [13, 1] 1 ⟨[(13, vB (decide (x.kind = 2))), (1, .p 0 0)], [⟨100, [vI x.kind, vI x.client, vI x.session, vI x.seq, vI x.acked, vI x.op.kind, vS x.op.a, vS x.op.b, vI x.op.n]⟩]⟩ [] [] (by kernel_rfl) on wn ?_
      refine l_nil (q_then_normal ?_)
      cases h3 : decide (x.kind = 2) with
      | true =>
        have h3 := of_decide_eq_true h3
        refine c_if true rfl ?_
        refine c_seq ?_
        refine c_seq ?_
        refine c_region ?_
        refine JL_run 2 [] [15, 1] 1 ⟨[(15, vI x.session), (1, .p 0 0)], [⟨100, [vI x.kind, vI x.client, vI x.session, vI x.seq, vI x.acked, vI x.op.kind, vS x.op.a, vS x.op.b, vI x.op.n]⟩]⟩ [] [] (by kernel_rfl) on wn ?_
        refine l_pure 64 [] [vI x.session, vI 1, vI 1073741824] (.bool (inB x.session 1 1073741824)) Try.call64 rfl rfl rfl rfl (fun bs w hS => ref_In _ _ _ w) ?_
        refine JL_run 2 [] [18, 1] 1 ⟨[(18, vB (!(inB x.session 1 1073741824))), (1, .p 0 0)], [⟨100, [vI x.kind, vI x.client, vI x.session, vI x.seq, vI x.acked, vI x.op.kind, vS x.op.a, vS x.op.b, vI x.op.n]⟩]⟩ [] [] (by kernel_rfl) on wn ?_
        cases h4 : inB x.session 1 1073741824 with
        | true =>
          simp only [inB, Bool.and_eq_true, Bool.and_eq_false_iff, decide_eq_true_eq, decide_eq_false_iff_not] at h4
          refine JL_run 2 [] [20, 18, 1] 1 ⟨[(20, vI x.seq), (18, vB false), (1, .p 0 0)], [⟨100, [vI x.kind, vI x.client, vI x.session, vI x.seq, vI x.acked, vI x.op.kind, vS x.op.a, vS x.op.b, vI x.op.n]⟩]⟩ [] [] (by kernel_rfl) on wn ?_
          refine l_pure 64 [] [vI x.seq, vI 1, vI 1048576] (.bool (inB x.seq 1 1048576)) Try.call64 rfl rfl rfl rfl (fun bs w hS => ref_In _ _ _ w) ?_
          refine JL_run 3 [] [24, 1] 1 ⟨[(24, vB (!(inB x.seq 1 1048576))), (1, .p 0 0)], [⟨100, [vI x.kind, vI x.client, vI x.session, vI x.seq, vI x.acked, vI x.op.kind, vS x.op.a, vS x.op.b, vI x.op.n]⟩]⟩ [] [] (by kernel_rfl) on wn ?_
          cases h5 : inB x.seq 1 1048576 with
          | true =>
            simp only [inB, Bool.and_eq_true, Bool.and_eq_false_iff, decide_eq_true_eq, decide_eq_false_iff_not] at h5
            refine JL_run 5 [] [29, 26, 24, 1] 1 ⟨[(29, vI (x.seq - 1)), (26, vI x.acked), (24, vB false), (1, .p 0 0)], [⟨100, [vI x.kind, vI x.client, vI x.session, vI x.seq, vI x.acked, vI x.op.kind, vS x.op.a, vS x.op.b, vI x.op.n]⟩]⟩ [inR (x.seq - 1)] [] (by kernel_rfl) (oc (by unfold inR; omega) on) wn ?_
            refine l_pure 64 [] [vI x.acked, vI 0, vI (x.seq - 1)] (.bool (inB x.acked 0 (x.seq - 1))) Try.call64 rfl rfl rfl rfl (fun bs w hS => ref_In _ _ _ w) ?_
            refine JL_run 2 [] [32, 1] 1 ⟨[(32, vB (!(inB x.acked 0 (x.seq - 1)))), (1, .p 0 0)], [⟨100, [vI x.kind, vI x.client, vI x.session, vI x.seq, vI x.acked, vI x.op.kind, vS x.op.a, vS x.op.b, vI x.op.n]⟩]⟩ [] [] (by kernel_rfl) on wn ?_
            refine l_nil (q_then_normal ?_)
            cases h6 : inB x.acked 0 (x.seq - 1) with
            | true =>
              simp only [inB, Bool.and_eq_true, Bool.and_eq_false_iff, decide_eq_true_eq, decide_eq_false_iff_not] at h6
              refine c_if false rfl ?_
              refine c_skip ?_
              refine q_then_normal ?_
              refine c_seq ?_
              refine c_region ?_
              refine JL_run 2 [] [34] 0 ⟨[(34, .v (.agg #[.int .i64 x.op.kind, .string x.op.a, .string x.op.b, .int .i64 x.op.n]))], []⟩ [] [] (by kernel_rfl) on wn ?_
              refine l_pure 150 [] [.v (.agg #[.int .i64 x.op.kind, .string x.op.a, .string x.op.b, .int .i64 x.op.n])] (.int .i64 (mOp x.op)) Try.call150 rfl rfl rfl rfl (fun bs w hS => ref_OpFault (B := anyB) x.op w ⟨(And.left okx), (And.right okx)⟩) ?_
              refine JL_run 1 [] [2] 0 ⟨[(2, vI (mOp x.op))], []⟩ [] [] (by kernel_rfl) on wn ?_
              refine l_nil (q_then_normal ?_)
              refine c_ret ?_
              refine q_then_ret (q_ret (.inl rfl) [vI (mOp x.op)] rfl (fun bs w hS => ?_))
              refine ⟨?_, hS.kp⟩
              simp only [retOf, den, List.map_cons, List.map_nil]
              unfold mCmd
              try simp only [h1, h2, h3, h4, h5, h6, emp_size, ne_eq, not_true_eq_false, not_false_eq_true, true_or, or_true, false_or, or_false, and_true, true_and, and_false, false_and, and_self, or_self, if_true, if_false, Bool.true_eq_false, Bool.false_eq_true, reduceIte, Classical.not_not, Bool.and_eq_true, decide_eq_true_eq]
              repeat (first | rw [if_pos (by omega)] | rw [if_neg (by omega)])
              all_goals first | rfl | (exfalso; omega)
            | false =>
              simp only [inB, Bool.and_eq_true, Bool.and_eq_false_iff, decide_eq_true_eq, decide_eq_false_iff_not] at h6
              refine c_if true rfl ?_
              refine c_seq ?_
              refine c_region ?_
              refine JL_run 1 [] [2] 0 ⟨[(2, vI 2)], []⟩ [] [] (by kernel_rfl) on wn ?_
              refine l_nil (q_then_normal ?_)
              refine c_ret ?_
              refine q_then_ret (q_then_ret (q_ret (.inl rfl) [vI 2] rfl (fun bs w hS => ?_)))
              refine ⟨?_, hS.kp⟩
              simp only [retOf, den, List.map_cons, List.map_nil]
              unfold mCmd
              try simp only [h1, h2, h3, h4, h5, h6, emp_size, ne_eq, not_true_eq_false, not_false_eq_true, true_or, or_true, false_or, or_false, and_true, true_and, and_false, false_and, and_self, or_self, if_true, if_false, Bool.true_eq_false, Bool.false_eq_true, reduceIte, Classical.not_not, Bool.and_eq_true, decide_eq_true_eq]
              repeat (first | rw [if_pos (by omega)] | rw [if_neg (by omega)])
              all_goals first | rfl | (exfalso; omega)
          | false =>
            simp only [inB, Bool.and_eq_true, Bool.and_eq_false_iff, decide_eq_true_eq, decide_eq_false_iff_not] at h5
            refine JL_run 8 [] [32, 1] 1 ⟨[(32, vB true), (1, .p 0 0)], [⟨100, [vI x.kind, vI x.client, vI x.session, vI x.seq, vI x.acked, vI x.op.kind, vS x.op.a, vS x.op.b, vI x.op.n]⟩]⟩ [] [] (by kernel_rfl) on wn ?_
            refine l_nil (q_then_normal ?_)
            refine c_if true rfl ?_
            refine c_seq ?_
            refine c_region ?_
            refine JL_run 1 [] [2] 0 ⟨[(2, vI 2)], []⟩ [] [] (by kernel_rfl) on wn ?_
            refine l_nil (q_then_normal ?_)
            refine c_ret ?_
            refine q_then_ret (q_then_ret (q_ret (.inl rfl) [vI 2] rfl (fun bs w hS => ?_)))
            refine ⟨?_, hS.kp⟩
            simp only [retOf, den, List.map_cons, List.map_nil]
            unfold mCmd
            try simp only [h1, h2, h3, h4, h5, emp_size, ne_eq, not_true_eq_false, not_false_eq_true, true_or, or_true, false_or, or_false, and_true, true_and, and_false, false_and, and_self, or_self, if_true, if_false, Bool.true_eq_false, Bool.false_eq_true, reduceIte, Classical.not_not, Bool.and_eq_true, decide_eq_true_eq]
            repeat (first | rw [if_pos (by omega)] | rw [if_neg (by omega)])
            all_goals first | rfl | (exfalso; omega)
        | false =>
          simp only [inB, Bool.and_eq_true, Bool.and_eq_false_iff, decide_eq_true_eq, decide_eq_false_iff_not] at h4
          refine JL_run 14 [] [32, 1] 1 ⟨[(32, vB true), (1, .p 0 0)], [⟨100, [vI x.kind, vI x.client, vI x.session, vI x.seq, vI x.acked, vI x.op.kind, vS x.op.a, vS x.op.b, vI x.op.n]⟩]⟩ [] [] (by kernel_rfl) on wn ?_
          refine l_nil (q_then_normal ?_)
          refine c_if true rfl ?_
          refine c_seq ?_
          refine c_region ?_
          refine JL_run 1 [] [2] 0 ⟨[(2, vI 2)], []⟩ [] [] (by kernel_rfl) on wn ?_
          refine l_nil (q_then_normal ?_)
          refine c_ret ?_
          refine q_then_ret (q_then_ret (q_ret (.inl rfl) [vI 2] rfl (fun bs w hS => ?_)))
          refine ⟨?_, hS.kp⟩
          simp only [retOf, den, List.map_cons, List.map_nil]
          unfold mCmd
          try simp only [h1, h2, h3, h4, emp_size, ne_eq, not_true_eq_false, not_false_eq_true, true_or, or_true, false_or, or_false, and_true, true_and, and_false, false_and, and_self, or_self, if_true, if_false, Bool.true_eq_false, Bool.false_eq_true, reduceIte, Classical.not_not, Bool.and_eq_true, decide_eq_true_eq]
          repeat (first | rw [if_pos (by omega)] | rw [if_neg (by omega)])
          all_goals first | rfl | (exfalso; omega)
      | false =>
        have h3 := of_decide_eq_false h3
        refine c_if false rfl ?_
        refine c_skip ?_
        refine q_then_normal ?_
        refine c_seq ?_
        refine c_seq ?_
        refine c_region ?_
        refine JL_run 4 [] [39, 1] 1 ⟨[(39, vB (!(decide (x.session = 0)))), (1, .p 0 0)], [⟨100, [vI x.kind, vI x.client, vI x.session, vI x.seq, vI x.acked, vI x.op.kind, vS x.op.a, vS x.op.b, vI x.op.n]⟩]⟩ [] [] (by kernel_rfl) on wn ?_
        cases h7 : decide (x.session = 0) with
        | true =>
          have h7 := of_decide_eq_true h7
          refine JL_run 5 [] [44, 1] 1 ⟨[(44, vB (!(decide (x.seq = 0)))), (1, .p 0 0)], [⟨100, [vI x.kind, vI x.client, vI x.session, vI x.seq, vI x.acked, vI x.op.kind, vS x.op.a, vS x.op.b, vI x.op.n]⟩]⟩ [] [] (by kernel_rfl) on wn ?_
          cases h8 : decide (x.seq = 0) with
          | true =>
            have h8 := of_decide_eq_true h8
            refine JL_run 5 [] [49, 1] 1 ⟨[(49, vB (!(decide (x.acked = 0)))), (1, .p 0 0)], [⟨100, [vI x.kind, vI x.client, vI x.session, vI x.seq, vI x.acked, vI x.op.kind, vS x.op.a, vS x.op.b, vI x.op.n]⟩]⟩ [] [] (by kernel_rfl) on wn ?_
            cases h9 : decide (x.acked = 0) with
            | true =>
              have h9 := of_decide_eq_true h9
              refine JL_run 6 [] [55, 1] 1 ⟨[(55, vB (!(decide (x.op.kind = 0)))), (1, .p 0 0)], [⟨100, [vI x.kind, vI x.client, vI x.session, vI x.seq, vI x.acked, vI x.op.kind, vS x.op.a, vS x.op.b, vI x.op.n]⟩]⟩ [] [] (by kernel_rfl) on wn ?_
              cases h10 : decide (x.op.kind = 0) with
              | true =>
                have h10 := of_decide_eq_true h10
                refine JL_run 6 [] [61, 1] 1 ⟨[(61, vB (!(decide (x.op.a = emp)))), (1, .p 0 0)], [⟨100, [vI x.kind, vI x.client, vI x.session, vI x.seq, vI x.acked, vI x.op.kind, vS x.op.a, vS x.op.b, vI x.op.n]⟩]⟩ [] [] (by kernel_rfl) on wn ?_
                cases h11 : decide (x.op.a = emp) with
                | true =>
                  have h11 := of_decide_eq_true h11
                  have hzh11 : x.op.a.size = 0 := by rw [h11]; rfl
                  refine JL_run 6 [] [67, 1] 1 ⟨[(67, vB (!(decide (x.op.b = emp)))), (1, .p 0 0)], [⟨100, [vI x.kind, vI x.client, vI x.session, vI x.seq, vI x.acked, vI x.op.kind, vS x.op.a, vS x.op.b, vI x.op.n]⟩]⟩ [] [] (by kernel_rfl) on wn ?_
                  cases h12 : decide (x.op.b = emp) with
                  | true =>
                    have h12 := of_decide_eq_true h12
                    have hzh12 : x.op.b.size = 0 := by rw [h12]; rfl
                    refine JL_run 5 [] [72] 0 ⟨[(72, vB (!(decide (x.op.n = 0))))], []⟩ [] [] (by kernel_rfl) on wn ?_
                    refine l_nil (q_then_normal ?_)
                    cases h13 : decide (x.op.n = 0) with
                    | true =>
                      have h13 := of_decide_eq_true h13
                      refine c_if false rfl ?_
                      refine c_skip ?_
                      refine q_then_normal ?_
                      refine c_seq ?_
                      refine c_region ?_
                      refine JL_run 1 [] [2] 0 ⟨[(2, vI 0)], []⟩ [] [] (by kernel_rfl) on wn ?_
                      refine l_nil (q_then_normal ?_)
                      refine c_ret ?_
                      refine q_ret (.inl rfl) [vI 0] rfl (fun bs w hS => ?_)
                      refine ⟨?_, hS.kp⟩
                      simp only [retOf, den, List.map_cons, List.map_nil]
                      unfold mCmd
                      try simp only [h1, h2, h3, h7, h8, h9, h10, h11, h12, h13, emp_size, ne_eq, not_true_eq_false, not_false_eq_true, true_or, or_true, false_or, or_false, and_true, true_and, and_false, false_and, and_self, or_self, if_true, if_false, Bool.true_eq_false, Bool.false_eq_true, reduceIte, Classical.not_not, Bool.and_eq_true, decide_eq_true_eq]
                      repeat (first | rw [if_pos (by omega)] | rw [if_neg (by omega)])
                      all_goals first | rfl | (exfalso; omega)
                    | false =>
                      have h13 := of_decide_eq_false h13
                      refine c_if true rfl ?_
                      refine c_seq ?_
                      refine c_region ?_
                      refine JL_run 1 [] [2] 0 ⟨[(2, vI 4)], []⟩ [] [] (by kernel_rfl) on wn ?_
                      refine l_nil (q_then_normal ?_)
                      refine c_ret ?_
                      refine q_then_ret (q_ret (.inl rfl) [vI 4] rfl (fun bs w hS => ?_))
                      refine ⟨?_, hS.kp⟩
                      simp only [retOf, den, List.map_cons, List.map_nil]
                      unfold mCmd
                      try simp only [h1, h2, h3, h7, h8, h9, h10, h11, h12, h13, emp_size, ne_eq, not_true_eq_false, not_false_eq_true, true_or, or_true, false_or, or_false, and_true, true_and, and_false, false_and, and_self, or_self, if_true, if_false, Bool.true_eq_false, Bool.false_eq_true, reduceIte, Classical.not_not, Bool.and_eq_true, decide_eq_true_eq]
                      repeat (first | rw [if_pos (by omega)] | rw [if_neg (by omega)])
                      all_goals first | rfl | (exfalso; omega)
                  | false =>
                    have h12 := of_decide_eq_false h12
                    refine JL_run 5 [] [72] 0 ⟨[(72, vB true)], []⟩ [] [] (by kernel_rfl) on wn ?_
                    refine l_nil (q_then_normal ?_)
                    refine c_if true rfl ?_
                    refine c_seq ?_
                    refine c_region ?_
                    refine JL_run 1 [] [2] 0 ⟨[(2, vI 4)], []⟩ [] [] (by kernel_rfl) on wn ?_
                    refine l_nil (q_then_normal ?_)
                    refine c_ret ?_
                    refine q_then_ret (q_ret (.inl rfl) [vI 4] rfl (fun bs w hS => ?_))
                    refine ⟨?_, hS.kp⟩
                    simp only [retOf, den, List.map_cons, List.map_nil]
                    unfold mCmd
                    try simp only [h1, h2, h3, h7, h8, h9, h10, h11, h12, emp_size, ne_eq, not_true_eq_false, not_false_eq_true, true_or, or_true, false_or, or_false, and_true, true_and, and_false, false_and, and_self, or_self, if_true, if_false, Bool.true_eq_false, Bool.false_eq_true, reduceIte, Classical.not_not, Bool.and_eq_true, decide_eq_true_eq]
                    repeat (first | rw [if_pos (by omega)] | rw [if_neg (by omega)])
                    all_goals first | rfl | (exfalso; omega)
                | false =>
                  have h11 := of_decide_eq_false h11
                  refine JL_run 11 [] [72] 0 ⟨[(72, vB true)], []⟩ [] [] (by kernel_rfl) on wn ?_
                  refine l_nil (q_then_normal ?_)
                  refine c_if true rfl ?_
                  refine c_seq ?_
                  refine c_region ?_
                  refine JL_run 1 [] [2] 0 ⟨[(2, vI 4)], []⟩ [] [] (by kernel_rfl) on wn ?_
                  refine l_nil (q_then_normal ?_)
                  refine c_ret ?_
                  refine q_then_ret (q_ret (.inl rfl) [vI 4] rfl (fun bs w hS => ?_))
                  refine ⟨?_, hS.kp⟩
                  simp only [retOf, den, List.map_cons, List.map_nil]
                  unfold mCmd
                  try simp only [h1, h2, h3, h7, h8, h9, h10, h11, emp_size, ne_eq, not_true_eq_false, not_false_eq_true, true_or, or_true, false_or, or_false, and_true, true_and, and_false, false_and, and_self, or_self, if_true, if_false, Bool.true_eq_false, Bool.false_eq_true, reduceIte, Classical.not_not, Bool.and_eq_true, decide_eq_true_eq]
                  repeat (first | rw [if_pos (by omega)] | rw [if_neg (by omega)])
                  all_goals first | rfl | (exfalso; omega)
              | false =>
                have h10 := of_decide_eq_false h10
                refine JL_run 17 [] [72] 0 ⟨[(72, vB true)], []⟩ [] [] (by kernel_rfl) on wn ?_
                refine l_nil (q_then_normal ?_)
                refine c_if true rfl ?_
                refine c_seq ?_
                refine c_region ?_
                refine JL_run 1 [] [2] 0 ⟨[(2, vI 4)], []⟩ [] [] (by kernel_rfl) on wn ?_
                refine l_nil (q_then_normal ?_)
                refine c_ret ?_
                refine q_then_ret (q_ret (.inl rfl) [vI 4] rfl (fun bs w hS => ?_))
                refine ⟨?_, hS.kp⟩
                simp only [retOf, den, List.map_cons, List.map_nil]
                unfold mCmd
                try simp only [h1, h2, h3, h7, h8, h9, h10, emp_size, ne_eq, not_true_eq_false, not_false_eq_true, true_or, or_true, false_or, or_false, and_true, true_and, and_false, false_and, and_self, or_self, if_true, if_false, Bool.true_eq_false, Bool.false_eq_true, reduceIte, Classical.not_not, Bool.and_eq_true, decide_eq_true_eq]
                repeat (first | rw [if_pos (by omega)] | rw [if_neg (by omega)])
                all_goals first | rfl | (exfalso; omega)
            | false =>
              have h9 := of_decide_eq_false h9
              refine JL_run 23 [] [72] 0 ⟨[(72, vB true)], []⟩ [] [] (by kernel_rfl) on wn ?_
              refine l_nil (q_then_normal ?_)
              refine c_if true rfl ?_
              refine c_seq ?_
              refine c_region ?_
              refine JL_run 1 [] [2] 0 ⟨[(2, vI 4)], []⟩ [] [] (by kernel_rfl) on wn ?_
              refine l_nil (q_then_normal ?_)
              refine c_ret ?_
              refine q_then_ret (q_ret (.inl rfl) [vI 4] rfl (fun bs w hS => ?_))
              refine ⟨?_, hS.kp⟩
              simp only [retOf, den, List.map_cons, List.map_nil]
              unfold mCmd
              try simp only [h1, h2, h3, h7, h8, h9, emp_size, ne_eq, not_true_eq_false, not_false_eq_true, true_or, or_true, false_or, or_false, and_true, true_and, and_false, false_and, and_self, or_self, if_true, if_false, Bool.true_eq_false, Bool.false_eq_true, reduceIte, Classical.not_not, Bool.and_eq_true, decide_eq_true_eq]
              repeat (first | rw [if_pos (by omega)] | rw [if_neg (by omega)])
              all_goals first | rfl | (exfalso; omega)
          | false =>
            have h8 := of_decide_eq_false h8
            refine JL_run 28 [] [72] 0 ⟨[(72, vB true)], []⟩ [] [] (by kernel_rfl) on wn ?_
            refine l_nil (q_then_normal ?_)
            refine c_if true rfl ?_
            refine c_seq ?_
            refine c_region ?_
            refine JL_run 1 [] [2] 0 ⟨[(2, vI 4)], []⟩ [] [] (by kernel_rfl) on wn ?_
            refine l_nil (q_then_normal ?_)
            refine c_ret ?_
            refine q_then_ret (q_ret (.inl rfl) [vI 4] rfl (fun bs w hS => ?_))
            refine ⟨?_, hS.kp⟩
            simp only [retOf, den, List.map_cons, List.map_nil]
            unfold mCmd
            try simp only [h1, h2, h3, h7, h8, emp_size, ne_eq, not_true_eq_false, not_false_eq_true, true_or, or_true, false_or, or_false, and_true, true_and, and_false, false_and, and_self, or_self, if_true, if_false, Bool.true_eq_false, Bool.false_eq_true, reduceIte, Classical.not_not, Bool.and_eq_true, decide_eq_true_eq]
            repeat (first | rw [if_pos (by omega)] | rw [if_neg (by omega)])
            all_goals first | rfl | (exfalso; omega)
        | false =>
          have h7 := of_decide_eq_false h7
          refine JL_run 33 [] [72] 0 ⟨[(72, vB true)], []⟩ [] [] (by kernel_rfl) on wn ?_
          refine l_nil (q_then_normal ?_)
          refine c_if true rfl ?_
          refine c_seq ?_
          refine c_region ?_
          refine JL_run 1 [] [2] 0 ⟨[(2, vI 4)], []⟩ [] [] (by kernel_rfl) on wn ?_
          refine l_nil (q_then_normal ?_)
          refine c_ret ?_
          refine q_then_ret (q_ret (.inl rfl) [vI 4] rfl (fun bs w hS => ?_))
          refine ⟨?_, hS.kp⟩
          simp only [retOf, den, List.map_cons, List.map_nil]
          unfold mCmd
          try simp only [h1, h2, h3, h7, emp_size, ne_eq, not_true_eq_false, not_false_eq_true, true_or, or_true, false_or, or_false, and_true, true_and, and_false, false_and, and_self, or_self, if_true, if_false, Bool.true_eq_false, Bool.false_eq_true, reduceIte, Classical.not_not, Bool.and_eq_true, decide_eq_true_eq]
          repeat (first | rw [if_pos (by omega)] | rw [if_neg (by omega)])
          all_goals first | rfl | (exfalso; omega)
    | false =>
      simp only [inB, Bool.and_eq_true, Bool.and_eq_false_iff, decide_eq_true_eq, decide_eq_false_iff_not] at h2
      refine c_if true rfl ?_
      refine c_seq ?_
      refine c_region ?_
      refine JL_run 1 [] [2] 0 ⟨[(2, vI 2)], []⟩ [] [] (by kernel_rfl) on wn ?_
      refine l_nil (q_then_normal ?_)
      refine c_ret ?_
      refine q_then_ret (q_ret (.inl rfl) [vI 2] rfl (fun bs w hS => ?_))
      refine ⟨?_, hS.kp⟩
      simp only [retOf, den, List.map_cons, List.map_nil]
      unfold mCmd
      try simp only [h1, h2, emp_size, ne_eq, not_true_eq_false, not_false_eq_true, true_or, or_true, false_or, or_false, and_true, true_and, and_false, false_and, and_self, or_self, if_true, if_false, Bool.true_eq_false, Bool.false_eq_true, reduceIte, Classical.not_not, Bool.and_eq_true, decide_eq_true_eq]
      repeat (first | rw [if_pos (by omega)] | rw [if_neg (by omega)])
      all_goals first | rfl | (exfalso; omega)
  | false =>
    simp only [inB, Bool.and_eq_true, Bool.and_eq_false_iff, decide_eq_true_eq, decide_eq_false_iff_not] at h1
    refine c_if true rfl ?_
    refine c_seq ?_
    refine c_region ?_
    refine JL_run 1 [] [2] 0 ⟨[(2, vI 3)], []⟩ [] [] (by kernel_rfl) on wn ?_
    refine l_nil (q_then_normal ?_)
    refine c_ret ?_
    refine q_then_ret (q_ret (.inl rfl) [vI 3] rfl (fun bs w hS => ?_))
    refine ⟨?_, hS.kp⟩
    simp only [retOf, den, List.map_cons, List.map_nil]
    unfold mCmd
    try simp only [h1, emp_size, ne_eq, not_true_eq_false, not_false_eq_true, true_or, or_true, false_or, or_false, and_true, true_and, and_false, false_and, and_self, or_self, if_true, if_false, Bool.true_eq_false, Bool.false_eq_true, reduceIte, Classical.not_not, Bool.and_eq_true, decide_eq_true_eq]
    repeat (first | rw [if_pos (by omega)] | rw [if_neg (by omega)])
    all_goals first | rfl | (exfalso; omega)

theorem command_body (c : DCommand) (b : Nat) (t : ByteArray) (w : World) (hb : (blkR b 100 [.int .i64 c.kind, .int .i64 c.client, .int .i64 c.session, .int .i64 c.seq, .int .i64 c.acked, .int .i64 c.op.kind, .string c.op.a, .string c.op.b, .int .i64 c.op.n]).p w) (ht : t.size ≤ 9223372036854775807) (hc : Rds.ok c) : Calls Try.prog 114 #[.pointer (some ⟨b, 0, none⟩), .string t] w fun e w' => ∃ y : DCommand, e = .returned (.tuple #[.string (mBody c t).2.1, .int .i64 (mBody c t).2.2]) ∧ (((mBody c t).2.2 = 0 → y = (mBody c t).1) ∧ Rds.ok y) ∧ Kp [b] w w' ∧ (blkR b 100 [.int .i64 y.kind, .int .i64 y.client, .int .i64 y.session, .int .i64 y.seq, .int .i64 y.acked, .int .i64 y.op.kind, .string y.op.a, .string y.op.b, .int .i64 y.op.n]).p w' := by
  refine calls_J 74 (blkR b 100 [.int .i64 c.kind, .int .i64 c.client, .int .i64 c.session, .int .i64 c.seq, .int .i64 c.acked, .int .i64 c.op.kind, .string c.op.a, .string c.op.b, .int .i64 c.op.n]).fp Try.func114 rfl rfl [] [] [blkR b 100 [.int .i64 c.kind, .int .i64 c.client, .int .i64 c.session, .int .i64 c.seq, .int .i64 c.acked, .int .i64 c.op.kind, .string c.op.a, .string c.op.b, .int .i64 c.op.n]] [.v (.pointer (some (⟨b, 0, none⟩ : Addr))), vS t] [.pointer (some (⟨b, 0, none⟩ : Addr)), .string t] rfl rfl (WS.start1 w _ hb (by simp [blkR]) (blkR_lt hb)) ?_
  refine c_seq ?_
  refine c_region ?_
  refine JL_run 2 [] [0, 1] 0 ⟨[(0, .v (.pointer (some (⟨b, 0, none⟩ : Addr)))), (1, vS t)], []⟩ [] [] (by kernel_rfl) on wn ?_
  refine l_nil (q_then_normal ?_)
  refine c_seq ?_
  refine c_seq ?_
  refine c_draw 20 [] (.p 0 (.p 1 (.p 2 (.p 3 (.p 4 (.p 5 (.p 6 (.p 7 (.p 8 (.p 9 (.p 10 (.p 11 (.p 12 (.p 13 (.p 14 (.p 15 (.p 16 (.p 19 (.b 17 (.p 18 .nil) .z))))))))))))))))))) [] [blkR b 100 [.int .i64 c.kind, .int .i64 c.client, .int .i64 c.session, .int .i64 c.seq, .int .i64 c.acked, .int .i64 c.op.kind, .string c.op.a, .string c.op.b, .int .i64 c.op.n]] Try_mixed (by kernel_rfl) (pq_then (pq_then pq_body)) (List.Sublist.refl _) ?_
  refine h_quiet [] [(0, true), (1, true), (2, true), (3, true), (4, true), (5, true), (6, true), (7, true), (8, true), (9, true), (10, true), (11, true), (12, true), (13, true), (14, true), (15, true), (16, true), (19, true)] [(31, vI 0), (28, .v (.pointer (some (((⟨b, 0, none⟩ : Addr).add 5).add 3)))), (27, .v (.pointer (some ((⟨b, 0, none⟩ : Addr).add 5)))), (26, .v (.pointer (some (⟨b, 0, none⟩ : Addr)))), (25, .v (.pointer (some (⟨b, 0, none⟩ : Addr)))), (24, .v (.pointer (some (((⟨b, 0, none⟩ : Addr).add 5).add 0)))), (23, .v (.pointer (some ((⟨b, 0, none⟩ : Addr).add 5)))), (22, .v (.pointer (some (⟨b, 0, none⟩ : Addr)))), (21, .v (.pointer (some (⟨b, 0, none⟩ : Addr)))), (20, .v (.pointer (some ((⟨b, 0, none⟩ : Addr).add 4)))), (19, .v (.pointer (some (⟨b, 0, none⟩ : Addr)))), (18, .v (.pointer (some (⟨b, 0, none⟩ : Addr)))), (17, .v (.pointer (some ((⟨b, 0, none⟩ : Addr).add 3)))), (16, .v (.pointer (some (⟨b, 0, none⟩ : Addr)))), (15, .v (.pointer (some (⟨b, 0, none⟩ : Addr)))), (14, .v (.pointer (some ((⟨b, 0, none⟩ : Addr).add 2)))), (13, .v (.pointer (some (⟨b, 0, none⟩ : Addr)))), (12, .v (.pointer (some (⟨b, 0, none⟩ : Addr)))), (0, .v (.pointer (some (⟨b, 0, none⟩ : Addr)))), (1, vS t)] [] [] rfl (by kernel_rfl) on wn ?_
  refine h_local ⟨[(29, .s 0 0 5 5), (31, vI 0), (28, .v (.pointer (some (((⟨b, 0, none⟩ : Addr).add 5).add 3)))), (27, .v (.pointer (some ((⟨b, 0, none⟩ : Addr).add 5)))), (26, .v (.pointer (some (⟨b, 0, none⟩ : Addr)))), (25, .v (.pointer (some (⟨b, 0, none⟩ : Addr)))), (24, .v (.pointer (some (((⟨b, 0, none⟩ : Addr).add 5).add 0)))), (23, .v (.pointer (some ((⟨b, 0, none⟩ : Addr).add 5)))), (22, .v (.pointer (some (⟨b, 0, none⟩ : Addr)))), (21, .v (.pointer (some (⟨b, 0, none⟩ : Addr)))), (20, .v (.pointer (some ((⟨b, 0, none⟩ : Addr).add 4)))), (19, .v (.pointer (some (⟨b, 0, none⟩ : Addr)))), (18, .v (.pointer (some (⟨b, 0, none⟩ : Addr)))), (17, .v (.pointer (some ((⟨b, 0, none⟩ : Addr).add 3)))), (16, .v (.pointer (some (⟨b, 0, none⟩ : Addr)))), (15, .v (.pointer (some (⟨b, 0, none⟩ : Addr)))), (14, .v (.pointer (some ((⟨b, 0, none⟩ : Addr).add 2)))), (13, .v (.pointer (some (⟨b, 0, none⟩ : Addr)))), (12, .v (.pointer (some (⟨b, 0, none⟩ : Addr)))), (0, .v (.pointer (some (⟨b, 0, none⟩ : Addr)))), (1, vS t)], [⟨180, [.v (.pointer (some ((⟨b, 0, none⟩ : Addr).add 2))), .v (.pointer (some ((⟨b, 0, none⟩ : Addr).add 3))), .v (.pointer (some ((⟨b, 0, none⟩ : Addr).add 4))), .v (.pointer (some (((⟨b, 0, none⟩ : Addr).add 5).add 0))), .v (.pointer (some (((⟨b, 0, none⟩ : Addr).add 5).add 3)))]⟩]⟩ (by kernel_rfl) (fun bs0 bs w hp hl hS => hS.down hp hl rfl le_nil (List.Sublist.refl _)) ?_
  refine h_quiet [] [(18, true)] [(30, vI 5), (29, .s 0 0 5 5), (31, vI 0), (28, .v (.pointer (some (((⟨b, 0, none⟩ : Addr).add 5).add 3)))), (27, .v (.pointer (some ((⟨b, 0, none⟩ : Addr).add 5)))), (26, .v (.pointer (some (⟨b, 0, none⟩ : Addr)))), (25, .v (.pointer (some (⟨b, 0, none⟩ : Addr)))), (24, .v (.pointer (some (((⟨b, 0, none⟩ : Addr).add 5).add 0)))), (23, .v (.pointer (some ((⟨b, 0, none⟩ : Addr).add 5)))), (22, .v (.pointer (some (⟨b, 0, none⟩ : Addr)))), (21, .v (.pointer (some (⟨b, 0, none⟩ : Addr)))), (20, .v (.pointer (some ((⟨b, 0, none⟩ : Addr).add 4)))), (19, .v (.pointer (some (⟨b, 0, none⟩ : Addr)))), (18, .v (.pointer (some (⟨b, 0, none⟩ : Addr)))), (17, .v (.pointer (some ((⟨b, 0, none⟩ : Addr).add 3)))), (16, .v (.pointer (some (⟨b, 0, none⟩ : Addr)))), (15, .v (.pointer (some (⟨b, 0, none⟩ : Addr)))), (14, .v (.pointer (some ((⟨b, 0, none⟩ : Addr).add 2)))), (13, .v (.pointer (some (⟨b, 0, none⟩ : Addr)))), (12, .v (.pointer (some (⟨b, 0, none⟩ : Addr)))), (0, .v (.pointer (some (⟨b, 0, none⟩ : Addr)))), (1, vS t)] [] [] rfl (by kernel_rfl) on wn ?_
  refine h_nil ?_
  refine l_nil (q_then_normal ?_)
  refine c_block ?_
  refine c_unroll (n := 6) ?_
  refine c_seq ?_
  refine c_region ?_
  refine JL_run 1 [] [32, 30, 29, 31, 0, 1] 1 ⟨[(32, vB true), (30, vI 5), (29, .s 0 0 5 5), (31, vI 0), (0, .v (.pointer (some (⟨b, 0, none⟩ : Addr)))), (1, vS t)], [⟨180, [.v (.pointer (some ((⟨b, 0, none⟩ : Addr).add 2))), .v (.pointer (some ((⟨b, 0, none⟩ : Addr).add 3))), .v (.pointer (some ((⟨b, 0, none⟩ : Addr).add 4))), .v (.pointer (some (((⟨b, 0, none⟩ : Addr).add 5).add 0))), .v (.pointer (some (((⟨b, 0, none⟩ : Addr).add 5).add 3)))]⟩]⟩ [] [] (by kernel_rfl) on wn ?_
  refine l_nil (q_then_normal ?_)
  refine c_seq ?_
  refine c_if true rfl ?_
  refine c_skip ?_
  refine q_then_normal ?_
  refine c_seq ?_
  refine c_block ?_
  refine c_seq ?_
  refine c_region ?_
  refine JL_run 3 [(0, .idx default 0)] [7, 30, 29, 31, 0, 1] 1 ⟨[(7, .v (.pointer (some ((⟨b, 0, none⟩ : Addr).add 2)))), (30, vI 5), (29, .s 0 0 5 5), (31, vI 0), (0, .v (.pointer (some (⟨b, 0, none⟩ : Addr)))), (1, vS t)], [⟨180, [.v (.pointer (some ((⟨b, 0, none⟩ : Addr).add 2))), .v (.pointer (some ((⟨b, 0, none⟩ : Addr).add 3))), .v (.pointer (some ((⟨b, 0, none⟩ : Addr).add 4))), .v (.pointer (some (((⟨b, 0, none⟩ : Addr).add 5).add 0))), .v (.pointer (some (((⟨b, 0, none⟩ : Addr).add 5).add 3)))]⟩]⟩ [(0 : Int) = ((0 : Nat) : Int), 0 < 5] [] (by kernel_rfl) (oc rfl (oc (by omega) on)) wn ?_
  refine l_nil (q_then_normal ?_)
  refine c_seq ?_
  refine c_region ?_
  refine JL_run 1 [] [7, 30, 29, 31, 0, 1] 1 ⟨[(7, .v (.pointer (some ((⟨b, 0, none⟩ : Addr).add 2)))), (30, vI 5), (29, .s 0 0 5 5), (31, vI 0), (0, .v (.pointer (some (⟨b, 0, none⟩ : Addr)))), (1, vS t)], [⟨180, [.v (.pointer (some ((⟨b, 0, none⟩ : Addr).add 2))), .v (.pointer (some ((⟨b, 0, none⟩ : Addr).add 3))), .v (.pointer (some ((⟨b, 0, none⟩ : Addr).add 4))), .v (.pointer (some (((⟨b, 0, none⟩ : Addr).add 5).add 0))), .v (.pointer (some (((⟨b, 0, none⟩ : Addr).add 5).add 3)))]⟩]⟩ [] [] (by kernel_rfl) on wn ?_
  refine l_nil (q_then_normal ?_)
  refine c_seq ?_
  refine c_region ?_
  refine JL_run 2 [] [37, 36, 30, 29, 31, 0] 1 ⟨[(37, vS t), (36, .v (.pointer (some ((⟨b, 0, none⟩ : Addr).add 2)))), (30, vI 5), (29, .s 0 0 5 5), (31, vI 0), (0, .v (.pointer (some (⟨b, 0, none⟩ : Addr))))], [⟨180, [.v (.pointer (some ((⟨b, 0, none⟩ : Addr).add 2))), .v (.pointer (some ((⟨b, 0, none⟩ : Addr).add 3))), .v (.pointer (some ((⟨b, 0, none⟩ : Addr).add 4))), .v (.pointer (some (((⟨b, 0, none⟩ : Addr).add 5).add 0))), .v (.pointer (some (((⟨b, 0, none⟩ : Addr).add 5).add 3)))]⟩]⟩ [] [] (by kernel_rfl) on wn ?_
  refine l_pure 147 [] [vS t] (.tuple #[.int .i64 ((mRead t).1), .string ((mRead t).2.1), .int .i64 ((mRead t).2.2)]) Try.call147 rfl rfl rfl rfl (fun bs w hS => codec_ReadNumber _ w (by first | assumption | omega | (simp only [emp_size]; omega))) ?_
  have hzr1 := mRead_bd t
  generalize hr1 : mRead t = r1 at hzr1 ⊢
  refine JL_run 5 [] [42, 41, 40, 39, 30, 29, 31, 0] 1 ⟨[(42, .v (.pointer (some ((⟨b, 0, none⟩ : Addr).add 2)))), (41, vI r1.2.2), (40, vS r1.2.1), (39, vI r1.1), (30, vI 5), (29, .s 0 0 5 5), (31, vI 0), (0, .v (.pointer (some (⟨b, 0, none⟩ : Addr))))], [⟨180, [.v (.pointer (some ((⟨b, 0, none⟩ : Addr).add 2))), .v (.pointer (some ((⟨b, 0, none⟩ : Addr).add 3))), .v (.pointer (some ((⟨b, 0, none⟩ : Addr).add 4))), .v (.pointer (some (((⟨b, 0, none⟩ : Addr).add 5).add 0))), .v (.pointer (some (((⟨b, 0, none⟩ : Addr).add 5).add 3)))]⟩]⟩ [] [] (by kernel_rfl) on wn ?_
  refine l_storeB b 100 [.int .i64 c.kind, .int .i64 c.client, .int .i64 c.session, .int .i64 c.seq, .int .i64 c.acked, .int .i64 c.op.kind, .string c.op.a, .string c.op.b, .int .i64 c.op.n] 2 ((⟨b, 0, none⟩ : Addr).add 2) (vI r1.1) [vI r1.1] [.int .i64 r1.1] [.int .i64 c.kind, .int .i64 c.client, .int .i64 r1.1, .int .i64 c.seq, .int .i64 c.acked, .int .i64 c.op.kind, .string c.op.a, .string c.op.b, .int .i64 c.op.n] rfl rfl rfl rfl rfl (by kernel_rfl) (by kernel_rfl) rfl (by kernel_rfl) rfl rfl rfl ?_
  refine JL_run 2 [] [8, 1, 30, 29, 31, 0] 1 ⟨[(8, vI r1.2.2), (1, vS r1.2.1), (30, vI 5), (29, .s 0 0 5 5), (31, vI 0), (0, .v (.pointer (some (⟨b, 0, none⟩ : Addr))))], [⟨180, [.v (.pointer (some ((⟨b, 0, none⟩ : Addr).add 2))), .v (.pointer (some ((⟨b, 0, none⟩ : Addr).add 3))), .v (.pointer (some ((⟨b, 0, none⟩ : Addr).add 4))), .v (.pointer (some (((⟨b, 0, none⟩ : Addr).add 5).add 0))), .v (.pointer (some (((⟨b, 0, none⟩ : Addr).add 5).add 3)))]⟩]⟩ [] [] (by kernel_rfl) on wn ?_
  refine l_nil (q_then_normal ?_)
  refine c_seq ?_
  refine c_region ?_
  refine JL_run 2 [] [44, 8, 1, 30, 29, 31, 0] 1 ⟨[(44, vB (!(decide (r1.2.2 = 0)))), (8, vI r1.2.2), (1, vS r1.2.1), (30, vI 5), (29, .s 0 0 5 5), (31, vI 0), (0, .v (.pointer (some (⟨b, 0, none⟩ : Addr))))], [⟨180, [.v (.pointer (some ((⟨b, 0, none⟩ : Addr).add 2))), .v (.pointer (some ((⟨b, 0, none⟩ : Addr).add 3))), .v (.pointer (some ((⟨b, 0, none⟩ : Addr).add 4))), .v (.pointer (some (((⟨b, 0, none⟩ : Addr).add 5).add 0))), .v (.pointer (some (((⟨b, 0, none⟩ : Addr).add 5).add 3)))]⟩]⟩ [] [] (by kernel_rfl) on wn ?_
  refine l_nil (q_then_normal ?_)
  cases h1 : decide (r1.2.2 = 0) with
  | true =>
    have h1 := of_decide_eq_true h1
    refine c_if false rfl ?_
    refine c_skip ?_
    refine q_block_normal (q_then_normal ?_)
    refine c_region ?_
    refine JL_run 2 [] [31, 1, 30, 29, 0] 1 ⟨[(31, vI 1), (1, vS r1.2.1), (30, vI 5), (29, .s 0 0 5 5), (0, .v (.pointer (some (⟨b, 0, none⟩ : Addr))))], [⟨180, [.v (.pointer (some ((⟨b, 0, none⟩ : Addr).add 2))), .v (.pointer (some ((⟨b, 0, none⟩ : Addr).add 3))), .v (.pointer (some ((⟨b, 0, none⟩ : Addr).add 4))), .v (.pointer (some (((⟨b, 0, none⟩ : Addr).add 5).add 0))), .v (.pointer (some (((⟨b, 0, none⟩ : Addr).add 5).add 3)))]⟩]⟩ [inR (1)] [] (by kernel_rfl) (oc (by unfold inR; omega) on) wn ?_
    refine l_nil (q_round ?_)
    refine c_seq ?_
    refine c_region ?_
    refine JL_run 1 [] [32, 31, 1, 30, 29, 0] 1 ⟨[(32, vB true), (31, vI 1), (1, vS r1.2.1), (30, vI 5), (29, .s 0 0 5 5), (0, .v (.pointer (some (⟨b, 0, none⟩ : Addr))))], [⟨180, [.v (.pointer (some ((⟨b, 0, none⟩ : Addr).add 2))), .v (.pointer (some ((⟨b, 0, none⟩ : Addr).add 3))), .v (.pointer (some ((⟨b, 0, none⟩ : Addr).add 4))), .v (.pointer (some (((⟨b, 0, none⟩ : Addr).add 5).add 0))), .v (.pointer (some (((⟨b, 0, none⟩ : Addr).add 5).add 3)))]⟩]⟩ [] [] (by kernel_rfl) on wn ?_
    refine l_nil (q_then_normal ?_)
    refine c_seq ?_
    refine c_if true rfl ?_
    refine c_skip ?_
    refine q_then_normal ?_
    refine c_seq ?_
    refine c_block ?_
    refine c_seq ?_
    refine c_region ?_
    refine JL_run 3 [(0, .idx default 1)] [7, 31, 1, 30, 29, 0] 1 ⟨[(7, .v (.pointer (some ((⟨b, 0, none⟩ : Addr).add 3)))), (31, vI 1), (1, vS r1.2.1), (30, vI 5), (29, .s 0 0 5 5), (0, .v (.pointer (some (⟨b, 0, none⟩ : Addr))))], [⟨180, [.v (.pointer (some ((⟨b, 0, none⟩ : Addr).add 2))), .v (.pointer (some ((⟨b, 0, none⟩ : Addr).add 3))), .v (.pointer (some ((⟨b, 0, none⟩ : Addr).add 4))), .v (.pointer (some (((⟨b, 0, none⟩ : Addr).add 5).add 0))), .v (.pointer (some (((⟨b, 0, none⟩ : Addr).add 5).add 3)))]⟩]⟩ [(1 : Int) = ((1 : Nat) : Int), 1 < 5] [] (by kernel_rfl) (oc rfl (oc (by omega) on)) wn ?_
    refine l_nil (q_then_normal ?_)
    refine c_seq ?_
    refine c_region ?_
    refine JL_run 1 [] [7, 31, 1, 30, 29, 0] 1 ⟨[(7, .v (.pointer (some ((⟨b, 0, none⟩ : Addr).add 3)))), (31, vI 1), (1, vS r1.2.1), (30, vI 5), (29, .s 0 0 5 5), (0, .v (.pointer (some (⟨b, 0, none⟩ : Addr))))], [⟨180, [.v (.pointer (some ((⟨b, 0, none⟩ : Addr).add 2))), .v (.pointer (some ((⟨b, 0, none⟩ : Addr).add 3))), .v (.pointer (some ((⟨b, 0, none⟩ : Addr).add 4))), .v (.pointer (some (((⟨b, 0, none⟩ : Addr).add 5).add 0))), .v (.pointer (some (((⟨b, 0, none⟩ : Addr).add 5).add 3)))]⟩]⟩ [] [] (by kernel_rfl) on wn ?_
    refine l_nil (q_then_normal ?_)
    refine c_seq ?_
    refine c_region ?_
    refine JL_run 2 [] [37, 36, 31, 30, 29, 0] 1 ⟨[(37, vS r1.2.1), (36, .v (.pointer (some ((⟨b, 0, none⟩ : Addr).add 3)))), (31, vI 1), (30, vI 5), (29, .s 0 0 5 5), (0, .v (.pointer (some (⟨b, 0, none⟩ : Addr))))], [⟨180, [.v (.pointer (some ((⟨b, 0, none⟩ : Addr).add 2))), .v (.pointer (some ((⟨b, 0, none⟩ : Addr).add 3))), .v (.pointer (some ((⟨b, 0, none⟩ : Addr).add 4))), .v (.pointer (some (((⟨b, 0, none⟩ : Addr).add 5).add 0))), .v (.pointer (some (((⟨b, 0, none⟩ : Addr).add 5).add 3)))]⟩]⟩ [] [] (by kernel_rfl) on wn ?_
    refine l_pure 147 [] [vS r1.2.1] (.tuple #[.int .i64 ((mRead r1.2.1).1), .string ((mRead r1.2.1).2.1), .int .i64 ((mRead r1.2.1).2.2)]) Try.call147 rfl rfl rfl rfl (fun bs w hS => codec_ReadNumber _ w (by first | assumption | omega | (simp only [emp_size]; omega))) ?_
    have hzr2 := mRead_bd r1.2.1
    generalize hr2 : mRead r1.2.1 = r2 at hzr2 ⊢
    refine JL_run 5 [] [42, 41, 40, 39, 31, 30, 29, 0] 1 ⟨[(42, .v (.pointer (some ((⟨b, 0, none⟩ : Addr).add 3)))), (41, vI r2.2.2), (40, vS r2.2.1), (39, vI r2.1), (31, vI 1), (30, vI 5), (29, .s 0 0 5 5), (0, .v (.pointer (some (⟨b, 0, none⟩ : Addr))))], [⟨180, [.v (.pointer (some ((⟨b, 0, none⟩ : Addr).add 2))), .v (.pointer (some ((⟨b, 0, none⟩ : Addr).add 3))), .v (.pointer (some ((⟨b, 0, none⟩ : Addr).add 4))), .v (.pointer (some (((⟨b, 0, none⟩ : Addr).add 5).add 0))), .v (.pointer (some (((⟨b, 0, none⟩ : Addr).add 5).add 3)))]⟩]⟩ [] [] (by kernel_rfl) on wn ?_
    refine l_storeB b 100 [.int .i64 c.kind, .int .i64 c.client, .int .i64 r1.1, .int .i64 c.seq, .int .i64 c.acked, .int .i64 c.op.kind, .string c.op.a, .string c.op.b, .int .i64 c.op.n] 3 ((⟨b, 0, none⟩ : Addr).add 3) (vI r2.1) [vI r2.1] [.int .i64 r2.1] [.int .i64 c.kind, .int .i64 c.client, .int .i64 r1.1, .int .i64 r2.1, .int .i64 c.acked, .int .i64 c.op.kind, .string c.op.a, .string c.op.b, .int .i64 c.op.n] rfl rfl rfl rfl rfl (by kernel_rfl) (by kernel_rfl) rfl (by kernel_rfl) rfl rfl rfl ?_
    refine JL_run 2 [] [8, 1, 31, 30, 29, 0] 1 ⟨[(8, vI r2.2.2), (1, vS r2.2.1), (31, vI 1), (30, vI 5), (29, .s 0 0 5 5), (0, .v (.pointer (some (⟨b, 0, none⟩ : Addr))))], [⟨180, [.v (.pointer (some ((⟨b, 0, none⟩ : Addr).add 2))), .v (.pointer (some ((⟨b, 0, none⟩ : Addr).add 3))), .v (.pointer (some ((⟨b, 0, none⟩ : Addr).add 4))), .v (.pointer (some (((⟨b, 0, none⟩ : Addr).add 5).add 0))), .v (.pointer (some (((⟨b, 0, none⟩ : Addr).add 5).add 3)))]⟩]⟩ [] [] (by kernel_rfl) on wn ?_
    refine l_nil (q_then_normal ?_)
    refine c_seq ?_
    refine c_region ?_
    refine JL_run 2 [] [44, 8, 1, 31, 30, 29, 0] 1 ⟨[(44, vB (!(decide (r2.2.2 = 0)))), (8, vI r2.2.2), (1, vS r2.2.1), (31, vI 1), (30, vI 5), (29, .s 0 0 5 5), (0, .v (.pointer (some (⟨b, 0, none⟩ : Addr))))], [⟨180, [.v (.pointer (some ((⟨b, 0, none⟩ : Addr).add 2))), .v (.pointer (some ((⟨b, 0, none⟩ : Addr).add 3))), .v (.pointer (some ((⟨b, 0, none⟩ : Addr).add 4))), .v (.pointer (some (((⟨b, 0, none⟩ : Addr).add 5).add 0))), .v (.pointer (some (((⟨b, 0, none⟩ : Addr).add 5).add 3)))]⟩]⟩ [] [] (by kernel_rfl) on wn ?_
    refine l_nil (q_then_normal ?_)
    cases h2 : decide (r2.2.2 = 0) with
    | true =>
      have h2 := of_decide_eq_true h2
      refine c_if false rfl ?_
      refine c_skip ?_
      refine q_block_normal (q_then_normal ?_)
      refine c_region ?_
      refine JL_run 2 [] [31, 1, 30, 29, 0] 1 ⟨[(31, vI 2), (1, vS r2.2.1), (30, vI 5), (29, .s 0 0 5 5), (0, .v (.pointer (some (⟨b, 0, none⟩ : Addr))))], [⟨180, [.v (.pointer (some ((⟨b, 0, none⟩ : Addr).add 2))), .v (.pointer (some ((⟨b, 0, none⟩ : Addr).add 3))), .v (.pointer (some ((⟨b, 0, none⟩ : Addr).add 4))), .v (.pointer (some (((⟨b, 0, none⟩ : Addr).add 5).add 0))), .v (.pointer (some (((⟨b, 0, none⟩ : Addr).add 5).add 3)))]⟩]⟩ [inR (2)] [] (by kernel_rfl) (oc (by unfold inR; omega) on) wn ?_
      refine l_nil (q_round ?_)
      refine c_seq ?_
      refine c_region ?_
      refine JL_run 1 [] [32, 31, 1, 30, 29, 0] 1 ⟨[(32, vB true), (31, vI 2), (1, vS r2.2.1), (30, vI 5), (29, .s 0 0 5 5), (0, .v (.pointer (some (⟨b, 0, none⟩ : Addr))))], [⟨180, [.v (.pointer (some ((⟨b, 0, none⟩ : Addr).add 2))), .v (.pointer (some ((⟨b, 0, none⟩ : Addr).add 3))), .v (.pointer (some ((⟨b, 0, none⟩ : Addr).add 4))), .v (.pointer (some (((⟨b, 0, none⟩ : Addr).add 5).add 0))), .v (.pointer (some (((⟨b, 0, none⟩ : Addr).add 5).add 3)))]⟩]⟩ [] [] (by kernel_rfl) on wn ?_
      refine l_nil (q_then_normal ?_)
      refine c_seq ?_
      refine c_if true rfl ?_
      refine c_skip ?_
      refine q_then_normal ?_
      refine c_seq ?_
      refine c_block ?_
      refine c_seq ?_
      refine c_region ?_
      refine JL_run 3 [(0, .idx default 2)] [7, 31, 1, 30, 29, 0] 1 ⟨[(7, .v (.pointer (some ((⟨b, 0, none⟩ : Addr).add 4)))), (31, vI 2), (1, vS r2.2.1), (30, vI 5), (29, .s 0 0 5 5), (0, .v (.pointer (some (⟨b, 0, none⟩ : Addr))))], [⟨180, [.v (.pointer (some ((⟨b, 0, none⟩ : Addr).add 2))), .v (.pointer (some ((⟨b, 0, none⟩ : Addr).add 3))), .v (.pointer (some ((⟨b, 0, none⟩ : Addr).add 4))), .v (.pointer (some (((⟨b, 0, none⟩ : Addr).add 5).add 0))), .v (.pointer (some (((⟨b, 0, none⟩ : Addr).add 5).add 3)))]⟩]⟩ [(2 : Int) = ((2 : Nat) : Int), 2 < 5] [] (by kernel_rfl) (oc rfl (oc (by omega) on)) wn ?_
      refine l_nil (q_then_normal ?_)
      refine c_seq ?_
      refine c_region ?_
      refine JL_run 1 [] [7, 31, 1, 30, 29, 0] 1 ⟨[(7, .v (.pointer (some ((⟨b, 0, none⟩ : Addr).add 4)))), (31, vI 2), (1, vS r2.2.1), (30, vI 5), (29, .s 0 0 5 5), (0, .v (.pointer (some (⟨b, 0, none⟩ : Addr))))], [⟨180, [.v (.pointer (some ((⟨b, 0, none⟩ : Addr).add 2))), .v (.pointer (some ((⟨b, 0, none⟩ : Addr).add 3))), .v (.pointer (some ((⟨b, 0, none⟩ : Addr).add 4))), .v (.pointer (some (((⟨b, 0, none⟩ : Addr).add 5).add 0))), .v (.pointer (some (((⟨b, 0, none⟩ : Addr).add 5).add 3)))]⟩]⟩ [] [] (by kernel_rfl) on wn ?_
      refine l_nil (q_then_normal ?_)
      refine c_seq ?_
      refine c_region ?_
      refine JL_run 2 [] [37, 36, 31, 30, 29, 0] 1 ⟨[(37, vS r2.2.1), (36, .v (.pointer (some ((⟨b, 0, none⟩ : Addr).add 4)))), (31, vI 2), (30, vI 5), (29, .s 0 0 5 5), (0, .v (.pointer (some (⟨b, 0, none⟩ : Addr))))], [⟨180, [.v (.pointer (some ((⟨b, 0, none⟩ : Addr).add 2))), .v (.pointer (some ((⟨b, 0, none⟩ : Addr).add 3))), .v (.pointer (some ((⟨b, 0, none⟩ : Addr).add 4))), .v (.pointer (some (((⟨b, 0, none⟩ : Addr).add 5).add 0))), .v (.pointer (some (((⟨b, 0, none⟩ : Addr).add 5).add 3)))]⟩]⟩ [] [] (by kernel_rfl) on wn ?_
      refine l_pure 147 [] [vS r2.2.1] (.tuple #[.int .i64 ((mRead r2.2.1).1), .string ((mRead r2.2.1).2.1), .int .i64 ((mRead r2.2.1).2.2)]) Try.call147 rfl rfl rfl rfl (fun bs w hS => codec_ReadNumber _ w (by first | assumption | omega | (simp only [emp_size]; omega))) ?_
      have hzr3 := mRead_bd r2.2.1
      generalize hr3 : mRead r2.2.1 = r3 at hzr3 ⊢
      refine JL_run 5 [] [42, 41, 40, 39, 31, 30, 29, 0] 1 ⟨[(42, .v (.pointer (some ((⟨b, 0, none⟩ : Addr).add 4)))), (41, vI r3.2.2), (40, vS r3.2.1), (39, vI r3.1), (31, vI 2), (30, vI 5), (29, .s 0 0 5 5), (0, .v (.pointer (some (⟨b, 0, none⟩ : Addr))))], [⟨180, [.v (.pointer (some ((⟨b, 0, none⟩ : Addr).add 2))), .v (.pointer (some ((⟨b, 0, none⟩ : Addr).add 3))), .v (.pointer (some ((⟨b, 0, none⟩ : Addr).add 4))), .v (.pointer (some (((⟨b, 0, none⟩ : Addr).add 5).add 0))), .v (.pointer (some (((⟨b, 0, none⟩ : Addr).add 5).add 3)))]⟩]⟩ [] [] (by kernel_rfl) on wn ?_
      refine l_storeB b 100 [.int .i64 c.kind, .int .i64 c.client, .int .i64 r1.1, .int .i64 r2.1, .int .i64 c.acked, .int .i64 c.op.kind, .string c.op.a, .string c.op.b, .int .i64 c.op.n] 4 ((⟨b, 0, none⟩ : Addr).add 4) (vI r3.1) [vI r3.1] [.int .i64 r3.1] [.int .i64 c.kind, .int .i64 c.client, .int .i64 r1.1, .int .i64 r2.1, .int .i64 r3.1, .int .i64 c.op.kind, .string c.op.a, .string c.op.b, .int .i64 c.op.n] rfl rfl rfl rfl rfl (by kernel_rfl) (by kernel_rfl) rfl (by kernel_rfl) rfl rfl rfl ?_
      refine JL_run 2 [] [8, 1, 31, 30, 29, 0] 1 ⟨[(8, vI r3.2.2), (1, vS r3.2.1), (31, vI 2), (30, vI 5), (29, .s 0 0 5 5), (0, .v (.pointer (some (⟨b, 0, none⟩ : Addr))))], [⟨180, [.v (.pointer (some ((⟨b, 0, none⟩ : Addr).add 2))), .v (.pointer (some ((⟨b, 0, none⟩ : Addr).add 3))), .v (.pointer (some ((⟨b, 0, none⟩ : Addr).add 4))), .v (.pointer (some (((⟨b, 0, none⟩ : Addr).add 5).add 0))), .v (.pointer (some (((⟨b, 0, none⟩ : Addr).add 5).add 3)))]⟩]⟩ [] [] (by kernel_rfl) on wn ?_
      refine l_nil (q_then_normal ?_)
      refine c_seq ?_
      refine c_region ?_
      refine JL_run 2 [] [44, 8, 1, 31, 30, 29, 0] 1 ⟨[(44, vB (!(decide (r3.2.2 = 0)))), (8, vI r3.2.2), (1, vS r3.2.1), (31, vI 2), (30, vI 5), (29, .s 0 0 5 5), (0, .v (.pointer (some (⟨b, 0, none⟩ : Addr))))], [⟨180, [.v (.pointer (some ((⟨b, 0, none⟩ : Addr).add 2))), .v (.pointer (some ((⟨b, 0, none⟩ : Addr).add 3))), .v (.pointer (some ((⟨b, 0, none⟩ : Addr).add 4))), .v (.pointer (some (((⟨b, 0, none⟩ : Addr).add 5).add 0))), .v (.pointer (some (((⟨b, 0, none⟩ : Addr).add 5).add 3)))]⟩]⟩ [] [] (by kernel_rfl) on wn ?_
      refine l_nil (q_then_normal ?_)
      cases h3 : decide (r3.2.2 = 0) with
      | true =>
        have h3 := of_decide_eq_true h3
        refine c_if false rfl ?_
        refine c_skip ?_
        refine q_block_normal (q_then_normal ?_)
        refine c_region ?_
        refine JL_run 2 [] [31, 1, 30, 29, 0] 1 ⟨[(31, vI 3), (1, vS r3.2.1), (30, vI 5), (29, .s 0 0 5 5), (0, .v (.pointer (some (⟨b, 0, none⟩ : Addr))))], [⟨180, [.v (.pointer (some ((⟨b, 0, none⟩ : Addr).add 2))), .v (.pointer (some ((⟨b, 0, none⟩ : Addr).add 3))), .v (.pointer (some ((⟨b, 0, none⟩ : Addr).add 4))), .v (.pointer (some (((⟨b, 0, none⟩ : Addr).add 5).add 0))), .v (.pointer (some (((⟨b, 0, none⟩ : Addr).add 5).add 3)))]⟩]⟩ [inR (3)] [] (by kernel_rfl) (oc (by unfold inR; omega) on) wn ?_
        refine l_nil (q_round ?_)
        refine c_seq ?_
        refine c_region ?_
        refine JL_run 1 [] [32, 31, 1, 30, 29, 0] 1 ⟨[(32, vB true), (31, vI 3), (1, vS r3.2.1), (30, vI 5), (29, .s 0 0 5 5), (0, .v (.pointer (some (⟨b, 0, none⟩ : Addr))))], [⟨180, [.v (.pointer (some ((⟨b, 0, none⟩ : Addr).add 2))), .v (.pointer (some ((⟨b, 0, none⟩ : Addr).add 3))), .v (.pointer (some ((⟨b, 0, none⟩ : Addr).add 4))), .v (.pointer (some (((⟨b, 0, none⟩ : Addr).add 5).add 0))), .v (.pointer (some (((⟨b, 0, none⟩ : Addr).add 5).add 3)))]⟩]⟩ [] [] (by kernel_rfl) on wn ?_
        refine l_nil (q_then_normal ?_)
        refine c_seq ?_
        refine c_if true rfl ?_
        refine c_skip ?_
        refine q_then_normal ?_
        refine c_seq ?_
        refine c_block ?_
        refine c_seq ?_
        refine c_region ?_
        refine JL_run 3 [(0, .idx default 3)] [7, 31, 1, 30, 29, 0] 1 ⟨[(7, .v (.pointer (some (((⟨b, 0, none⟩ : Addr).add 5).add 0)))), (31, vI 3), (1, vS r3.2.1), (30, vI 5), (29, .s 0 0 5 5), (0, .v (.pointer (some (⟨b, 0, none⟩ : Addr))))], [⟨180, [.v (.pointer (some ((⟨b, 0, none⟩ : Addr).add 2))), .v (.pointer (some ((⟨b, 0, none⟩ : Addr).add 3))), .v (.pointer (some ((⟨b, 0, none⟩ : Addr).add 4))), .v (.pointer (some (((⟨b, 0, none⟩ : Addr).add 5).add 0))), .v (.pointer (some (((⟨b, 0, none⟩ : Addr).add 5).add 3)))]⟩]⟩ [(3 : Int) = ((3 : Nat) : Int), 3 < 5] [] (by kernel_rfl) (oc rfl (oc (by omega) on)) wn ?_
        refine l_nil (q_then_normal ?_)
        refine c_seq ?_
        refine c_region ?_
        refine JL_run 1 [] [7, 31, 1, 30, 29, 0] 1 ⟨[(7, .v (.pointer (some (((⟨b, 0, none⟩ : Addr).add 5).add 0)))), (31, vI 3), (1, vS r3.2.1), (30, vI 5), (29, .s 0 0 5 5), (0, .v (.pointer (some (⟨b, 0, none⟩ : Addr))))], [⟨180, [.v (.pointer (some ((⟨b, 0, none⟩ : Addr).add 2))), .v (.pointer (some ((⟨b, 0, none⟩ : Addr).add 3))), .v (.pointer (some ((⟨b, 0, none⟩ : Addr).add 4))), .v (.pointer (some (((⟨b, 0, none⟩ : Addr).add 5).add 0))), .v (.pointer (some (((⟨b, 0, none⟩ : Addr).add 5).add 3)))]⟩]⟩ [] [] (by kernel_rfl) on wn ?_
        refine l_nil (q_then_normal ?_)
        refine c_seq ?_
        refine c_region ?_
        refine JL_run 2 [] [37, 36, 31, 30, 29, 0] 1 ⟨[(37, vS r3.2.1), (36, .v (.pointer (some (((⟨b, 0, none⟩ : Addr).add 5).add 0)))), (31, vI 3), (30, vI 5), (29, .s 0 0 5 5), (0, .v (.pointer (some (⟨b, 0, none⟩ : Addr))))], [⟨180, [.v (.pointer (some ((⟨b, 0, none⟩ : Addr).add 2))), .v (.pointer (some ((⟨b, 0, none⟩ : Addr).add 3))), .v (.pointer (some ((⟨b, 0, none⟩ : Addr).add 4))), .v (.pointer (some (((⟨b, 0, none⟩ : Addr).add 5).add 0))), .v (.pointer (some (((⟨b, 0, none⟩ : Addr).add 5).add 3)))]⟩]⟩ [] [] (by kernel_rfl) on wn ?_
        refine l_pure 147 [] [vS r3.2.1] (.tuple #[.int .i64 ((mRead r3.2.1).1), .string ((mRead r3.2.1).2.1), .int .i64 ((mRead r3.2.1).2.2)]) Try.call147 rfl rfl rfl rfl (fun bs w hS => codec_ReadNumber _ w (by first | assumption | omega | (simp only [emp_size]; omega))) ?_
        have hzr4 := mRead_bd r3.2.1
        generalize hr4 : mRead r3.2.1 = r4 at hzr4 ⊢
        refine JL_run 5 [] [42, 41, 40, 39, 31, 30, 29, 0] 1 ⟨[(42, .v (.pointer (some (((⟨b, 0, none⟩ : Addr).add 5).add 0)))), (41, vI r4.2.2), (40, vS r4.2.1), (39, vI r4.1), (31, vI 3), (30, vI 5), (29, .s 0 0 5 5), (0, .v (.pointer (some (⟨b, 0, none⟩ : Addr))))], [⟨180, [.v (.pointer (some ((⟨b, 0, none⟩ : Addr).add 2))), .v (.pointer (some ((⟨b, 0, none⟩ : Addr).add 3))), .v (.pointer (some ((⟨b, 0, none⟩ : Addr).add 4))), .v (.pointer (some (((⟨b, 0, none⟩ : Addr).add 5).add 0))), .v (.pointer (some (((⟨b, 0, none⟩ : Addr).add 5).add 3)))]⟩]⟩ [] [] (by kernel_rfl) on wn ?_
        refine l_storeB b 100 [.int .i64 c.kind, .int .i64 c.client, .int .i64 r1.1, .int .i64 r2.1, .int .i64 r3.1, .int .i64 c.op.kind, .string c.op.a, .string c.op.b, .int .i64 c.op.n] 5 (((⟨b, 0, none⟩ : Addr).add 5).add 0) (vI r4.1) [vI r4.1] [.int .i64 r4.1] [.int .i64 c.kind, .int .i64 c.client, .int .i64 r1.1, .int .i64 r2.1, .int .i64 r3.1, .int .i64 r4.1, .string c.op.a, .string c.op.b, .int .i64 c.op.n] (addr_add _ 5 0) rfl rfl rfl rfl (by kernel_rfl) (by kernel_rfl) rfl (by kernel_rfl) rfl rfl rfl ?_
        refine JL_run 2 [] [8, 1, 31, 30, 29, 0] 1 ⟨[(8, vI r4.2.2), (1, vS r4.2.1), (31, vI 3), (30, vI 5), (29, .s 0 0 5 5), (0, .v (.pointer (some (⟨b, 0, none⟩ : Addr))))], [⟨180, [.v (.pointer (some ((⟨b, 0, none⟩ : Addr).add 2))), .v (.pointer (some ((⟨b, 0, none⟩ : Addr).add 3))), .v (.pointer (some ((⟨b, 0, none⟩ : Addr).add 4))), .v (.pointer (some (((⟨b, 0, none⟩ : Addr).add 5).add 0))), .v (.pointer (some (((⟨b, 0, none⟩ : Addr).add 5).add 3)))]⟩]⟩ [] [] (by kernel_rfl) on wn ?_
        refine l_nil (q_then_normal ?_)
        refine c_seq ?_
        refine c_region ?_
        refine JL_run 2 [] [44, 8, 1, 31, 30, 29, 0] 1 ⟨[(44, vB (!(decide (r4.2.2 = 0)))), (8, vI r4.2.2), (1, vS r4.2.1), (31, vI 3), (30, vI 5), (29, .s 0 0 5 5), (0, .v (.pointer (some (⟨b, 0, none⟩ : Addr))))], [⟨180, [.v (.pointer (some ((⟨b, 0, none⟩ : Addr).add 2))), .v (.pointer (some ((⟨b, 0, none⟩ : Addr).add 3))), .v (.pointer (some ((⟨b, 0, none⟩ : Addr).add 4))), .v (.pointer (some (((⟨b, 0, none⟩ : Addr).add 5).add 0))), .v (.pointer (some (((⟨b, 0, none⟩ : Addr).add 5).add 3)))]⟩]⟩ [] [] (by kernel_rfl) on wn ?_
        refine l_nil (q_then_normal ?_)
        cases h4 : decide (r4.2.2 = 0) with
        | true =>
          have h4 := of_decide_eq_true h4
          refine c_if false rfl ?_
          refine c_skip ?_
          refine q_block_normal (q_then_normal ?_)
          refine c_region ?_
          refine JL_run 2 [] [31, 1, 30, 29, 0] 1 ⟨[(31, vI 4), (1, vS r4.2.1), (30, vI 5), (29, .s 0 0 5 5), (0, .v (.pointer (some (⟨b, 0, none⟩ : Addr))))], [⟨180, [.v (.pointer (some ((⟨b, 0, none⟩ : Addr).add 2))), .v (.pointer (some ((⟨b, 0, none⟩ : Addr).add 3))), .v (.pointer (some ((⟨b, 0, none⟩ : Addr).add 4))), .v (.pointer (some (((⟨b, 0, none⟩ : Addr).add 5).add 0))), .v (.pointer (some (((⟨b, 0, none⟩ : Addr).add 5).add 3)))]⟩]⟩ [inR (4)] [] (by kernel_rfl) (oc (by unfold inR; omega) on) wn ?_
          refine l_nil (q_round ?_)
          refine c_seq ?_
          refine c_region ?_
          refine JL_run 1 [] [32, 31, 1, 30, 29, 0] 1 ⟨[(32, vB true), (31, vI 4), (1, vS r4.2.1), (30, vI 5), (29, .s 0 0 5 5), (0, .v (.pointer (some (⟨b, 0, none⟩ : Addr))))], [⟨180, [.v (.pointer (some ((⟨b, 0, none⟩ : Addr).add 2))), .v (.pointer (some ((⟨b, 0, none⟩ : Addr).add 3))), .v (.pointer (some ((⟨b, 0, none⟩ : Addr).add 4))), .v (.pointer (some (((⟨b, 0, none⟩ : Addr).add 5).add 0))), .v (.pointer (some (((⟨b, 0, none⟩ : Addr).add 5).add 3)))]⟩]⟩ [] [] (by kernel_rfl) on wn ?_
          refine l_nil (q_then_normal ?_)
          refine c_seq ?_
          refine c_if true rfl ?_
          refine c_skip ?_
          refine q_then_normal ?_
          refine c_seq ?_
          refine c_block ?_
          refine c_seq ?_
          refine c_region ?_
          refine JL_run 3 [(0, .idx default 4)] [7, 31, 1, 30, 29, 0] 1 ⟨[(7, .v (.pointer (some (((⟨b, 0, none⟩ : Addr).add 5).add 3)))), (31, vI 4), (1, vS r4.2.1), (30, vI 5), (29, .s 0 0 5 5), (0, .v (.pointer (some (⟨b, 0, none⟩ : Addr))))], [⟨180, [.v (.pointer (some ((⟨b, 0, none⟩ : Addr).add 2))), .v (.pointer (some ((⟨b, 0, none⟩ : Addr).add 3))), .v (.pointer (some ((⟨b, 0, none⟩ : Addr).add 4))), .v (.pointer (some (((⟨b, 0, none⟩ : Addr).add 5).add 0))), .v (.pointer (some (((⟨b, 0, none⟩ : Addr).add 5).add 3)))]⟩]⟩ [(4 : Int) = ((4 : Nat) : Int), 4 < 5] [] (by kernel_rfl) (oc rfl (oc (by omega) on)) wn ?_
          refine l_nil (q_then_normal ?_)
          refine c_seq ?_
          refine c_region ?_
          refine JL_run 1 [] [7, 31, 1, 30, 29, 0] 1 ⟨[(7, .v (.pointer (some (((⟨b, 0, none⟩ : Addr).add 5).add 3)))), (31, vI 4), (1, vS r4.2.1), (30, vI 5), (29, .s 0 0 5 5), (0, .v (.pointer (some (⟨b, 0, none⟩ : Addr))))], [⟨180, [.v (.pointer (some ((⟨b, 0, none⟩ : Addr).add 2))), .v (.pointer (some ((⟨b, 0, none⟩ : Addr).add 3))), .v (.pointer (some ((⟨b, 0, none⟩ : Addr).add 4))), .v (.pointer (some (((⟨b, 0, none⟩ : Addr).add 5).add 0))), .v (.pointer (some (((⟨b, 0, none⟩ : Addr).add 5).add 3)))]⟩]⟩ [] [] (by kernel_rfl) on wn ?_
          refine l_nil (q_then_normal ?_)
          refine c_seq ?_
          refine c_region ?_
          refine JL_run 2 [] [37, 36, 31, 30, 29, 0] 1 ⟨[(37, vS r4.2.1), (36, .v (.pointer (some (((⟨b, 0, none⟩ : Addr).add 5).add 3)))), (31, vI 4), (30, vI 5), (29, .s 0 0 5 5), (0, .v (.pointer (some (⟨b, 0, none⟩ : Addr))))], [⟨180, [.v (.pointer (some ((⟨b, 0, none⟩ : Addr).add 2))), .v (.pointer (some ((⟨b, 0, none⟩ : Addr).add 3))), .v (.pointer (some ((⟨b, 0, none⟩ : Addr).add 4))), .v (.pointer (some (((⟨b, 0, none⟩ : Addr).add 5).add 0))), .v (.pointer (some (((⟨b, 0, none⟩ : Addr).add 5).add 3)))]⟩]⟩ [] [] (by kernel_rfl) on wn ?_
          refine l_pure 147 [] [vS r4.2.1] (.tuple #[.int .i64 ((mRead r4.2.1).1), .string ((mRead r4.2.1).2.1), .int .i64 ((mRead r4.2.1).2.2)]) Try.call147 rfl rfl rfl rfl (fun bs w hS => codec_ReadNumber _ w (by first | assumption | omega | (simp only [emp_size]; omega))) ?_
          have hzr5 := mRead_bd r4.2.1
          generalize hr5 : mRead r4.2.1 = r5 at hzr5 ⊢
          refine JL_run 5 [] [42, 41, 40, 39, 31, 30, 29, 0] 1 ⟨[(42, .v (.pointer (some (((⟨b, 0, none⟩ : Addr).add 5).add 3)))), (41, vI r5.2.2), (40, vS r5.2.1), (39, vI r5.1), (31, vI 4), (30, vI 5), (29, .s 0 0 5 5), (0, .v (.pointer (some (⟨b, 0, none⟩ : Addr))))], [⟨180, [.v (.pointer (some ((⟨b, 0, none⟩ : Addr).add 2))), .v (.pointer (some ((⟨b, 0, none⟩ : Addr).add 3))), .v (.pointer (some ((⟨b, 0, none⟩ : Addr).add 4))), .v (.pointer (some (((⟨b, 0, none⟩ : Addr).add 5).add 0))), .v (.pointer (some (((⟨b, 0, none⟩ : Addr).add 5).add 3)))]⟩]⟩ [] [] (by kernel_rfl) on wn ?_
          refine l_storeB b 100 [.int .i64 c.kind, .int .i64 c.client, .int .i64 r1.1, .int .i64 r2.1, .int .i64 r3.1, .int .i64 r4.1, .string c.op.a, .string c.op.b, .int .i64 c.op.n] 8 (((⟨b, 0, none⟩ : Addr).add 5).add 3) (vI r5.1) [vI r5.1] [.int .i64 r5.1] [.int .i64 c.kind, .int .i64 c.client, .int .i64 r1.1, .int .i64 r2.1, .int .i64 r3.1, .int .i64 r4.1, .string c.op.a, .string c.op.b, .int .i64 r5.1] (addr_add _ 5 3) rfl rfl rfl rfl (by kernel_rfl) (by kernel_rfl) rfl (by kernel_rfl) rfl rfl rfl ?_
          refine JL_run 2 [] [8, 1, 31, 30, 29, 0] 1 ⟨[(8, vI r5.2.2), (1, vS r5.2.1), (31, vI 4), (30, vI 5), (29, .s 0 0 5 5), (0, .v (.pointer (some (⟨b, 0, none⟩ : Addr))))], [⟨180, [.v (.pointer (some ((⟨b, 0, none⟩ : Addr).add 2))), .v (.pointer (some ((⟨b, 0, none⟩ : Addr).add 3))), .v (.pointer (some ((⟨b, 0, none⟩ : Addr).add 4))), .v (.pointer (some (((⟨b, 0, none⟩ : Addr).add 5).add 0))), .v (.pointer (some (((⟨b, 0, none⟩ : Addr).add 5).add 3)))]⟩]⟩ [] [] (by kernel_rfl) on wn ?_
          refine l_nil (q_then_normal ?_)
          refine c_seq ?_
          refine c_region ?_
          refine JL_run 2 [] [44, 8, 1, 31, 30, 29, 0] 1 ⟨[(44, vB (!(decide (r5.2.2 = 0)))), (8, vI r5.2.2), (1, vS r5.2.1), (31, vI 4), (30, vI 5), (29, .s 0 0 5 5), (0, .v (.pointer (some (⟨b, 0, none⟩ : Addr))))], [⟨180, [.v (.pointer (some ((⟨b, 0, none⟩ : Addr).add 2))), .v (.pointer (some ((⟨b, 0, none⟩ : Addr).add 3))), .v (.pointer (some ((⟨b, 0, none⟩ : Addr).add 4))), .v (.pointer (some (((⟨b, 0, none⟩ : Addr).add 5).add 0))), .v (.pointer (some (((⟨b, 0, none⟩ : Addr).add 5).add 3)))]⟩]⟩ [] [] (by kernel_rfl) on wn ?_
          refine l_nil (q_then_normal ?_)
          cases h5 : decide (r5.2.2 = 0) with
          | true =>
            have h5 := of_decide_eq_true h5
            refine c_if false rfl ?_
            refine c_skip ?_
            refine q_block_normal (q_then_normal ?_)
            refine c_region ?_
            refine JL_run 2 [] [31, 1, 30, 29, 0] 1 ⟨[(31, vI 5), (1, vS r5.2.1), (30, vI 5), (29, .s 0 0 5 5), (0, .v (.pointer (some (⟨b, 0, none⟩ : Addr))))], [⟨180, [.v (.pointer (some ((⟨b, 0, none⟩ : Addr).add 2))), .v (.pointer (some ((⟨b, 0, none⟩ : Addr).add 3))), .v (.pointer (some ((⟨b, 0, none⟩ : Addr).add 4))), .v (.pointer (some (((⟨b, 0, none⟩ : Addr).add 5).add 0))), .v (.pointer (some (((⟨b, 0, none⟩ : Addr).add 5).add 3)))]⟩]⟩ [inR (5)] [] (by kernel_rfl) (oc (by unfold inR; omega) on) wn ?_
            refine l_nil (q_round ?_)
            refine c_seq ?_
            refine c_region ?_
            refine JL_run 1 [] [32, 31, 1, 30, 29, 0] 1 ⟨[(32, vB false), (31, vI 5), (1, vS r5.2.1), (30, vI 5), (29, .s 0 0 5 5), (0, .v (.pointer (some (⟨b, 0, none⟩ : Addr))))], [⟨180, [.v (.pointer (some ((⟨b, 0, none⟩ : Addr).add 2))), .v (.pointer (some ((⟨b, 0, none⟩ : Addr).add 3))), .v (.pointer (some ((⟨b, 0, none⟩ : Addr).add 4))), .v (.pointer (some (((⟨b, 0, none⟩ : Addr).add 5).add 0))), .v (.pointer (some (((⟨b, 0, none⟩ : Addr).add 5).add 3)))]⟩]⟩ [] [] (by kernel_rfl) on wn ?_
            refine l_nil (q_then_normal ?_)
            refine c_seq ?_
            refine c_if false rfl ?_
            refine c_exit ?_
            refine q_then_exit (q_then_exit (q_block_hit (q_then_normal ?_)))
            refine c_seq ?_
            refine c_seq ?_
            refine c_draw 11 [] (.p 0 (.p 1 (.p 2 (.p 3 (.p 4 (.p 5 (.p 6 (.p 7 (.p 10 (.b 8 (.p 9 .nil) .z)))))))))) [] [blkR b 100 [.int .i64 c.kind, .int .i64 c.client, .int .i64 r1.1, .int .i64 r2.1, .int .i64 r3.1, .int .i64 r4.1, .string c.op.a, .string c.op.b, .int .i64 r5.1]] Try_mixed (by kernel_rfl) (pq_then (pq_then pq_body)) (List.Sublist.refl _) ?_
            refine h_quiet [] [(0, true), (1, true), (2, true), (3, true), (4, true), (5, true), (6, true), (7, true), (10, true)] [(57, vI 0), (54, .v (.pointer (some (((⟨b, 0, none⟩ : Addr).add 5).add 2)))), (53, .v (.pointer (some ((⟨b, 0, none⟩ : Addr).add 5)))), (52, .v (.pointer (some (⟨b, 0, none⟩ : Addr)))), (51, .v (.pointer (some (⟨b, 0, none⟩ : Addr)))), (50, .v (.pointer (some (((⟨b, 0, none⟩ : Addr).add 5).add 1)))), (49, .v (.pointer (some ((⟨b, 0, none⟩ : Addr).add 5)))), (48, .v (.pointer (some (⟨b, 0, none⟩ : Addr)))), (47, .v (.pointer (some (⟨b, 0, none⟩ : Addr)))), (32, vB false), (31, vI 5), (1, vS r5.2.1), (30, vI 5), (29, .s 0 0 5 5), (0, .v (.pointer (some (⟨b, 0, none⟩ : Addr))))] [] [] rfl (by kernel_rfl) on wn ?_
            refine h_local ⟨[(55, .s 1 0 2 2), (57, vI 0), (54, .v (.pointer (some (((⟨b, 0, none⟩ : Addr).add 5).add 2)))), (53, .v (.pointer (some ((⟨b, 0, none⟩ : Addr).add 5)))), (52, .v (.pointer (some (⟨b, 0, none⟩ : Addr)))), (51, .v (.pointer (some (⟨b, 0, none⟩ : Addr)))), (50, .v (.pointer (some (((⟨b, 0, none⟩ : Addr).add 5).add 1)))), (49, .v (.pointer (some ((⟨b, 0, none⟩ : Addr).add 5)))), (48, .v (.pointer (some (⟨b, 0, none⟩ : Addr)))), (47, .v (.pointer (some (⟨b, 0, none⟩ : Addr)))), (32, vB false), (31, vI 5), (1, vS r5.2.1), (30, vI 5), (29, .s 0 0 5 5), (0, .v (.pointer (some (⟨b, 0, none⟩ : Addr))))], [⟨180, [.v (.pointer (some ((⟨b, 0, none⟩ : Addr).add 2))), .v (.pointer (some ((⟨b, 0, none⟩ : Addr).add 3))), .v (.pointer (some ((⟨b, 0, none⟩ : Addr).add 4))), .v (.pointer (some (((⟨b, 0, none⟩ : Addr).add 5).add 0))), .v (.pointer (some (((⟨b, 0, none⟩ : Addr).add 5).add 3)))]⟩, ⟨182, [.v (.pointer (some (((⟨b, 0, none⟩ : Addr).add 5).add 1))), .v (.pointer (some (((⟨b, 0, none⟩ : Addr).add 5).add 2)))]⟩]⟩ (by kernel_rfl) (fun bs0 bs w hp hl hS => hS.down hp hl rfl (le_same le_nil) (List.Sublist.refl _)) ?_
            refine h_quiet [] [(9, true)] [(56, vI 2), (55, .s 1 0 2 2), (57, vI 0), (54, .v (.pointer (some (((⟨b, 0, none⟩ : Addr).add 5).add 2)))), (53, .v (.pointer (some ((⟨b, 0, none⟩ : Addr).add 5)))), (52, .v (.pointer (some (⟨b, 0, none⟩ : Addr)))), (51, .v (.pointer (some (⟨b, 0, none⟩ : Addr)))), (50, .v (.pointer (some (((⟨b, 0, none⟩ : Addr).add 5).add 1)))), (49, .v (.pointer (some ((⟨b, 0, none⟩ : Addr).add 5)))), (48, .v (.pointer (some (⟨b, 0, none⟩ : Addr)))), (47, .v (.pointer (some (⟨b, 0, none⟩ : Addr)))), (32, vB false), (31, vI 5), (1, vS r5.2.1), (30, vI 5), (29, .s 0 0 5 5), (0, .v (.pointer (some (⟨b, 0, none⟩ : Addr))))] [] [] rfl (by kernel_rfl) on wn ?_
            refine h_nil ?_
            refine l_nil (q_then_normal ?_)
            refine c_block ?_
            refine c_unroll (n := 3) ?_
            refine c_seq ?_
            refine c_region ?_
            refine JL_run 1 [] [58, 56, 55, 57, 1] 2 ⟨[(58, vB true), (56, vI 2), (55, .s 1 0 2 2), (57, vI 0), (1, vS r5.2.1)], [⟨180, [.v (.pointer (some ((⟨b, 0, none⟩ : Addr).add 2))), .v (.pointer (some ((⟨b, 0, none⟩ : Addr).add 3))), .v (.pointer (some ((⟨b, 0, none⟩ : Addr).add 4))), .v (.pointer (some (((⟨b, 0, none⟩ : Addr).add 5).add 0))), .v (.pointer (some (((⟨b, 0, none⟩ : Addr).add 5).add 3)))]⟩, ⟨182, [.v (.pointer (some (((⟨b, 0, none⟩ : Addr).add 5).add 1))), .v (.pointer (some (((⟨b, 0, none⟩ : Addr).add 5).add 2)))]⟩]⟩ [] [] (by kernel_rfl) on wn ?_
            refine l_nil (q_then_normal ?_)
            refine c_seq ?_
            refine c_if true rfl ?_
            refine c_skip ?_
            refine q_then_normal ?_
            refine c_seq ?_
            refine c_block ?_
            refine c_seq ?_
            refine c_region ?_
            refine JL_run 3 [(0, .idx default 0)] [10, 56, 55, 57, 1] 2 ⟨[(10, .v (.pointer (some (((⟨b, 0, none⟩ : Addr).add 5).add 1)))), (56, vI 2), (55, .s 1 0 2 2), (57, vI 0), (1, vS r5.2.1)], [⟨180, [.v (.pointer (some ((⟨b, 0, none⟩ : Addr).add 2))), .v (.pointer (some ((⟨b, 0, none⟩ : Addr).add 3))), .v (.pointer (some ((⟨b, 0, none⟩ : Addr).add 4))), .v (.pointer (some (((⟨b, 0, none⟩ : Addr).add 5).add 0))), .v (.pointer (some (((⟨b, 0, none⟩ : Addr).add 5).add 3)))]⟩, ⟨182, [.v (.pointer (some (((⟨b, 0, none⟩ : Addr).add 5).add 1))), .v (.pointer (some (((⟨b, 0, none⟩ : Addr).add 5).add 2)))]⟩]⟩ [(0 : Int) = ((0 : Nat) : Int), 0 < 2] [] (by kernel_rfl) (oc rfl (oc (by omega) on)) wn ?_
            refine l_nil (q_then_normal ?_)
            refine c_seq ?_
            refine c_region ?_
            refine JL_run 1 [] [10, 56, 55, 57, 1] 2 ⟨[(10, .v (.pointer (some (((⟨b, 0, none⟩ : Addr).add 5).add 1)))), (56, vI 2), (55, .s 1 0 2 2), (57, vI 0), (1, vS r5.2.1)], [⟨180, [.v (.pointer (some ((⟨b, 0, none⟩ : Addr).add 2))), .v (.pointer (some ((⟨b, 0, none⟩ : Addr).add 3))), .v (.pointer (some ((⟨b, 0, none⟩ : Addr).add 4))), .v (.pointer (some (((⟨b, 0, none⟩ : Addr).add 5).add 0))), .v (.pointer (some (((⟨b, 0, none⟩ : Addr).add 5).add 3)))]⟩, ⟨182, [.v (.pointer (some (((⟨b, 0, none⟩ : Addr).add 5).add 1))), .v (.pointer (some (((⟨b, 0, none⟩ : Addr).add 5).add 2)))]⟩]⟩ [] [] (by kernel_rfl) on wn ?_
            refine l_nil (q_then_normal ?_)
            refine c_seq ?_
            refine c_region ?_
            refine JL_run 2 [] [63, 62, 56, 55, 57] 2 ⟨[(63, vS r5.2.1), (62, .v (.pointer (some (((⟨b, 0, none⟩ : Addr).add 5).add 1)))), (56, vI 2), (55, .s 1 0 2 2), (57, vI 0)], [⟨180, [.v (.pointer (some ((⟨b, 0, none⟩ : Addr).add 2))), .v (.pointer (some ((⟨b, 0, none⟩ : Addr).add 3))), .v (.pointer (some ((⟨b, 0, none⟩ : Addr).add 4))), .v (.pointer (some (((⟨b, 0, none⟩ : Addr).add 5).add 0))), .v (.pointer (some (((⟨b, 0, none⟩ : Addr).add 5).add 3)))]⟩, ⟨182, [.v (.pointer (some (((⟨b, 0, none⟩ : Addr).add 5).add 1))), .v (.pointer (some (((⟨b, 0, none⟩ : Addr).add 5).add 2)))]⟩]⟩ [] [] (by kernel_rfl) on wn ?_
            refine l_pure 148 [] [vS r5.2.1] (.tuple #[.string ((mTell r5.2.1).1), .string ((mTell r5.2.1).2.1), .int .i64 ((mTell r5.2.1).2.2)]) Try.call148 rfl rfl rfl rfl (fun bs w hS => codec_ReadText _ w (by first | assumption | omega | (simp only [emp_size]; omega))) ?_
            have hzr6 := mTell_bd r5.2.1
            generalize hr6 : mTell r5.2.1 = r6 at hzr6 ⊢
            refine JL_run 5 [] [68, 67, 66, 65, 56, 55, 57] 2 ⟨[(68, .v (.pointer (some (((⟨b, 0, none⟩ : Addr).add 5).add 1)))), (67, vI r6.2.2), (66, vS r6.2.1), (65, vS r6.1), (56, vI 2), (55, .s 1 0 2 2), (57, vI 0)], [⟨180, [.v (.pointer (some ((⟨b, 0, none⟩ : Addr).add 2))), .v (.pointer (some ((⟨b, 0, none⟩ : Addr).add 3))), .v (.pointer (some ((⟨b, 0, none⟩ : Addr).add 4))), .v (.pointer (some (((⟨b, 0, none⟩ : Addr).add 5).add 0))), .v (.pointer (some (((⟨b, 0, none⟩ : Addr).add 5).add 3)))]⟩, ⟨182, [.v (.pointer (some (((⟨b, 0, none⟩ : Addr).add 5).add 1))), .v (.pointer (some (((⟨b, 0, none⟩ : Addr).add 5).add 2)))]⟩]⟩ [] [] (by kernel_rfl) on wn ?_
            refine l_storeB b 100 [.int .i64 c.kind, .int .i64 c.client, .int .i64 r1.1, .int .i64 r2.1, .int .i64 r3.1, .int .i64 r4.1, .string c.op.a, .string c.op.b, .int .i64 r5.1] 6 (((⟨b, 0, none⟩ : Addr).add 5).add 1) (vS r6.1) [vS r6.1] [.string r6.1] [.int .i64 c.kind, .int .i64 c.client, .int .i64 r1.1, .int .i64 r2.1, .int .i64 r3.1, .int .i64 r4.1, .string r6.1, .string c.op.b, .int .i64 r5.1] (addr_add _ 5 1) rfl rfl rfl rfl (by kernel_rfl) (by kernel_rfl) rfl (by kernel_rfl) rfl rfl rfl ?_
            refine JL_run 2 [] [11, 1, 56, 55, 57] 2 ⟨[(11, vI r6.2.2), (1, vS r6.2.1), (56, vI 2), (55, .s 1 0 2 2), (57, vI 0)], [⟨180, [.v (.pointer (some ((⟨b, 0, none⟩ : Addr).add 2))), .v (.pointer (some ((⟨b, 0, none⟩ : Addr).add 3))), .v (.pointer (some ((⟨b, 0, none⟩ : Addr).add 4))), .v (.pointer (some (((⟨b, 0, none⟩ : Addr).add 5).add 0))), .v (.pointer (some (((⟨b, 0, none⟩ : Addr).add 5).add 3)))]⟩, ⟨182, [.v (.pointer (some (((⟨b, 0, none⟩ : Addr).add 5).add 1))), .v (.pointer (some (((⟨b, 0, none⟩ : Addr).add 5).add 2)))]⟩]⟩ [] [] (by kernel_rfl) on wn ?_
            refine l_nil (q_then_normal ?_)
            refine c_seq ?_
            refine c_region ?_
            refine JL_run 2 [] [70, 11, 1, 56, 55, 57] 2 ⟨[(70, vB (!(decide (r6.2.2 = 0)))), (11, vI r6.2.2), (1, vS r6.2.1), (56, vI 2), (55, .s 1 0 2 2), (57, vI 0)], [⟨180, [.v (.pointer (some ((⟨b, 0, none⟩ : Addr).add 2))), .v (.pointer (some ((⟨b, 0, none⟩ : Addr).add 3))), .v (.pointer (some ((⟨b, 0, none⟩ : Addr).add 4))), .v (.pointer (some (((⟨b, 0, none⟩ : Addr).add 5).add 0))), .v (.pointer (some (((⟨b, 0, none⟩ : Addr).add 5).add 3)))]⟩, ⟨182, [.v (.pointer (some (((⟨b, 0, none⟩ : Addr).add 5).add 1))), .v (.pointer (some (((⟨b, 0, none⟩ : Addr).add 5).add 2)))]⟩]⟩ [] [] (by kernel_rfl) on wn ?_
            refine l_nil (q_then_normal ?_)
            cases h6 : decide (r6.2.2 = 0) with
            | true =>
              have h6 := of_decide_eq_true h6
              refine c_if false rfl ?_
              refine c_skip ?_
              refine q_block_normal (q_then_normal ?_)
              refine c_region ?_
              refine JL_run 2 [] [57, 1, 56, 55] 2 ⟨[(57, vI 1), (1, vS r6.2.1), (56, vI 2), (55, .s 1 0 2 2)], [⟨180, [.v (.pointer (some ((⟨b, 0, none⟩ : Addr).add 2))), .v (.pointer (some ((⟨b, 0, none⟩ : Addr).add 3))), .v (.pointer (some ((⟨b, 0, none⟩ : Addr).add 4))), .v (.pointer (some (((⟨b, 0, none⟩ : Addr).add 5).add 0))), .v (.pointer (some (((⟨b, 0, none⟩ : Addr).add 5).add 3)))]⟩, ⟨182, [.v (.pointer (some (((⟨b, 0, none⟩ : Addr).add 5).add 1))), .v (.pointer (some (((⟨b, 0, none⟩ : Addr).add 5).add 2)))]⟩]⟩ [inR (1)] [] (by kernel_rfl) (oc (by unfold inR; omega) on) wn ?_
              refine l_nil (q_round ?_)
              refine c_seq ?_
              refine c_region ?_
              refine JL_run 1 [] [58, 57, 1, 56, 55] 2 ⟨[(58, vB true), (57, vI 1), (1, vS r6.2.1), (56, vI 2), (55, .s 1 0 2 2)], [⟨180, [.v (.pointer (some ((⟨b, 0, none⟩ : Addr).add 2))), .v (.pointer (some ((⟨b, 0, none⟩ : Addr).add 3))), .v (.pointer (some ((⟨b, 0, none⟩ : Addr).add 4))), .v (.pointer (some (((⟨b, 0, none⟩ : Addr).add 5).add 0))), .v (.pointer (some (((⟨b, 0, none⟩ : Addr).add 5).add 3)))]⟩, ⟨182, [.v (.pointer (some (((⟨b, 0, none⟩ : Addr).add 5).add 1))), .v (.pointer (some (((⟨b, 0, none⟩ : Addr).add 5).add 2)))]⟩]⟩ [] [] (by kernel_rfl) on wn ?_
              refine l_nil (q_then_normal ?_)
              refine c_seq ?_
              refine c_if true rfl ?_
              refine c_skip ?_
              refine q_then_normal ?_
              refine c_seq ?_
              refine c_block ?_
              refine c_seq ?_
              refine c_region ?_
              refine JL_run 3 [(0, .idx default 1)] [10, 57, 1, 56, 55] 2 ⟨[(10, .v (.pointer (some (((⟨b, 0, none⟩ : Addr).add 5).add 2)))), (57, vI 1), (1, vS r6.2.1), (56, vI 2), (55, .s 1 0 2 2)], [⟨180, [.v (.pointer (some ((⟨b, 0, none⟩ : Addr).add 2))), .v (.pointer (some ((⟨b, 0, none⟩ : Addr).add 3))), .v (.pointer (some ((⟨b, 0, none⟩ : Addr).add 4))), .v (.pointer (some (((⟨b, 0, none⟩ : Addr).add 5).add 0))), .v (.pointer (some (((⟨b, 0, none⟩ : Addr).add 5).add 3)))]⟩, ⟨182, [.v (.pointer (some (((⟨b, 0, none⟩ : Addr).add 5).add 1))), .v (.pointer (some (((⟨b, 0, none⟩ : Addr).add 5).add 2)))]⟩]⟩ [(1 : Int) = ((1 : Nat) : Int), 1 < 2] [] (by kernel_rfl) (oc rfl (oc (by omega) on)) wn ?_
              refine l_nil (q_then_normal ?_)
              refine c_seq ?_
              refine c_region ?_
              refine JL_run 1 [] [10, 57, 1, 56, 55] 2 ⟨[(10, .v (.pointer (some (((⟨b, 0, none⟩ : Addr).add 5).add 2)))), (57, vI 1), (1, vS r6.2.1), (56, vI 2), (55, .s 1 0 2 2)], [⟨180, [.v (.pointer (some ((⟨b, 0, none⟩ : Addr).add 2))), .v (.pointer (some ((⟨b, 0, none⟩ : Addr).add 3))), .v (.pointer (some ((⟨b, 0, none⟩ : Addr).add 4))), .v (.pointer (some (((⟨b, 0, none⟩ : Addr).add 5).add 0))), .v (.pointer (some (((⟨b, 0, none⟩ : Addr).add 5).add 3)))]⟩, ⟨182, [.v (.pointer (some (((⟨b, 0, none⟩ : Addr).add 5).add 1))), .v (.pointer (some (((⟨b, 0, none⟩ : Addr).add 5).add 2)))]⟩]⟩ [] [] (by kernel_rfl) on wn ?_
              refine l_nil (q_then_normal ?_)
              refine c_seq ?_
              refine c_region ?_
              refine JL_run 2 [] [63, 62, 57, 56, 55] 2 ⟨[(63, vS r6.2.1), (62, .v (.pointer (some (((⟨b, 0, none⟩ : Addr).add 5).add 2)))), (57, vI 1), (56, vI 2), (55, .s 1 0 2 2)], [⟨180, [.v (.pointer (some ((⟨b, 0, none⟩ : Addr).add 2))), .v (.pointer (some ((⟨b, 0, none⟩ : Addr).add 3))), .v (.pointer (some ((⟨b, 0, none⟩ : Addr).add 4))), .v (.pointer (some (((⟨b, 0, none⟩ : Addr).add 5).add 0))), .v (.pointer (some (((⟨b, 0, none⟩ : Addr).add 5).add 3)))]⟩, ⟨182, [.v (.pointer (some (((⟨b, 0, none⟩ : Addr).add 5).add 1))), .v (.pointer (some (((⟨b, 0, none⟩ : Addr).add 5).add 2)))]⟩]⟩ [] [] (by kernel_rfl) on wn ?_
              refine l_pure 148 [] [vS r6.2.1] (.tuple #[.string ((mTell r6.2.1).1), .string ((mTell r6.2.1).2.1), .int .i64 ((mTell r6.2.1).2.2)]) Try.call148 rfl rfl rfl rfl (fun bs w hS => codec_ReadText _ w (by first | assumption | omega | (simp only [emp_size]; omega))) ?_
              have hzr7 := mTell_bd r6.2.1
              generalize hr7 : mTell r6.2.1 = r7 at hzr7 ⊢
              refine JL_run 5 [] [68, 67, 66, 65, 57, 56, 55] 2 ⟨[(68, .v (.pointer (some (((⟨b, 0, none⟩ : Addr).add 5).add 2)))), (67, vI r7.2.2), (66, vS r7.2.1), (65, vS r7.1), (57, vI 1), (56, vI 2), (55, .s 1 0 2 2)], [⟨180, [.v (.pointer (some ((⟨b, 0, none⟩ : Addr).add 2))), .v (.pointer (some ((⟨b, 0, none⟩ : Addr).add 3))), .v (.pointer (some ((⟨b, 0, none⟩ : Addr).add 4))), .v (.pointer (some (((⟨b, 0, none⟩ : Addr).add 5).add 0))), .v (.pointer (some (((⟨b, 0, none⟩ : Addr).add 5).add 3)))]⟩, ⟨182, [.v (.pointer (some (((⟨b, 0, none⟩ : Addr).add 5).add 1))), .v (.pointer (some (((⟨b, 0, none⟩ : Addr).add 5).add 2)))]⟩]⟩ [] [] (by kernel_rfl) on wn ?_
              refine l_storeB b 100 [.int .i64 c.kind, .int .i64 c.client, .int .i64 r1.1, .int .i64 r2.1, .int .i64 r3.1, .int .i64 r4.1, .string r6.1, .string c.op.b, .int .i64 r5.1] 7 (((⟨b, 0, none⟩ : Addr).add 5).add 2) (vS r7.1) [vS r7.1] [.string r7.1] [.int .i64 c.kind, .int .i64 c.client, .int .i64 r1.1, .int .i64 r2.1, .int .i64 r3.1, .int .i64 r4.1, .string r6.1, .string r7.1, .int .i64 r5.1] (addr_add _ 5 2) rfl rfl rfl rfl (by kernel_rfl) (by kernel_rfl) rfl (by kernel_rfl) rfl rfl rfl ?_
              refine JL_run 2 [] [11, 1, 57, 56, 55] 2 ⟨[(11, vI r7.2.2), (1, vS r7.2.1), (57, vI 1), (56, vI 2), (55, .s 1 0 2 2)], [⟨180, [.v (.pointer (some ((⟨b, 0, none⟩ : Addr).add 2))), .v (.pointer (some ((⟨b, 0, none⟩ : Addr).add 3))), .v (.pointer (some ((⟨b, 0, none⟩ : Addr).add 4))), .v (.pointer (some (((⟨b, 0, none⟩ : Addr).add 5).add 0))), .v (.pointer (some (((⟨b, 0, none⟩ : Addr).add 5).add 3)))]⟩, ⟨182, [.v (.pointer (some (((⟨b, 0, none⟩ : Addr).add 5).add 1))), .v (.pointer (some (((⟨b, 0, none⟩ : Addr).add 5).add 2)))]⟩]⟩ [] [] (by kernel_rfl) on wn ?_
              refine l_nil (q_then_normal ?_)
              refine c_seq ?_
              refine c_region ?_
              refine JL_run 2 [] [70, 11, 1, 57, 56, 55] 2 ⟨[(70, vB (!(decide (r7.2.2 = 0)))), (11, vI r7.2.2), (1, vS r7.2.1), (57, vI 1), (56, vI 2), (55, .s 1 0 2 2)], [⟨180, [.v (.pointer (some ((⟨b, 0, none⟩ : Addr).add 2))), .v (.pointer (some ((⟨b, 0, none⟩ : Addr).add 3))), .v (.pointer (some ((⟨b, 0, none⟩ : Addr).add 4))), .v (.pointer (some (((⟨b, 0, none⟩ : Addr).add 5).add 0))), .v (.pointer (some (((⟨b, 0, none⟩ : Addr).add 5).add 3)))]⟩, ⟨182, [.v (.pointer (some (((⟨b, 0, none⟩ : Addr).add 5).add 1))), .v (.pointer (some (((⟨b, 0, none⟩ : Addr).add 5).add 2)))]⟩]⟩ [] [] (by kernel_rfl) on wn ?_
              refine l_nil (q_then_normal ?_)
              cases h7 : decide (r7.2.2 = 0) with
              | true =>
                have h7 := of_decide_eq_true h7
                refine c_if false rfl ?_
                refine c_skip ?_
                refine q_block_normal (q_then_normal ?_)
                refine c_region ?_
                refine JL_run 2 [] [57, 1, 56, 55] 2 ⟨[(57, vI 2), (1, vS r7.2.1), (56, vI 2), (55, .s 1 0 2 2)], [⟨180, [.v (.pointer (some ((⟨b, 0, none⟩ : Addr).add 2))), .v (.pointer (some ((⟨b, 0, none⟩ : Addr).add 3))), .v (.pointer (some ((⟨b, 0, none⟩ : Addr).add 4))), .v (.pointer (some (((⟨b, 0, none⟩ : Addr).add 5).add 0))), .v (.pointer (some (((⟨b, 0, none⟩ : Addr).add 5).add 3)))]⟩, ⟨182, [.v (.pointer (some (((⟨b, 0, none⟩ : Addr).add 5).add 1))), .v (.pointer (some (((⟨b, 0, none⟩ : Addr).add 5).add 2)))]⟩]⟩ [inR (2)] [] (by kernel_rfl) (oc (by unfold inR; omega) on) wn ?_
                refine l_nil (q_round ?_)
                refine c_seq ?_
                refine c_region ?_
                refine JL_run 1 [] [58, 57, 1, 56, 55] 2 ⟨[(58, vB false), (57, vI 2), (1, vS r7.2.1), (56, vI 2), (55, .s 1 0 2 2)], [⟨180, [.v (.pointer (some ((⟨b, 0, none⟩ : Addr).add 2))), .v (.pointer (some ((⟨b, 0, none⟩ : Addr).add 3))), .v (.pointer (some ((⟨b, 0, none⟩ : Addr).add 4))), .v (.pointer (some (((⟨b, 0, none⟩ : Addr).add 5).add 0))), .v (.pointer (some (((⟨b, 0, none⟩ : Addr).add 5).add 3)))]⟩, ⟨182, [.v (.pointer (some (((⟨b, 0, none⟩ : Addr).add 5).add 1))), .v (.pointer (some (((⟨b, 0, none⟩ : Addr).add 5).add 2)))]⟩]⟩ [] [] (by kernel_rfl) on wn ?_
                refine l_nil (q_then_normal ?_)
                refine c_seq ?_
                refine c_if false rfl ?_
                refine c_exit ?_
                refine q_then_exit (q_then_exit (q_block_hit (q_then_normal ?_)))
                refine c_seq ?_
                refine c_region ?_
                refine JL_run 3 [] [5, 4] 0 ⟨[(5, vI 0), (4, vS r7.2.1)], []⟩ [] [] (by kernel_rfl) on wn ?_
                refine l_nil (q_then_normal ?_)
                refine c_ret ?_
                refine q_ret (.inl rfl) [vS r7.2.1, vI 0] rfl (fun bs w hS => ?_)
                have hm : mBody c t = ((⟨c.kind, c.client, r1.1, r2.1, r3.1, ⟨r4.1, r6.1, r7.1, r5.1⟩⟩ : DCommand), r7.2.1, 0) := by unfold mBody; simp only [hr1, hr2, hr3, hr4, hr5, hr6, hr7, h1, h2, h3, h4, h5, h6, h7, ne_eq, not_true_eq_false, not_false_eq_true, if_true, if_false, reduceIte]
                exact ⟨(⟨c.kind, c.client, r1.1, r2.1, r3.1, ⟨r4.1, r6.1, r7.1, r5.1⟩⟩ : DCommand), by rw [hm]; rfl, ⟨fun _ => by rw [hm], ⟨(show r6.1.size ≤ 9223372036854775807 by omega), (show r7.1.size ≤ 9223372036854775807 by omega)⟩⟩, hS.kp, hS.res _ (.head _)⟩
              | false =>
                have h7 := of_decide_eq_false h7
                refine c_if true rfl ?_
                refine c_seq ?_
                refine c_region ?_
                refine JL_run 3 [] [5, 4] 0 ⟨[(5, vI r7.2.2), (4, vS emp)], []⟩ [] [] (by kernel_rfl) on wn ?_
                refine l_nil (q_then_normal ?_)
                refine c_ret ?_
                refine q_block_ret (q_then_ret (q_then_ret (q_block_ret (q_then_ret (q_ret (.inl rfl) [vS emp, vI r7.2.2] rfl (fun bs w hS => ?_))))))
                have hm : mBody c t = (c, emp, r7.2.2) := by unfold mBody; simp only [hr1, hr2, hr3, hr4, hr5, hr6, hr7, h1, h2, h3, h4, h5, h6, h7, ne_eq, not_true_eq_false, not_false_eq_true, if_true, if_false, reduceIte]
                exact ⟨(⟨c.kind, c.client, r1.1, r2.1, r3.1, ⟨r4.1, r6.1, r7.1, r5.1⟩⟩ : DCommand), by rw [hm]; rfl, ⟨fun h0 => absurd h0 (by rw [hm]; exact h7), ⟨(show r6.1.size ≤ 9223372036854775807 by omega), (show r7.1.size ≤ 9223372036854775807 by omega)⟩⟩, hS.kp, hS.res _ (.head _)⟩
            | false =>
              have h6 := of_decide_eq_false h6
              refine c_if true rfl ?_
              refine c_seq ?_
              refine c_region ?_
              refine JL_run 3 [] [5, 4] 0 ⟨[(5, vI r6.2.2), (4, vS emp)], []⟩ [] [] (by kernel_rfl) on wn ?_
              refine l_nil (q_then_normal ?_)
              refine c_ret ?_
              refine q_block_ret (q_then_ret (q_then_ret (q_block_ret (q_then_ret (q_ret (.inl rfl) [vS emp, vI r6.2.2] rfl (fun bs w hS => ?_))))))
              have hm : mBody c t = (c, emp, r6.2.2) := by unfold mBody; simp only [hr1, hr2, hr3, hr4, hr5, hr6, h1, h2, h3, h4, h5, h6, ne_eq, not_true_eq_false, not_false_eq_true, if_true, if_false, reduceIte]
              exact ⟨(⟨c.kind, c.client, r1.1, r2.1, r3.1, ⟨r4.1, r6.1, c.op.b, r5.1⟩⟩ : DCommand), by rw [hm]; rfl, ⟨fun h0 => absurd h0 (by rw [hm]; exact h6), ⟨(show r6.1.size ≤ 9223372036854775807 by omega), hc.2⟩⟩, hS.kp, hS.res _ (.head _)⟩
          | false =>
            have h5 := of_decide_eq_false h5
            refine c_if true rfl ?_
            refine c_seq ?_
            refine c_region ?_
            refine JL_run 3 [] [5, 4] 0 ⟨[(5, vI r5.2.2), (4, vS emp)], []⟩ [] [] (by kernel_rfl) on wn ?_
            refine l_nil (q_then_normal ?_)
            refine c_ret ?_
            refine q_block_ret (q_then_ret (q_then_ret (q_block_ret (q_then_ret (q_ret (.inl rfl) [vS emp, vI r5.2.2] rfl (fun bs w hS => ?_))))))
            have hm : mBody c t = (c, emp, r5.2.2) := by unfold mBody; simp only [hr1, hr2, hr3, hr4, hr5, h1, h2, h3, h4, h5, ne_eq, not_true_eq_false, not_false_eq_true, if_true, if_false, reduceIte]
            exact ⟨(⟨c.kind, c.client, r1.1, r2.1, r3.1, ⟨r4.1, c.op.a, c.op.b, r5.1⟩⟩ : DCommand), by rw [hm]; rfl, ⟨fun h0 => absurd h0 (by rw [hm]; exact h5), ⟨hc.1, hc.2⟩⟩, hS.kp, hS.res _ (.head _)⟩
        | false =>
          have h4 := of_decide_eq_false h4
          refine c_if true rfl ?_
          refine c_seq ?_
          refine c_region ?_
          refine JL_run 3 [] [5, 4] 0 ⟨[(5, vI r4.2.2), (4, vS emp)], []⟩ [] [] (by kernel_rfl) on wn ?_
          refine l_nil (q_then_normal ?_)
          refine c_ret ?_
          refine q_block_ret (q_then_ret (q_then_ret (q_block_ret (q_then_ret (q_ret (.inl rfl) [vS emp, vI r4.2.2] rfl (fun bs w hS => ?_))))))
          have hm : mBody c t = (c, emp, r4.2.2) := by unfold mBody; simp only [hr1, hr2, hr3, hr4, h1, h2, h3, h4, ne_eq, not_true_eq_false, not_false_eq_true, if_true, if_false, reduceIte]
          exact ⟨(⟨c.kind, c.client, r1.1, r2.1, r3.1, ⟨r4.1, c.op.a, c.op.b, c.op.n⟩⟩ : DCommand), by rw [hm]; rfl, ⟨fun h0 => absurd h0 (by rw [hm]; exact h4), ⟨hc.1, hc.2⟩⟩, hS.kp, hS.res _ (.head _)⟩
      | false =>
        have h3 := of_decide_eq_false h3
        refine c_if true rfl ?_
        refine c_seq ?_
        refine c_region ?_
        refine JL_run 3 [] [5, 4] 0 ⟨[(5, vI r3.2.2), (4, vS emp)], []⟩ [] [] (by kernel_rfl) on wn ?_
        refine l_nil (q_then_normal ?_)
        refine c_ret ?_
        refine q_block_ret (q_then_ret (q_then_ret (q_block_ret (q_then_ret (q_ret (.inl rfl) [vS emp, vI r3.2.2] rfl (fun bs w hS => ?_))))))
        have hm : mBody c t = (c, emp, r3.2.2) := by unfold mBody; simp only [hr1, hr2, hr3, h1, h2, h3, ne_eq, not_true_eq_false, not_false_eq_true, if_true, if_false, reduceIte]
        exact ⟨(⟨c.kind, c.client, r1.1, r2.1, r3.1, ⟨c.op.kind, c.op.a, c.op.b, c.op.n⟩⟩ : DCommand), by rw [hm]; rfl, ⟨fun h0 => absurd h0 (by rw [hm]; exact h3), ⟨hc.1, hc.2⟩⟩, hS.kp, hS.res _ (.head _)⟩
    | false =>
      have h2 := of_decide_eq_false h2
      refine c_if true rfl ?_
      refine c_seq ?_
      refine c_region ?_
      refine JL_run 3 [] [5, 4] 0 ⟨[(5, vI r2.2.2), (4, vS emp)], []⟩ [] [] (by kernel_rfl) on wn ?_
      refine l_nil (q_then_normal ?_)
      refine c_ret ?_
      refine q_block_ret (q_then_ret (q_then_ret (q_block_ret (q_then_ret (q_ret (.inl rfl) [vS emp, vI r2.2.2] rfl (fun bs w hS => ?_))))))
      have hm : mBody c t = (c, emp, r2.2.2) := by unfold mBody; simp only [hr1, hr2, h1, h2, ne_eq, not_true_eq_false, not_false_eq_true, if_true, if_false, reduceIte]
      exact ⟨(⟨c.kind, c.client, r1.1, r2.1, c.acked, ⟨c.op.kind, c.op.a, c.op.b, c.op.n⟩⟩ : DCommand), by rw [hm]; rfl, ⟨fun h0 => absurd h0 (by rw [hm]; exact h2), ⟨hc.1, hc.2⟩⟩, hS.kp, hS.res _ (.head _)⟩
  | false =>
    have h1 := of_decide_eq_false h1
    refine c_if true rfl ?_
    refine c_seq ?_
    refine c_region ?_
    refine JL_run 3 [] [5, 4] 0 ⟨[(5, vI r1.2.2), (4, vS emp)], []⟩ [] [] (by kernel_rfl) on wn ?_
    refine l_nil (q_then_normal ?_)
    refine c_ret ?_
    refine q_block_ret (q_then_ret (q_then_ret (q_block_ret (q_then_ret (q_ret (.inl rfl) [vS emp, vI r1.2.2] rfl (fun bs w hS => ?_))))))
    have hm : mBody c t = (c, emp, r1.2.2) := by unfold mBody; simp only [hr1, h1, ne_eq, not_true_eq_false, not_false_eq_true, if_true, if_false, reduceIte]
    exact ⟨(⟨c.kind, c.client, r1.1, c.seq, c.acked, ⟨c.op.kind, c.op.a, c.op.b, c.op.n⟩⟩ : DCommand), by rw [hm]; rfl, ⟨fun h0 => absurd h0 (by rw [hm]; exact h1), ⟨hc.1, hc.2⟩⟩, hS.kp, hS.res _ (.head _)⟩

theorem command_Decode (s : ByteArray) (w : World) (hs : s.size ≤ 9223372036854775807) : Calls Try.prog 67 #[.string s] w fun e w' => e = .returned (.tuple #[.agg #[.int .i64 ((mDecode s).1.kind), .int .i64 ((mDecode s).1.client), .int .i64 ((mDecode s).1.session), .int .i64 ((mDecode s).1.seq), .int .i64 ((mDecode s).1.acked), .int .i64 ((mDecode s).1.op.kind), .string ((mDecode s).1.op.a), .string ((mDecode s).1.op.b), .int .i64 ((mDecode s).1.op.n)], .int .i64 ((mDecode s).2)]) ∧ Kp [] w w' := by
  have hu0 := (s.data.getD 0 0).toNat_lt
  have hu1 := (s.data.getD 1 0).toNat_lt
  have hex : (s.extract 2 s.size).size ≤ s.size := by simp
  refine calls_J0 46 Try.func67 rfl rfl [.string s] rfl ?_
  refine c_seq ?_
  refine c_region ?_
  refine JL_run 2 [] [2, 0] 1 ⟨[(2, .p 0 0), (0, vS s)], [⟨100, [vI 0, vI 0, vI 0, vI 0, vI 0, vI 0, vS emp, vS emp, vI 0]⟩]⟩ [] [] (by kernel_rfl) on wn ?_
  refine l_nil (q_then_normal ?_)
  refine c_seq ?_
  refine c_seq ?_
  refine c_region ?_
  refine JL_run 3 [] [9, 2, 0] 1 ⟨[(9, vB (decide ((5000 : Int) < (s.size : Int)))), (2, .p 0 0), (0, vS s)], [⟨100, [vI 0, vI 0, vI 0, vI 0, vI 0, vI 0, vS emp, vS emp, vI 0]⟩]⟩ [] [] (by kernel_rfl) on wn ?_
  refine l_nil (q_then_normal ?_)
  cases h1 : decide ((5000 : Int) < (s.size : Int)) with
  | true =>
    have h1 := of_decide_eq_true h1
    refine c_if true rfl ?_
    refine c_seq ?_
    refine c_region ?_
    refine JL_run 3 [] [3, 2] 1 ⟨[(3, vI 1), (2, .p 0 0)], [⟨100, [vI 0, vI 0, vI 0, vI 0, vI 0, vI 0, vS emp, vS emp, vI 0]⟩]⟩ [] [] (by kernel_rfl) on wn ?_
    refine l_nil (q_then_normal ?_)
    refine c_ret ?_
    refine q_then_ret (q_ret (.inl rfl) [.v (.agg #[.int .i64 0, .int .i64 0, .int .i64 0, .int .i64 0, .int .i64 0, .int .i64 0, .string emp, .string emp, .int .i64 0]), vI 1] rfl (fun bs w hS => ?_))
    refine ⟨?_, hS.kp⟩
    have hm : mDecode s = ((⟨0, 0, 0, 0, 0, ⟨0, emp, emp, 0⟩⟩ : DCommand), 1) := by
      have hk : (cmd0 s).kind = ((s.data.getD 0 0).toNat : Int) := rfl
      unfold mDecode
      repeat (first | rw [if_pos (by omega)] | rw [if_neg (by omega)])
      rfl
    rw [hm]
    rfl
  | false =>
    have h1 := of_decide_eq_false h1
    refine c_if false rfl ?_
    refine c_skip ?_
    refine q_then_normal ?_
    refine c_seq ?_
    refine c_seq ?_
    refine c_region ?_
    refine JL_run 3 [] [13, 2, 0] 1 ⟨[(13, vB (decide ((s.size : Int) < 2))), (2, .p 0 0), (0, vS s)], [⟨100, [vI 0, vI 0, vI 0, vI 0, vI 0, vI 0, vS emp, vS emp, vI 0]⟩]⟩ [] [] (by kernel_rfl) on wn ?_
    refine l_nil (q_then_normal ?_)
    cases h2 : decide ((s.size : Int) < 2) with
    | true =>
      have h2 := of_decide_eq_true h2
      refine c_if true rfl ?_
      refine c_seq ?_
      refine c_region ?_
      refine JL_run 3 [] [3, 2] 1 ⟨[(3, vI 5), (2, .p 0 0)], [⟨100, [vI 0, vI 0, vI 0, vI 0, vI 0, vI 0, vS emp, vS emp, vI 0]⟩]⟩ [] [] (by kernel_rfl) on wn ?_
      refine l_nil (q_then_normal ?_)
      refine c_ret ?_
      refine q_then_ret (q_ret (.inl rfl) [.v (.agg #[.int .i64 0, .int .i64 0, .int .i64 0, .int .i64 0, .int .i64 0, .int .i64 0, .string emp, .string emp, .int .i64 0]), vI 5] rfl (fun bs w hS => ?_))
      refine ⟨?_, hS.kp⟩
      have hm : mDecode s = ((⟨0, 0, 0, 0, 0, ⟨0, emp, emp, 0⟩⟩ : DCommand), 5) := by
        have hk : (cmd0 s).kind = ((s.data.getD 0 0).toNat : Int) := rfl
        unfold mDecode
        repeat (first | rw [if_pos (by omega)] | rw [if_neg (by omega)])
        rfl
      rw [hm]
      rfl
    | false =>
      have h2 := of_decide_eq_false h2
      refine c_if false rfl ?_
      refine c_skip ?_
      refine q_then_normal ?_
      refine c_seq ?_
      refine c_draw 8 [] (.p 0 (.p 1 (.p 2 (.p 3 (.p 4 (.p 5 (.p 6 (.b 7 .nil .z)))))))) [] [] Try_mixed (by kernel_rfl) (pq_then pq_body) .slnil ?_
      refine h_quiet [(1, .sidx 0), (4, .sidx 1)] [(0, true), (1, true), (2, true), (3, true), (4, true), (5, true), (6, true)] [(21, .v (.agg #[.int .i64 ((s.data.getD 0 0).toNat : Int), .int .i64 ((s.data.getD 1 0).toNat : Int), .int .i64 0, .int .i64 0, .int .i64 0, .int .i64 0, .string emp, .string emp, .int .i64 0])), (20, vI ((s.data.getD 1 0).toNat : Int)), (19, .v (.int .u8 ((s.data.getD 1 0).toNat : Int))), (18, vS s), (17, vI ((s.data.getD 0 0).toNat : Int)), (16, .v (.int .u8 ((s.data.getD 0 0).toNat : Int))), (15, vS s), (13, vB false), (2, .p 0 0), (0, vS s)] [(0 : Int) = ((0 : Nat) : Int), 0 < s.size, 0 ≤ ((s.data.getD 0 0).toNat : Int), ((s.data.getD 0 0).toNat : Int) ≤ 255, (1 : Int) = ((1 : Nat) : Int), 1 < s.size, 0 ≤ ((s.data.getD 1 0).toNat : Int), ((s.data.getD 1 0).toNat : Int) ≤ 255] [] rfl (by kernel_rfl) (oc rfl (oc (by omega) (oc (by omega) (oc (by omega) (oc rfl (oc (by omega) (oc (by omega) (oc (by omega) on)))))))) wn ?_
      refine h_local ⟨[(4, .p 1 0), (21, .v (.agg #[.int .i64 ((s.data.getD 0 0).toNat : Int), .int .i64 ((s.data.getD 1 0).toNat : Int), .int .i64 0, .int .i64 0, .int .i64 0, .int .i64 0, .string emp, .string emp, .int .i64 0])), (20, vI ((s.data.getD 1 0).toNat : Int)), (19, .v (.int .u8 ((s.data.getD 1 0).toNat : Int))), (18, vS s), (17, vI ((s.data.getD 0 0).toNat : Int)), (16, .v (.int .u8 ((s.data.getD 0 0).toNat : Int))), (15, vS s), (13, vB false), (2, .p 0 0), (0, vS s)], [⟨100, [vI 0, vI 0, vI 0, vI 0, vI 0, vI 0, vS emp, vS emp, vI 0]⟩, ⟨100, [vI 0, vI 0, vI 0, vI 0, vI 0, vI 0, vS emp, vS emp, vI 0]⟩]⟩ (by kernel_rfl) (fun bs0 bs w hp hl hS => hS.down hp hl rfl (le_same le_nil) .slnil) ?_
      refine h_nil ?_
      refine JL_run 1 [] [4, 2, 0] 2 ⟨[(4, .p 1 0), (2, .p 0 0), (0, vS s)], [⟨100, [vI 0, vI 0, vI 0, vI 0, vI 0, vI 0, vS emp, vS emp, vI 0]⟩, ⟨100, [vI ((s.data.getD 0 0).toNat : Int), vI ((s.data.getD 1 0).toNat : Int), vI 0, vI 0, vI 0, vI 0, vS emp, vS emp, vI 0]⟩]⟩ [] [] (by kernel_rfl) on wn ?_
      refine l_nil (q_then_normal ?_)
      refine c_seq ?_
      refine c_region ?_
      refine JL_run 3 [(1, .sl 2 s.size)] [0, 4, 2] 2 ⟨[(0, vS (s.extract 2 s.size)), (4, .p 1 0), (2, .p 0 0)], [⟨100, [vI 0, vI 0, vI 0, vI 0, vI 0, vI 0, vS emp, vS emp, vI 0]⟩, ⟨100, [vI ((s.data.getD 0 0).toNat : Int), vI ((s.data.getD 1 0).toNat : Int), vI 0, vI 0, vI 0, vI 0, vS emp, vS emp, vI 0]⟩]⟩ [(2 : Int) = ((2 : Nat) : Int), s.size = s.size, 2 ≤ s.size] [] (by kernel_rfl) (oc rfl (oc rfl (oc (by omega) on))) wn ?_
      refine l_nil (q_then_normal ?_)
      refine c_seq ?_
      refine c_seq ?_
      refine c_region ?_
      refine JL_run 3 [] [26, 0, 4, 2] 2 ⟨[(26, vB (decide (((s.data.getD 0 0).toNat : Int) = 2))), (0, vS (s.extract 2 s.size)), (4, .p 1 0), (2, .p 0 0)], [⟨100, [vI 0, vI 0, vI 0, vI 0, vI 0, vI 0, vS emp, vS emp, vI 0]⟩, ⟨100, [vI ((s.data.getD 0 0).toNat : Int), vI ((s.data.getD 1 0).toNat : Int), vI 0, vI 0, vI 0, vI 0, vS emp, vS emp, vI 0]⟩]⟩ [] [] (by kernel_rfl) on wn ?_
      refine l_nil (q_then_normal ?_)
      cases h3 : decide (((s.data.getD 0 0).toNat : Int) = 2) with
      | true =>
        have h3 := of_decide_eq_true h3
        refine c_if true rfl ?_
        refine c_seq ?_
        refine c_region ?_
        refine JL_run 1 [] [0, 4, 2] 2 ⟨[(0, vS (s.extract 2 s.size)), (4, .p 1 0), (2, .p 0 0)], [⟨100, [vI 0, vI 0, vI 0, vI 0, vI 0, vI 0, vS emp, vS emp, vI 0]⟩, ⟨100, [vI ((s.data.getD 0 0).toNat : Int), vI ((s.data.getD 1 0).toNat : Int), vI 0, vI 0, vI 0, vI 0, vS emp, vS emp, vI 0]⟩]⟩ [] [] (by kernel_rfl) on wn ?_
        refine l_nil (q_then_normal ?_)
        refine c_seq ?_
        refine c_region ?_
        refine JL_run 1 [] [28, 4, 2] 2 ⟨[(28, vS (s.extract 2 s.size)), (4, .p 1 0), (2, .p 0 0)], [⟨100, [vI 0, vI 0, vI 0, vI 0, vI 0, vI 0, vS emp, vS emp, vI 0]⟩, ⟨100, [vI ((s.data.getD 0 0).toNat : Int), vI ((s.data.getD 1 0).toNat : Int), vI 0, vI 0, vI 0, vI 0, vS emp, vS emp, vI 0]⟩]⟩ [] [] (by kernel_rfl) on wn ?_
        refine l_blkF (σ := DCommand) 114 [] [.p 1 0, vS (s.extract 2 s.size)] 1 ⟨100, [vI ((s.data.getD 0 0).toNat : Int), vI ((s.data.getD 1 0).toNat : Int), vI 0, vI 0, vI 0, vI 0, vS emp, vS emp, vI 0]⟩ (fun y1 => .tuple #[.string ((mBody (⟨((s.data.getD 0 0).toNat : Int), ((s.data.getD 1 0).toNat : Int), 0, 0, 0, ⟨0, emp, emp, 0⟩⟩ : DCommand) (s.extract 2 s.size)).2.1), .int .i64 ((mBody (⟨((s.data.getD 0 0).toNat : Int), ((s.data.getD 1 0).toNat : Int), 0, 0, 0, ⟨0, emp, emp, 0⟩⟩ : DCommand) (s.extract 2 s.size)).2.2)]) (fun y1 => [vI y1.kind, vI y1.client, vI y1.session, vI y1.seq, vI y1.acked, vI y1.op.kind, vS y1.op.a, vS y1.op.b, vI y1.op.n]) (fun y1 => ((mBody (⟨((s.data.getD 0 0).toNat : Int), ((s.data.getD 1 0).toNat : Int), 0, 0, 0, ⟨0, emp, emp, 0⟩⟩ : DCommand) (s.extract 2 s.size)).2.2 = 0 → y1 = (mBody (⟨((s.data.getD 0 0).toNat : Int), ((s.data.getD 1 0).toNat : Int), 0, 0, 0, ⟨0, emp, emp, 0⟩⟩ : DCommand) (s.extract 2 s.size)).1) ∧ Rds.ok y1) rfl (by simp) Try.call114 rfl rfl rfl rfl (fun bs w hS hb => (command_body (⟨((s.data.getD 0 0).toNat : Int), ((s.data.getD 1 0).toNat : Int), 0, 0, 0, ⟨0, emp, emp, 0⟩⟩ : DCommand) (bs.getD 1 0) (s.extract 2 s.size) w hb (by first | assumption | omega | (simp only [emp_size]; omega)) ⟨(by simp [emp_size]), (by simp [emp_size])⟩).mono (fun e w' ⟨y, h1, h2, h3, h4⟩ => ⟨y, h1, h2, h3, h4⟩)) ?_
        rintro y1 ⟨hF1, hG1⟩
        generalize hbd : mBody (⟨((s.data.getD 0 0).toNat : Int), ((s.data.getD 1 0).toNat : Int), 0, 0, 0, ⟨0, emp, emp, 0⟩⟩ : DCommand) (s.extract 2 s.size) = bd at hF1 ⊢
        refine JL_run 5 [] [5, 0, 4, 2] 2 ⟨[(5, vI bd.2.2), (0, vS bd.2.1), (4, .p 1 0), (2, .p 0 0)], [⟨100, [vI 0, vI 0, vI 0, vI 0, vI 0, vI 0, vS emp, vS emp, vI 0]⟩, ⟨100, [vI y1.kind, vI y1.client, vI y1.session, vI y1.seq, vI y1.acked, vI y1.op.kind, vS y1.op.a, vS y1.op.b, vI y1.op.n]⟩]⟩ [] [] (by kernel_rfl) on wn ?_
        refine l_nil (q_then_normal ?_)
        refine c_seq ?_
        refine c_region ?_
        refine JL_run 2 [] [33, 5, 0, 4, 2] 2 ⟨[(33, vB (!(decide (bd.2.2 = 0)))), (5, vI bd.2.2), (0, vS bd.2.1), (4, .p 1 0), (2, .p 0 0)], [⟨100, [vI 0, vI 0, vI 0, vI 0, vI 0, vI 0, vS emp, vS emp, vI 0]⟩, ⟨100, [vI y1.kind, vI y1.client, vI y1.session, vI y1.seq, vI y1.acked, vI y1.op.kind, vS y1.op.a, vS y1.op.b, vI y1.op.n]⟩]⟩ [] [] (by kernel_rfl) on wn ?_
        refine l_nil (q_then_normal ?_)
        cases h4 : decide (bd.2.2 = 0) with
        | true =>
          have h4 := of_decide_eq_true h4
          refine c_if false rfl ?_
          refine c_skip ?_
          refine q_then_normal ?_
          refine c_seq ?_
          refine c_seq ?_
          refine c_region ?_
          refine JL_run 2 [] [37, 4, 2] 2 ⟨[(37, vB (!(decide (bd.2.1 = emp)))), (4, .p 1 0), (2, .p 0 0)], [⟨100, [vI 0, vI 0, vI 0, vI 0, vI 0, vI 0, vS emp, vS emp, vI 0]⟩, ⟨100, [vI y1.kind, vI y1.client, vI y1.session, vI y1.seq, vI y1.acked, vI y1.op.kind, vS y1.op.a, vS y1.op.b, vI y1.op.n]⟩]⟩ [] [] (by kernel_rfl) on wn ?_
          refine l_nil (q_then_normal ?_)
          cases h5 : decide (bd.2.1 = emp) with
          | true =>
            have h5 := of_decide_eq_true h5
            have hzh5 : bd.2.1.size = 0 := by rw [h5]; rfl
            refine c_if false rfl ?_
            refine c_skip ?_
            refine q_then_normal ?_
            refine c_seq ?_
            refine c_seq ?_
            refine c_region ?_
            refine JL_run 1 [] [39, 4, 2] 2 ⟨[(39, .v (.agg #[.int .i64 y1.kind, .int .i64 y1.client, .int .i64 y1.session, .int .i64 y1.seq, .int .i64 y1.acked, .int .i64 y1.op.kind, .string y1.op.a, .string y1.op.b, .int .i64 y1.op.n])), (4, .p 1 0), (2, .p 0 0)], [⟨100, [vI 0, vI 0, vI 0, vI 0, vI 0, vI 0, vS emp, vS emp, vI 0]⟩, ⟨100, [vI y1.kind, vI y1.client, vI y1.session, vI y1.seq, vI y1.acked, vI y1.op.kind, vS y1.op.a, vS y1.op.b, vI y1.op.n]⟩]⟩ [] [] (by kernel_rfl) on wn ?_
            refine l_pure 115 [] [.v (.agg #[.int .i64 y1.kind, .int .i64 y1.client, .int .i64 y1.session, .int .i64 y1.seq, .int .i64 y1.acked, .int .i64 y1.op.kind, .string y1.op.a, .string y1.op.b, .int .i64 y1.op.n])] (.int .i64 (mCmd y1)) Try.call115 rfl rfl rfl rfl (fun bs w hS => command_Check (B := anyB) y1 w hG1) ?_
            refine JL_run 1 [] [6, 4, 2] 2 ⟨[(6, vI (mCmd y1)), (4, .p 1 0), (2, .p 0 0)], [⟨100, [vI 0, vI 0, vI 0, vI 0, vI 0, vI 0, vS emp, vS emp, vI 0]⟩, ⟨100, [vI y1.kind, vI y1.client, vI y1.session, vI y1.seq, vI y1.acked, vI y1.op.kind, vS y1.op.a, vS y1.op.b, vI y1.op.n]⟩]⟩ [] [] (by kernel_rfl) on wn ?_
            refine l_nil (q_then_normal ?_)
            refine c_seq ?_
            refine c_region ?_
            refine JL_run 2 [] [42, 6, 4, 2] 2 ⟨[(42, vB (!(decide (mCmd y1 = 0)))), (6, vI (mCmd y1)), (4, .p 1 0), (2, .p 0 0)], [⟨100, [vI 0, vI 0, vI 0, vI 0, vI 0, vI 0, vS emp, vS emp, vI 0]⟩, ⟨100, [vI y1.kind, vI y1.client, vI y1.session, vI y1.seq, vI y1.acked, vI y1.op.kind, vS y1.op.a, vS y1.op.b, vI y1.op.n]⟩]⟩ [] [] (by kernel_rfl) on wn ?_
            refine l_nil (q_then_normal ?_)
            cases h6 : decide (mCmd y1 = 0) with
            | true =>
              have h6 := of_decide_eq_true h6
              refine c_if false rfl ?_
              refine c_skip ?_
              refine q_then_normal ?_
              refine c_seq ?_
              refine c_region ?_
              refine JL_run 3 [] [3, 2] 1 ⟨[(3, vI 0), (2, .p 0 0)], [⟨100, [vI y1.kind, vI y1.client, vI y1.session, vI y1.seq, vI y1.acked, vI y1.op.kind, vS y1.op.a, vS y1.op.b, vI y1.op.n]⟩]⟩ [] [] (by kernel_rfl) on wn ?_
              refine l_nil (q_then_normal ?_)
              refine c_ret ?_
              refine q_ret (.inl rfl) [.v (.agg #[.int .i64 y1.kind, .int .i64 y1.client, .int .i64 y1.session, .int .i64 y1.seq, .int .i64 y1.acked, .int .i64 y1.op.kind, .string y1.op.a, .string y1.op.b, .int .i64 y1.op.n]), vI 0] rfl (fun bs w hS => ?_)
              refine ⟨?_, hS.kp⟩
              have hm : mDecode s = ((⟨y1.kind, y1.client, y1.session, y1.seq, y1.acked, ⟨y1.op.kind, y1.op.a, y1.op.b, y1.op.n⟩⟩ : DCommand), 0) := by
                have hk : (cmd0 s).kind = ((s.data.getD 0 0).toNat : Int) := rfl
                unfold mDecode
                repeat (first | rw [if_pos (by omega)] | rw [if_neg (by omega)])
                rw [show mBody (cmd0 s) (s.extract 2 s.size) = bd from hbd]
                have hbz : bd.2.2 = 0 := by assumption
                all_goals (simp only [mFin, cmd0, zOp, ← hF1 hbz, h4, h5, h6, ne_eq, not_true_eq_false, not_false_eq_true, if_true, if_false, reduceIte]; try rfl)
              rw [hm]
              rfl
            | false =>
              have h6 := of_decide_eq_false h6
              refine c_if true rfl ?_
              refine c_seq ?_
              refine c_region ?_
              refine JL_run 4 [] [3, 2] 1 ⟨[(3, vI (mCmd y1)), (2, .p 0 0)], [⟨100, [vI 0, vI 0, vI 0, vI 0, vI 0, vI 0, vS emp, vS emp, vI 0]⟩]⟩ [] [] (by kernel_rfl) on wn ?_
              refine l_nil (q_then_normal ?_)
              refine c_ret ?_
              refine q_then_ret (q_ret (.inl rfl) [.v (.agg #[.int .i64 0, .int .i64 0, .int .i64 0, .int .i64 0, .int .i64 0, .int .i64 0, .string emp, .string emp, .int .i64 0]), vI (mCmd y1)] rfl (fun bs w hS => ?_))
              refine ⟨?_, hS.kp⟩
              have hm : mDecode s = ((⟨0, 0, 0, 0, 0, ⟨0, emp, emp, 0⟩⟩ : DCommand), mCmd y1) := by
                have hk : (cmd0 s).kind = ((s.data.getD 0 0).toNat : Int) := rfl
                unfold mDecode
                repeat (first | rw [if_pos (by omega)] | rw [if_neg (by omega)])
                rw [show mBody (cmd0 s) (s.extract 2 s.size) = bd from hbd]
                have hbz : bd.2.2 = 0 := by assumption
                all_goals (simp only [mFin, cmd0, zOp, ← hF1 hbz, h4, h5, h6, ne_eq, not_true_eq_false, not_false_eq_true, if_true, if_false, reduceIte]; try rfl)
              rw [hm]
              rfl
          | false =>
            have h5 := of_decide_eq_false h5
            refine c_if true rfl ?_
            refine c_seq ?_
            refine c_region ?_
            refine JL_run 3 [] [3, 2] 1 ⟨[(3, vI 4), (2, .p 0 0)], [⟨100, [vI 0, vI 0, vI 0, vI 0, vI 0, vI 0, vS emp, vS emp, vI 0]⟩]⟩ [] [] (by kernel_rfl) on wn ?_
            refine l_nil (q_then_normal ?_)
            refine c_ret ?_
            refine q_then_ret (q_ret (.inl rfl) [.v (.agg #[.int .i64 0, .int .i64 0, .int .i64 0, .int .i64 0, .int .i64 0, .int .i64 0, .string emp, .string emp, .int .i64 0]), vI 4] rfl (fun bs w hS => ?_))
            refine ⟨?_, hS.kp⟩
            have hm : mDecode s = ((⟨0, 0, 0, 0, 0, ⟨0, emp, emp, 0⟩⟩ : DCommand), 4) := by
              have hk : (cmd0 s).kind = ((s.data.getD 0 0).toNat : Int) := rfl
              unfold mDecode
              repeat (first | rw [if_pos (by omega)] | rw [if_neg (by omega)])
              rw [show mBody (cmd0 s) (s.extract 2 s.size) = bd from hbd]
              have hbz : bd.2.2 = 0 := by assumption
              all_goals (simp only [mFin, cmd0, zOp, ← hF1 hbz, h4, h5, ne_eq, not_true_eq_false, not_false_eq_true, if_true, if_false, reduceIte]; try rfl)
            rw [hm]
            rfl
        | false =>
          have h4 := of_decide_eq_false h4
          refine c_if true rfl ?_
          refine c_seq ?_
          refine c_region ?_
          refine JL_run 4 [] [3, 2] 1 ⟨[(3, vI bd.2.2), (2, .p 0 0)], [⟨100, [vI 0, vI 0, vI 0, vI 0, vI 0, vI 0, vS emp, vS emp, vI 0]⟩]⟩ [] [] (by kernel_rfl) on wn ?_
          refine l_nil (q_then_normal ?_)
          refine c_ret ?_
          refine q_then_ret (q_ret (.inl rfl) [.v (.agg #[.int .i64 0, .int .i64 0, .int .i64 0, .int .i64 0, .int .i64 0, .int .i64 0, .string emp, .string emp, .int .i64 0]), vI bd.2.2] rfl (fun bs w hS => ?_))
          refine ⟨?_, hS.kp⟩
          have hm : mDecode s = ((⟨0, 0, 0, 0, 0, ⟨0, emp, emp, 0⟩⟩ : DCommand), bd.2.2) := by
            have hk : (cmd0 s).kind = ((s.data.getD 0 0).toNat : Int) := rfl
            unfold mDecode
            repeat (first | rw [if_pos (by omega)] | rw [if_neg (by omega)])
            rw [show mBody (cmd0 s) (s.extract 2 s.size) = bd from hbd]
            all_goals (simp only [mFin, cmd0, zOp, h4, ne_eq, not_true_eq_false, not_false_eq_true, if_true, if_false, reduceIte]; try rfl)
          rw [hm]
          rfl
      | false =>
        have h3 := of_decide_eq_false h3
        refine c_if false rfl ?_
        refine c_skip ?_
        refine q_then_normal ?_
        refine c_seq ?_
        refine c_seq ?_
        refine c_region ?_
        refine JL_run 2 [] [37, 4, 2] 2 ⟨[(37, vB (!(decide ((s.extract 2 s.size) = emp)))), (4, .p 1 0), (2, .p 0 0)], [⟨100, [vI 0, vI 0, vI 0, vI 0, vI 0, vI 0, vS emp, vS emp, vI 0]⟩, ⟨100, [vI ((s.data.getD 0 0).toNat : Int), vI ((s.data.getD 1 0).toNat : Int), vI 0, vI 0, vI 0, vI 0, vS emp, vS emp, vI 0]⟩]⟩ [] [] (by kernel_rfl) on wn ?_
        refine l_nil (q_then_normal ?_)
        cases h7 : decide ((s.extract 2 s.size) = emp) with
        | true =>
          have h7 := of_decide_eq_true h7
          have hzh7 : (s.extract 2 s.size).size = 0 := by rw [h7]; rfl
          refine c_if false rfl ?_
          refine c_skip ?_
          refine q_then_normal ?_
          refine c_seq ?_
          refine c_seq ?_
          refine c_region ?_
          refine JL_run 1 [] [39, 4, 2] 2 ⟨[(39, .v (.agg #[.int .i64 ((s.data.getD 0 0).toNat : Int), .int .i64 ((s.data.getD 1 0).toNat : Int), .int .i64 0, .int .i64 0, .int .i64 0, .int .i64 0, .string emp, .string emp, .int .i64 0])), (4, .p 1 0), (2, .p 0 0)], [⟨100, [vI 0, vI 0, vI 0, vI 0, vI 0, vI 0, vS emp, vS emp, vI 0]⟩, ⟨100, [vI ((s.data.getD 0 0).toNat : Int), vI ((s.data.getD 1 0).toNat : Int), vI 0, vI 0, vI 0, vI 0, vS emp, vS emp, vI 0]⟩]⟩ [] [] (by kernel_rfl) on wn ?_
          refine l_pure 115 [] [.v (.agg #[.int .i64 ((s.data.getD 0 0).toNat : Int), .int .i64 ((s.data.getD 1 0).toNat : Int), .int .i64 0, .int .i64 0, .int .i64 0, .int .i64 0, .string emp, .string emp, .int .i64 0])] (.int .i64 (mCmd (⟨((s.data.getD 0 0).toNat : Int), ((s.data.getD 1 0).toNat : Int), 0, 0, 0, ⟨0, emp, emp, 0⟩⟩ : DCommand))) Try.call115 rfl rfl rfl rfl (fun bs w hS => command_Check (B := anyB) (⟨((s.data.getD 0 0).toNat : Int), ((s.data.getD 1 0).toNat : Int), 0, 0, 0, ⟨0, emp, emp, 0⟩⟩ : DCommand) w ⟨(show emp.size ≤ 9223372036854775807 from (by first | assumption | omega | (simp only [emp_size]; omega))), (show emp.size ≤ 9223372036854775807 from (by first | assumption | omega | (simp only [emp_size]; omega)))⟩) ?_
          refine JL_run 1 [] [6, 4, 2] 2 ⟨[(6, vI (mCmd (⟨((s.data.getD 0 0).toNat : Int), ((s.data.getD 1 0).toNat : Int), 0, 0, 0, ⟨0, emp, emp, 0⟩⟩ : DCommand))), (4, .p 1 0), (2, .p 0 0)], [⟨100, [vI 0, vI 0, vI 0, vI 0, vI 0, vI 0, vS emp, vS emp, vI 0]⟩, ⟨100, [vI ((s.data.getD 0 0).toNat : Int), vI ((s.data.getD 1 0).toNat : Int), vI 0, vI 0, vI 0, vI 0, vS emp, vS emp, vI 0]⟩]⟩ [] [] (by kernel_rfl) on wn ?_
          refine l_nil (q_then_normal ?_)
          refine c_seq ?_
          refine c_region ?_
          refine JL_run 2 [] [42, 6, 4, 2] 2 ⟨[(42, vB (!(decide (mCmd (⟨((s.data.getD 0 0).toNat : Int), ((s.data.getD 1 0).toNat : Int), 0, 0, 0, ⟨0, emp, emp, 0⟩⟩ : DCommand) = 0)))), (6, vI (mCmd (⟨((s.data.getD 0 0).toNat : Int), ((s.data.getD 1 0).toNat : Int), 0, 0, 0, ⟨0, emp, emp, 0⟩⟩ : DCommand))), (4, .p 1 0), (2, .p 0 0)], [⟨100, [vI 0, vI 0, vI 0, vI 0, vI 0, vI 0, vS emp, vS emp, vI 0]⟩, ⟨100, [vI ((s.data.getD 0 0).toNat : Int), vI ((s.data.getD 1 0).toNat : Int), vI 0, vI 0, vI 0, vI 0, vS emp, vS emp, vI 0]⟩]⟩ [] [] (by kernel_rfl) on wn ?_
          refine l_nil (q_then_normal ?_)
          cases h8 : decide (mCmd (⟨((s.data.getD 0 0).toNat : Int), ((s.data.getD 1 0).toNat : Int), 0, 0, 0, ⟨0, emp, emp, 0⟩⟩ : DCommand) = 0) with
          | true =>
            have h8 := of_decide_eq_true h8
            refine c_if false rfl ?_
            refine c_skip ?_
            refine q_then_normal ?_
            refine c_seq ?_
            refine c_region ?_
            refine JL_run 3 [] [3, 2] 1 ⟨[(3, vI 0), (2, .p 0 0)], [⟨100, [vI ((s.data.getD 0 0).toNat : Int), vI ((s.data.getD 1 0).toNat : Int), vI 0, vI 0, vI 0, vI 0, vS emp, vS emp, vI 0]⟩]⟩ [] [] (by kernel_rfl) on wn ?_
            refine l_nil (q_then_normal ?_)
            refine c_ret ?_
            refine q_ret (.inl rfl) [.v (.agg #[.int .i64 ((s.data.getD 0 0).toNat : Int), .int .i64 ((s.data.getD 1 0).toNat : Int), .int .i64 0, .int .i64 0, .int .i64 0, .int .i64 0, .string emp, .string emp, .int .i64 0]), vI 0] rfl (fun bs w hS => ?_)
            refine ⟨?_, hS.kp⟩
            have hm : mDecode s = ((⟨((s.data.getD 0 0).toNat : Int), ((s.data.getD 1 0).toNat : Int), 0, 0, 0, ⟨0, emp, emp, 0⟩⟩ : DCommand), 0) := by
              have hk : (cmd0 s).kind = ((s.data.getD 0 0).toNat : Int) := rfl
              unfold mDecode
              repeat (first | rw [if_pos (by omega)] | rw [if_neg (by omega)])
              all_goals (simp only [mFin, cmd0, zOp, h7, h8, ne_eq, not_true_eq_false, not_false_eq_true, if_true, if_false, reduceIte]; try rfl)
            rw [hm]
            rfl
          | false =>
            have h8 := of_decide_eq_false h8
            refine c_if true rfl ?_
            refine c_seq ?_
            refine c_region ?_
            refine JL_run 4 [] [3, 2] 1 ⟨[(3, vI (mCmd (⟨((s.data.getD 0 0).toNat : Int), ((s.data.getD 1 0).toNat : Int), 0, 0, 0, ⟨0, emp, emp, 0⟩⟩ : DCommand))), (2, .p 0 0)], [⟨100, [vI 0, vI 0, vI 0, vI 0, vI 0, vI 0, vS emp, vS emp, vI 0]⟩]⟩ [] [] (by kernel_rfl) on wn ?_
            refine l_nil (q_then_normal ?_)
            refine c_ret ?_
            refine q_then_ret (q_ret (.inl rfl) [.v (.agg #[.int .i64 0, .int .i64 0, .int .i64 0, .int .i64 0, .int .i64 0, .int .i64 0, .string emp, .string emp, .int .i64 0]), vI (mCmd (⟨((s.data.getD 0 0).toNat : Int), ((s.data.getD 1 0).toNat : Int), 0, 0, 0, ⟨0, emp, emp, 0⟩⟩ : DCommand))] rfl (fun bs w hS => ?_))
            refine ⟨?_, hS.kp⟩
            have hm : mDecode s = ((⟨0, 0, 0, 0, 0, ⟨0, emp, emp, 0⟩⟩ : DCommand), mCmd (⟨((s.data.getD 0 0).toNat : Int), ((s.data.getD 1 0).toNat : Int), 0, 0, 0, ⟨0, emp, emp, 0⟩⟩ : DCommand)) := by
              have hk : (cmd0 s).kind = ((s.data.getD 0 0).toNat : Int) := rfl
              unfold mDecode
              repeat (first | rw [if_pos (by omega)] | rw [if_neg (by omega)])
              all_goals (simp only [mFin, cmd0, zOp, h7, h8, ne_eq, not_true_eq_false, not_false_eq_true, if_true, if_false, reduceIte]; try rfl)
            rw [hm]
            rfl
        | false =>
          have h7 := of_decide_eq_false h7
          refine c_if true rfl ?_
          refine c_seq ?_
          refine c_region ?_
          refine JL_run 3 [] [3, 2] 1 ⟨[(3, vI 4), (2, .p 0 0)], [⟨100, [vI 0, vI 0, vI 0, vI 0, vI 0, vI 0, vS emp, vS emp, vI 0]⟩]⟩ [] [] (by kernel_rfl) on wn ?_
          refine l_nil (q_then_normal ?_)
          refine c_ret ?_
          refine q_then_ret (q_ret (.inl rfl) [.v (.agg #[.int .i64 0, .int .i64 0, .int .i64 0, .int .i64 0, .int .i64 0, .int .i64 0, .string emp, .string emp, .int .i64 0]), vI 4] rfl (fun bs w hS => ?_))
          refine ⟨?_, hS.kp⟩
          have hm : mDecode s = ((⟨0, 0, 0, 0, 0, ⟨0, emp, emp, 0⟩⟩ : DCommand), 4) := by
            have hk : (cmd0 s).kind = ((s.data.getD 0 0).toNat : Int) := rfl
            unfold mDecode
            repeat (first | rw [if_pos (by omega)] | rw [if_neg (by omega)])
            all_goals (simp only [mFin, cmd0, zOp, h7, ne_eq, not_true_eq_false, not_false_eq_true, if_true, if_false, reduceIte]; try rfl)
          rw [hm]
          rfl

end Go.Proofs.Ytececkgjacccmad.W
