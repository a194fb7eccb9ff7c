/-
  The functions that the law CustomerRequests reaches, walked: each returns what its model says.
  Conditions: those that each theorem states.
-/
import Derived.Test.YtececkgjacccmacMc
import Derived.Test.YtececkgjacccmacChecked
set_option linter.unusedVariables false
set_option linter.unusedSimpArgs false
set_option maxRecDepth 100000
namespace Go.Proofs.Ytececkgjacccmac.W
open Go.Proofs.Ytececkgjacccmac.Fw Go.RowKit

theorem Try_mixed : Try.prog.follows .mixedOrders = true := by kernel_rfl
theorem laid : laidOutB Try.prog = true := by kernel_rfl

theorem ref_In (n lo hi : Int) (w : World) : Calls Try.prog 68 #[.int .i64 n, .int .i64 lo, .int .i64 hi] w fun e w' => e = .returned (.bool (inB n lo hi)) ∧ Kp [] w w' := by
  refine calls_J0 15 Try.func68 rfl rfl [.int .i64 n, .int .i64 lo, .int .i64 hi] rfl ?_
  refine c_seq ?_
  refine c_region ?_
  refine JL_run 1 [] [0, 1, 2] 0 ⟨[(0, vI n), (1, vI lo), (2, vI hi)], []⟩ [] [] (by kernel_rfl) on wn ?_
  refine l_nil (q_then_normal ?_)
  refine c_seq ?_
  refine c_region ?_
  refine JL_run 4 [] [10, 0, 2] 0 ⟨[(10, vB (decide (lo ≤ n))), (0, vI n), (2, vI hi)], []⟩ [] [] (by kernel_rfl) on wn ?_
  cases h1 : decide (lo ≤ n) with
  | true =>
    have h1 := of_decide_eq_true h1
    refine JL_run 5 [] [6] 0 ⟨[(6, vB (decide (n ≤ hi)))], []⟩ [] [] (by kernel_rfl) on wn ?_
    refine l_nil (q_then_normal ?_)
    refine c_ret ?_
    refine q_ret (.inl rfl) [vB (decide (n ≤ hi))] rfl (fun bs w hS => ?_)
    exact ⟨by simp [retOf, den, inB, h1], hS.kp⟩
  | false =>
    have h1 := of_decide_eq_false h1
    refine JL_run 5 [] [6] 0 ⟨[(6, vB false)], []⟩ [] [] (by kernel_rfl) on wn ?_
    refine l_nil (q_then_normal ?_)
    refine c_ret ?_
    refine q_ret (.inl rfl) [vB false] rfl (fun bs w hS => ?_)
    exact ⟨by simp [retOf, den, inB, h1], hS.kp⟩

theorem lock_Name1 (c : UInt8) (w : World) : Calls Try.prog 111 #[.int .u8 (c.toNat : Int)] w fun e w' => e = .returned (.bool (nameBad c)) ∧ Kp [] w w' := by
  refine calls_J0 9 Try.func111 rfl rfl [.int .u8 (c.toNat : Int)] rfl ?_
  refine c_seq ?_
  refine c_region ?_
  refine JL_run 1 [] [0] 0 ⟨[(0, .v (.int .u8 (c.toNat : Int)))], []⟩ [] [] (by kernel_rfl) on wn ?_
  refine l_nil (q_then_normal ?_)
  refine c_seq ?_
  refine c_region ?_
  refine JL_run 3 [] [5, 0] 0 ⟨[(5, vB (decide ((c.toNat : Int) < 97))), (0, .v (.int .u8 (c.toNat : Int)))], []⟩ [] [] (by kernel_rfl) on wn ?_
  cases h1 : decide ((c.toNat : Int) < 97) with
  | true =>
    have h1 := of_decide_eq_true h1
    refine JL_run 4 [] [2] 0 ⟨[(2, vB true)], []⟩ [] [] (by kernel_rfl) on wn ?_
    refine l_nil (q_then_normal ?_)
    refine c_ret ?_
    refine q_ret (.inl rfl) [vB true] rfl (fun bs w hS => ?_)
    exact ⟨by simp [retOf, den, nameBad, h1], hS.kp⟩
  | false =>
    have h1 := of_decide_eq_false h1
    refine JL_run 4 [] [2] 0 ⟨[(2, vB (decide ((122 : Int) < (c.toNat : Int))))], []⟩ [] [] (by kernel_rfl) on wn ?_
    refine l_nil (q_then_normal ?_)
    refine c_ret ?_
    refine q_ret (.inl rfl) [vB (decide ((122 : Int) < (c.toNat : Int)))] rfl (fun bs w hS => ?_)
    exact ⟨by simp [retOf, den, nameBad, h1], hS.kp⟩

theorem idx_bytes {B : Nat → Prop} (s : Sl UInt8) (w : World) (hs : s.rd B w) : Calls Try.prog 114 #[.slice s.A s.n s.c, .func (.func 111) #[] #[]] w fun e w' => e = .returned (.int .i64 (mIdx nameBad s.xs)) ∧ Kp [] w w' := by
  have oks := Sl.rd.ok hs
  have ncs := Sl.ok.nc oks
  have hns : s.n = s.xs.length := rfl
  refine calls_J 19 [] Try.func114 rfl rfl [] [] [] [.v (.slice s.A s.n s.c), .fn 111 []] [.slice s.A s.n s.c, .func (.func 111) #[] #[]] rfl rfl (WS.start w) ?_
  refine c_seq ?_
  refine c_region ?_
  refine JL_run 1 [] [0, 1] 0 ⟨[(0, .v (.slice s.A s.n s.c)), (1, .fn 111 [])], []⟩ [] [] (by kernel_rfl) on wn ?_
  refine l_nil (q_then_normal ?_)
  refine c_seq ?_
  refine c_seq ?_
  refine c_region ?_
  refine JL_run 3 [] [8, 7, 0, 1] 0 ⟨[(8, vI 0), (7, vI ((s.n : Nat) : Int)), (0, .v (.slice s.A s.n s.c)), (1, .fn 111 [])], []⟩ [] [] (by kernel_rfl) on wn ?_
  refine l_nil (q_then_normal ?_)
  refine c_block ?_
  refine c_loop (σ := Nat) (fun i => i ≤ s.n ∧ ∀ j, j < i → nameBad (s.at j) = false) (fun i => s.n - i) (fun i => []) (fun i => ⟨[(8, vI ((i : Nat) : Int)), (7, vI ((s.n : Nat) : Int)), (0, .v (.slice s.A s.n s.c)), (1, .fn 111 [])], []⟩) 0 ⟨Nat.zero_le _, fun j hj => absurd hj (Nat.not_lt_zero _)⟩ (s_start [8, 7, 0, 1] 0 (by kernel_rfl) rfl) ?_
  rintro i ⟨hi, hI⟩
  refine c_seq ?_
  refine c_region ?_
  refine JL_run 1 [] [9, 8, 7, 0, 1] 0 ⟨[(9, vB (decide (((i : Nat) : Int) < ((s.n : Nat) : Int)))), (8, vI ((i : Nat) : Int)), (7, vI ((s.n : Nat) : Int)), (0, .v (.slice s.A s.n s.c)), (1, .fn 111 [])], []⟩ [] [] (by kernel_rfl) on wn ?_
  refine l_nil (q_then_normal ?_)
  refine c_seq ?_
  cases h1 : decide (((i : Nat) : Int) < ((s.n : Nat) : Int)) with
  | true =>
    have h1 := of_decide_eq_true h1
    refine c_if true rfl ?_
    refine c_skip ?_
    refine q_then_normal ?_
    refine c_seq ?_
    refine c_block ?_
    refine c_seq ?_
    refine c_region ?_
    refine JL_run 2 [] [5, 8, 7, 0, 1] 0 ⟨[(5, vI ((i : Nat) : Int)), (8, vI ((i : Nat) : Int)), (7, vI ((s.n : Nat) : Int)), (0, .v (.slice s.A s.n s.c)), (1, .fn 111 [])], []⟩ [] [] (by kernel_rfl) on wn ?_
    refine l_nil (q_then_normal ?_)
    refine c_seq ?_
    refine c_region ?_
    refine JL_run 5 [(3, .idx s.ad i), (4, .ext [.int .u8 ((s.at i).toNat : Int)])] [15, 11, 5, 8, 7, 0, 1] 0 ⟨[(15, .v (.int .u8 ((s.at i).toNat : Int))), (11, .fn 111 []), (5, vI ((i : Nat) : Int)), (8, vI ((i : Nat) : Int)), (7, vI ((s.n : Nat) : Int)), (0, .v (.slice s.A s.n s.c)), (1, .fn 111 [])], []⟩ [s.A = some s.ad, ((i : Nat) : Int) = ((i : Nat) : Int), i < s.n] [(s.ad.add (i * 1), [.int .u8 ((s.at i).toNat : Int)])] (by kernel_rfl) (oc (Sl.ok.own (s := s) (i := i) oks (by omega)) (oc rfl (oc (by omega) on))) (fun w hk hr => ⟨(Sl.rd.all (s := s) (i := i) (Sl.rd.kp hs hk) (by omega) rfl), trivial⟩) ?_
    refine l_pure 111 [] [.v (.int .u8 ((s.at i).toNat : Int))] (.bool (nameBad (s.at i))) Try.call111 rfl rfl rfl rfl (fun bs w hS => lock_Name1 _ w) ?_
    refine l_nil (q_then_normal ?_)
    cases h2 : nameBad (s.at i) with
    | true =>
      refine c_if true rfl ?_
      refine c_seq ?_
      refine c_region ?_
      refine JL_run 2 [] [4] 0 ⟨[(4, vI ((i : Nat) : Int))], []⟩ [] [] (by kernel_rfl) on wn ?_
      refine l_nil (q_then_normal ?_)
      refine c_ret ?_
      refine q_block_ret (q_then_ret (q_then_ret (q_block_ret (q_then_ret (q_ret (.inl rfl) [vI ((i : Nat) : Int)] rfl (fun bs w hS => ?_))))))
      refine ⟨?_, hS.kp⟩
      rw [mIdx_here (by omega) (by assumption) hI]
      rfl
    | false =>
      refine c_if false rfl ?_
      refine c_skip ?_
      refine q_block_normal (q_then_normal ?_)
      refine c_region ?_
      refine JL_run 2 [] [8, 7, 0, 1] 0 ⟨[(8, vI (((i : Nat) : Int) + 1)), (7, vI ((s.n : Nat) : Int)), (0, .v (.slice s.A s.n s.c)), (1, .fn 111 [])], []⟩ [inR (((i : Nat) : Int) + 1)] [] (by kernel_rfl) (oc (by unfold inR; omega) on) wn ?_
      refine l_nil (q_loop (x := (i : Nat)) ((i + 1) : Nat) ⟨by omega, fun j hj => by rcases Nat.lt_succ_iff_lt_or_eq.1 hj with h | h; exact hI j h; subst h; assumption⟩ (by omega) (s_start [8, 7, 0, 1] 0 (by kernel_rfl) rfl))
  | false =>
    have h1 := of_decide_eq_false h1
    refine c_if false rfl ?_
    refine c_exit ?_
    refine q_then_exit (q_then_exit (q_block_hit (q_then_normal ?_)))
    refine c_seq ?_
    refine c_region ?_
    refine JL_run 1 [] [4] 0 ⟨[(4, vI (-1))], []⟩ [] [] (by kernel_rfl) on wn ?_
    refine l_nil (q_then_normal ?_)
    refine c_ret ?_
    refine q_ret (.inl rfl) [vI (-1)] rfl (fun bs w hS => ?_)
    refine ⟨?_, hS.kp⟩
    rw [mIdx_none fun j hj => hI j (by omega)]
    rfl

theorem has_bytes {B : Nat → Prop} (s : Sl UInt8) (w : World) (hs : s.rd B w) : Calls Try.prog 110 #[.slice s.A s.n s.c, .func (.func 111) #[] #[]] w fun e w' => e = .returned (.bool (s.xs.any nameBad)) ∧ Kp [] w w' := by
  have oks := Sl.rd.ok hs
  have ncs := Sl.ok.nc oks
  have hns : s.n = s.xs.length := rfl
  refine calls_J 9 [] Try.func110 rfl rfl [] [] [] [.v (.slice s.A s.n s.c), .fn 111 []] [.slice s.A s.n s.c, .func (.func 111) #[] #[]] rfl rfl (WS.start w) ?_
  refine c_seq ?_
  refine c_region ?_
  refine JL_run 1 [] [0, 1] 0 ⟨[(0, .v (.slice s.A s.n s.c)), (1, .fn 111 [])], []⟩ [] [] (by kernel_rfl) on wn ?_
  refine l_nil (q_then_normal ?_)
  refine c_seq ?_
  refine c_region ?_
  refine JL_run 2 [] [6, 5] 0 ⟨[(6, .fn 111 []), (5, .v (.slice s.A s.n s.c))], []⟩ [] [] (by kernel_rfl) on wn ?_
  refine l_pure 114 [] [.v (.slice s.A s.n s.c), .fn 111 []] (.int .i64 (mIdx nameBad s.xs)) Try.call114 rfl rfl rfl rfl (fun bs w hS => idx_bytes _ w (Sl.rd.kp hs hS.kp)) ?_
  refine JL_run 2 [] [4] 0 ⟨[(4, vB (decide ((0 : Int) ≤ mIdx nameBad s.xs)))], []⟩ [] [] (by kernel_rfl) on wn ?_
  refine l_nil (q_then_normal ?_)
  refine c_ret ?_
  refine q_ret (.inl rfl) [vB (decide ((0 : Int) ≤ mIdx nameBad s.xs))] rfl (fun bs w hS => ?_)
  refine ⟨?_, hS.kp⟩
  simp only [retOf, den, List.map_cons, List.map_nil, mIdx_nonneg]

theorem lock_Name (s : ByteArray) (w : World) (hs : s.size ≤ 9223372036854775807) : Calls Try.prog 92 #[.string s] w fun e w' => e = .returned (.bool (mName s)) ∧ Kp [] w w' := by
  refine calls_J0 16 Try.func92 rfl rfl [.string s] rfl ?_
  refine c_seq ?_
  refine c_region ?_
  refine JL_run 1 [] [0] 0 ⟨[(0, vS s)], []⟩ [] [] (by kernel_rfl) on wn ?_
  refine l_nil (q_then_normal ?_)
  refine c_seq ?_
  refine c_region ?_
  refine JL_run 3 [] [5, 0] 0 ⟨[(5, vB (!(decide (s = emp)))), (0, vS s)], []⟩ [] [] (by kernel_rfl) on wn ?_
  cases h1 : decide (s = emp) with
  | true =>
    have h1 := of_decide_eq_true h1
    refine JL_run 11 [] [2] 0 ⟨[(2, vB false)], []⟩ [] [] (by kernel_rfl) on wn ?_
    refine l_nil (q_then_normal ?_)
    refine c_ret ?_
    refine q_ret (.inl rfl) [vB false] rfl (fun bs w hS => ?_)
    refine ⟨?_, hS.kp⟩
    simp [retOf, den, mName, *]
  | false =>
    have h1 := of_decide_eq_false h1
    refine JL_run 5 [] [10, 0] 0 ⟨[(10, vB (decide ((s.size : Int) ≤ 6))), (0, vS s)], []⟩ [] [] (by kernel_rfl) on wn ?_
    cases h2 : decide ((s.size : Int) ≤ 6) with
    | true =>
      have h2 := of_decide_eq_true h2
      refine JL_run 1 [] [11, 10] 0 ⟨[(11, vS s), (10, vB true)], []⟩ [] [] (by kernel_rfl) on wn ?_
      refine l_strbytes 5 s Try.underlying9 Try.underlying137 Try.underlying5 (by unfold maxLen; omega) rfl rfl rfl ?_
      rintro fp1 y1 hF1 hok1
      refine l_pure 110 [] [.v (.slice y1.A y1.n y1.c), .fn 111 []] (.bool (y1.xs.any nameBad)) Try.call110 rfl rfl rfl rfl (fun bs w hS => has_bytes _ w (hS.res _ (.head _))) ?_
      refine JL_run 3 [] [2] 0 ⟨[(2, vB (!(y1.xs.any nameBad)))], []⟩ [] [] (by kernel_rfl) on wn ?_
      refine l_nil (q_then_normal ?_)
      refine c_ret ?_
      refine q_ret (.inl rfl) [vB (!(y1.xs.any nameBad))] rfl (fun bs w hS => ?_)
      refine ⟨?_, hS.kp⟩
      simp [retOf, den, mName, *]
    | false =>
      have h2 := of_decide_eq_false h2
      refine JL_run 6 [] [2] 0 ⟨[(2, vB false)], []⟩ [] [] (by kernel_rfl) on wn ?_
      refine l_nil (q_then_normal ?_)
      refine c_ret ?_
      refine q_ret (.inl rfl) [vB false] rfl (fun bs w hS => ?_)
      refine ⟨?_, hS.kp⟩
      simp [retOf, den, mName, *]

theorem ref_NameMay (s : ByteArray) (w : World) (hs : s.size ≤ 9223372036854775807) : Calls Try.prog 94 #[.string s] w fun e w' => e = .returned (.bool (mName s)) ∧ Kp [] w w' := by
  refine calls_J0 19 Try.func94 rfl rfl [.string s] rfl ?_
  refine c_seq ?_
  refine c_region ?_
  refine JL_run 1 [] [0] 0 ⟨[(0, vS s)], []⟩ [] [] (by kernel_rfl) on wn ?_
  refine l_nil (q_then_normal ?_)
  refine c_seq ?_
  refine c_seq ?_
  refine c_region ?_
  refine JL_run 1 [] [3, 0] 0 ⟨[(3, vI 0), (0, vS s)], []⟩ [] [] (by kernel_rfl) on wn ?_
  refine l_nil (q_then_normal ?_)
  refine c_block ?_
  refine c_loop (σ := Nat) (fun i => i ≤ s.size ∧ ∀ j, j < i → nameBad (s.data.getD j 0) = false) (fun i => s.size - i) (fun i => []) (fun i => ⟨[(3, vI ((i : Nat) : Int)), (0, vS s)], []⟩) 0 ⟨Nat.zero_le _, fun j hj => absurd hj (Nat.not_lt_zero _)⟩ (s_start [3, 0] 0 (by kernel_rfl) rfl) ?_
  rintro i ⟨hi, hI⟩
  have hu := (s.data.getD i 0).toNat_lt
  refine c_seq ?_
  refine c_seq ?_
  refine c_region ?_
  refine JL_run 4 [] [7, 3, 0] 0 ⟨[(7, vB (decide (((i : Nat) : Int) < (s.size : Int)))), (3, vI ((i : Nat) : Int)), (0, vS s)], []⟩ [] [] (by kernel_rfl) on wn ?_
  refine l_nil (q_then_normal ?_)
  cases h1 : decide (((i : Nat) : Int) < (s.size : Int)) with
  | true =>
    have h1 := of_decide_eq_true h1
    refine c_if true rfl ?_
    refine c_skip ?_
    refine q_then_normal ?_
    refine c_seq ?_
    refine c_block ?_
    refine c_seq ?_
    refine c_region ?_
    refine JL_run 4 [(2, .sidx i)] [13, 3, 0] 0 ⟨[(13, vI ((s.data.getD i 0).toNat : Int)), (3, vI ((i : Nat) : Int)), (0, vS s)], []⟩ [((i : Nat) : Int) = ((i : Nat) : Int), i < s.size, 0 ≤ ((s.data.getD i 0).toNat : Int), ((s.data.getD i 0).toNat : Int) ≤ 255] [] (by kernel_rfl) (oc rfl (oc (by omega) (oc (by omega) (oc (by omega) on)))) wn ?_
    refine l_pure 68 [] [vI ((s.data.getD i 0).toNat : Int), vI 97, vI 122] (.bool (inB ((s.data.getD i 0).toNat : Int) 97 122)) Try.call68 rfl rfl rfl rfl (fun bs w hS => ref_In _ _ _ w) ?_
    refine JL_run 1 [] [15, 3, 0] 0 ⟨[(15, vB (!(inB ((s.data.getD i 0).toNat : Int) 97 122))), (3, vI ((i : Nat) : Int)), (0, vS s)], []⟩ [] [] (by kernel_rfl) on wn ?_
    refine l_nil (q_then_normal ?_)
    cases h2 : inB ((s.data.getD i 0).toNat : Int) 97 122 with
    | true =>
      refine c_if false rfl ?_
      refine c_skip ?_
      refine q_block_normal (q_then_normal ?_)
      refine c_region ?_
      refine JL_run 3 [] [3, 0] 0 ⟨[(3, vI (((i : Nat) : Int) + 1)), (0, vS s)], []⟩ [inR (((i : Nat) : Int) + 1)] [] (by kernel_rfl) (oc (by unfold inR; omega) on) wn ?_
      refine l_nil (q_loop (x := (i : Nat)) ((i + 1) : Nat) ⟨by omega, fun j hj => by rcases Nat.lt_succ_iff_lt_or_eq.1 hj with h | h; exact hI j h; subst h; simp only [inB, nameBad, Bool.and_eq_true, Bool.or_eq_false_iff, decide_eq_true_eq, decide_eq_false_iff_not] at *; omega⟩ (by omega) (s_start [3, 0] 0 (by kernel_rfl) rfl))
    | false =>
      refine c_if true rfl ?_
      refine c_seq ?_
      refine c_region ?_
      refine JL_run 1 [] [2] 0 ⟨[(2, vB false)], []⟩ [] [] (by kernel_rfl) on wn ?_
      refine l_nil (q_then_normal ?_)
      refine c_ret ?_
      refine q_block_ret (q_then_ret (q_then_ret (q_block_ret (q_then_ret (q_ret (.inl rfl) [vB false] rfl (fun bs w hS => ?_))))))
      refine ⟨?_, hS.kp⟩
      rw [mName_bad (i := i) (by omega) (by simp only [inB, nameBad, Bool.and_eq_false_iff, Bool.or_eq_true, decide_eq_true_eq, decide_eq_false_iff_not] at *; omega)]
      rfl
  | false =>
    have h1 := of_decide_eq_false h1
    refine c_if false rfl ?_
    refine c_exit ?_
    refine q_then_exit (q_then_exit (q_block_hit (q_then_normal ?_)))
    refine c_seq ?_
    refine c_region ?_
    refine JL_run 2 [] [17] 0 ⟨[(17, vI (s.size : Int))], []⟩ [] [] (by kernel_rfl) on wn ?_
    refine l_pure 68 [] [vI (s.size : Int), vI 1, vI 6] (.bool (inB (s.size : Int) 1 6)) Try.call68 rfl rfl rfl rfl (fun bs w hS => ref_In _ _ _ w) ?_
    refine JL_run 1 [] [2] 0 ⟨[(2, vB (inB (s.size : Int) 1 6))], []⟩ [] [] (by kernel_rfl) on wn ?_
    refine l_nil (q_then_normal ?_)
    refine c_ret ?_
    refine q_ret (.inl rfl) [vB (inB (s.size : Int) 1 6)] rfl (fun bs w hS => ?_)
    refine ⟨?_, hS.kp⟩
    simp only [retOf, den, List.map_cons, List.map_nil, mName_good fun j hj => hI j (by omega)]

theorem codec_Number (n : Int) (w : World) : Calls Try.prog 103 #[.int .i64 n] w fun e w' => e = .returned (.tuple #[.string (mNumber n).1, .int .i64 (mNumber n).2]) ∧ Kp [] w w' := by
  refine calls_J0 28 Try.func103 rfl rfl [.int .i64 n] rfl ?_
  refine c_seq ?_
  refine c_region ?_
  refine JL_run 2 [] [0] 0 ⟨[(0, vI n)], []⟩ [] [] (by kernel_rfl) on wn ?_
  refine l_nil (q_then_normal ?_)
  refine c_seq ?_
  refine c_seq ?_
  refine c_region ?_
  refine JL_run 3 [] [7, 0] 0 ⟨[(7, vB (decide (n < 0))), (0, vI n)], []⟩ [] [] (by kernel_rfl) on wn ?_
  cases h1 : decide (n < 0) with
  | true =>
    have h1 := of_decide_eq_true h1
    refine JL_run 3 [] [10, 0] 0 ⟨[(10, vB true), (0, vI n)], []⟩ [] [] (by kernel_rfl) on wn ?_
    refine l_nil (q_then_normal ?_)
    refine c_if true rfl ?_
    refine c_seq ?_
    refine c_region ?_
    refine JL_run 2 [] [3, 2] 0 ⟨[(3, vI 2), (2, vS emp)], []⟩ [] [] (by kernel_rfl) on wn ?_
    refine l_nil (q_then_normal ?_)
    refine c_ret ?_
    refine q_then_ret (q_ret (.inl rfl) [vS emp, vI 2] rfl (fun bs w hS => ?_))
    exact ⟨by simp [retOf, den, mNumber, h1], hS.kp⟩
  | false =>
    have h1 := of_decide_eq_false h1
    refine JL_run 3 [] [10, 0] 0 ⟨[(10, vB (decide ((1099511627776 : Int) < n))), (0, vI n)], []⟩ [] [] (by kernel_rfl) on wn ?_
    refine l_nil (q_then_normal ?_)
    cases h2 : decide ((1099511627776 : Int) < n) with
    | true =>
      have h2 := of_decide_eq_true h2
      refine c_if true rfl ?_
      refine c_seq ?_
      refine c_region ?_
      refine JL_run 2 [] [3, 2] 0 ⟨[(3, vI 2), (2, vS emp)], []⟩ [] [] (by kernel_rfl) on wn ?_
      refine l_nil (q_then_normal ?_)
      refine c_ret ?_
      refine q_then_ret (q_ret (.inl rfl) [vS emp, vI 2] rfl (fun bs w hS => ?_))
      exact ⟨by simp [retOf, den, mNumber, h1, h2], hS.kp⟩
    | false =>
      have h2 := of_decide_eq_false h2
      refine c_if false rfl ?_
      refine c_skip ?_
      refine q_then_normal ?_
      refine c_seq ?_
      refine c_region ?_
      refine JL_run 1 [] [4, 0] 0 ⟨[(4, .v (.slice none 0 0)), (0, vI n)], []⟩ [] [] (by kernel_rfl) on wn ?_
      refine l_nil (q_then_normal ?_)
      refine c_seq ?_
      refine c_block ?_
      refine c_row 5 1 ?_
      refine c_loop (σ := List Int × Int × Nat × Option Addr × Nat) (fun ⟨done, m, f, A, c⟩ => NumIn n done m f) (fun ⟨done, m, f, A, c⟩ => f) (fun ⟨done, m, f, A, c⟩ => [rowR 5 1 A done.length c (done.map (Value.int .u8))]) (fun ⟨done, m, f, A, c⟩ => ⟨[(4, .v (.slice A done.length c)), (0, vI m)], []⟩) ⟨[], n, 5, none, 0⟩ (NumIn.start (by omega) (by omega)) (s_start [4, 0] 0 (by kernel_rfl) rfl) ?_
      rintro ⟨done, m, f, A, c⟩ hI
      have hlo := hI.lo
      have hhi := hI.hi
      have hlen := hI.len
      refine c_seq ?_
      refine c_seq ?_
      refine c_region ?_
      refine JL_run 2 [] [12, 4, 0] 0 ⟨[(12, vB (decide ((128 : Int) ≤ m))), (4, .v (.slice A done.length c)), (0, vI m)], []⟩ [] [] (by kernel_rfl) on wn ?_
      refine l_nil (q_then_normal ?_)
      cases h3 : decide ((128 : Int) ≤ m) with
      | true =>
        have h3 := of_decide_eq_true h3
        refine c_if true rfl ?_
        refine c_skip ?_
        refine q_then_normal ?_
        refine c_block ?_
        refine c_seq ?_
        refine c_region ?_
        refine JL_run 6 [] [18, 13, 0] 1 ⟨[(18, .s 0 0 1 1), (13, .v (.slice A done.length c)), (0, vI m)], [⟨5, [.v (.int .u8 ((bits .or .i64 (bits .and .i64 m 127) 128) % 256))]⟩]⟩ [] [] (by kernel_rfl) on wn ?_
        refine l_append 5 1 1 A done.length c (done.map (Value.int .u8)) (.s 0 0 1 1) 1 [.int .u8 ((bits .or .i64 (bits .and .i64 m 127) 128) % 256)] Try.underlying137 (by kernel_rfl) (by omega) rfl rfl rfl (fun bs w hS => src_loc (q := 1) hS rfl rfl) rfl rfl (by unfold maxLen; omega) (by omega) ?_
        intro A1 c1
        refine JL_run 1 [] [4, 0] 0 ⟨[(4, .v (.slice A1 (done.length + 1) c1)), (0, vI m)], []⟩ [] [] (by kernel_rfl) on wn ?_
        refine l_nil (q_then_normal ?_)
        refine c_region ?_
        refine JL_run 3 [] [0, 4] 0 ⟨[(0, vI (m / 2 ^ (7 : Int).toNat)), (4, .v (.slice A1 (done.length + 1) c1))], []⟩ [(0 : Int) ≤ 7, 7 ≤ (64 : Int)] [] (by kernel_rfl) (oc (by omega) (oc (by omega) on)) wn ?_
        have hst := hI.step h3
        refine l_nil (q_block_normal (q_loop (x := (⟨done, m, f, A, c⟩ : List Int × Int × Nat × Option Addr × Nat)) (⟨done ++ [128 + m % 128], m / 128, f - 1, A1, c1⟩ : List Int × Int × Nat × Option Addr × Nat) hst.2 (by have := hst.1; show f - 1 < f; omega) (s_start [4, 0] 0 (by simp only [List.length_append, List.length_cons, List.length_nil]; kernel_rfl) (by rw [byte_or m hlo hhi]; simp))))
      | false =>
        have h3 := of_decide_eq_false h3
        refine c_if false rfl ?_
        refine c_exit ?_
        refine q_then_exit (q_then_exit (q_block_hit (q_then_normal ?_)))
        refine c_seq ?_
        refine c_region ?_
        refine JL_run 4 [] [25, 22] 1 ⟨[(25, .s 0 0 1 1), (22, .v (.slice A done.length c))], [⟨5, [.v (.int .u8 (m % 256))]⟩]⟩ [] [] (by kernel_rfl) on wn ?_
        refine l_append 5 1 1 A done.length c (done.map (Value.int .u8)) (.s 0 0 1 1) 1 [.int .u8 (m % 256)] Try.underlying137 (by kernel_rfl) (by omega) rfl rfl rfl (fun bs w hS => src_loc (q := 1) hS rfl rfl) rfl rfl (by unfold maxLen; omega) (by omega) ?_
        intro A2 c2
        refine l_bytes 5 (.v (.slice A2 (done.length + 1) c2)) (done ++ [m % 256]) Try.underlying137 Try.underlying5 Try.underlying9 rfl rfl (fun bs w hS => ?_) ?_
        · obtain ⟨g, hg, hc⟩ := row_cells (e := 5) (size := 1) (A := A2) (n := done.length + 1) (c := c2) (xs := done.map (Value.int .u8) ++ [.int .u8 (m % 256)]) hS (by simp) (by omega)
          subst hg
          exact ⟨⟨g, 0, none⟩, c2, by simp [den], by simpa using hc⟩
        refine JL_run 2 [] [3, 2] 0 ⟨[(3, vI 0), (2, vS (bstr (done ++ [m % 256])))], []⟩ [] [] (by kernel_rfl) on wn ?_
        refine l_nil (q_then_normal ?_)
        refine c_ret ?_
        refine q_ret (.inl rfl) [vS (bstr (done ++ [m % 256])), vI 0] rfl (fun bs w hS => ?_)
        have e1 : m % 256 = m := by omega
        have e2 := hI.done (by omega)
        refine ⟨?_, hS.kp⟩
        simp only [retOf, den, List.map_cons, List.map_nil, mNumber, e1, e2]
        rw [if_neg (by omega)]

theorem ref_NumberBytes (n : Int) (w : World) : Calls Try.prog 105 #[.int .i64 n] w fun e w' => e = .returned (.tuple #[.string (mNumber n).1, .int .i64 (mNumber n).2]) ∧ Kp [] w w' := by
  refine calls_J0 26 Try.func105 rfl rfl [.int .i64 n] rfl ?_
  refine c_seq ?_
  refine c_region ?_
  refine JL_run 2 [] [0] 0 ⟨[(0, vI n)], []⟩ [] [] (by kernel_rfl) on wn ?_
  refine l_nil (q_then_normal ?_)
  refine c_seq ?_
  refine c_seq ?_
  refine c_region ?_
  refine JL_run 1 [] [5, 0] 0 ⟨[(5, vI n), (0, vI n)], []⟩ [] [] (by kernel_rfl) on wn ?_
  refine l_pure 68 [] [vI n, vI 0, vI 1099511627776] (.bool (inB n 0 1099511627776)) Try.call68 rfl rfl rfl rfl (fun bs w hS => ref_In _ _ _ w) ?_
  refine JL_run 1 [] [7, 0] 0 ⟨[(7, vB (!(inB n 0 1099511627776))), (0, vI n)], []⟩ [] [] (by kernel_rfl) on wn ?_
  refine l_nil (q_then_normal ?_)
  cases h1 : inB n 0 1099511627776 with
  | true =>
    refine c_if false rfl ?_
    refine c_skip ?_
    refine q_then_normal ?_
    refine c_seq ?_
    refine c_region ?_
    refine JL_run 1 [] [4, 0] 0 ⟨[(4, vS emp), (0, vI n)], []⟩ [] [] (by kernel_rfl) on wn ?_
    refine l_nil (q_then_normal ?_)
    refine c_seq ?_
    refine c_block ?_
    refine c_loop (σ := List Int × Int × Nat) (fun ⟨done, m, f⟩ => NumIn n done m f) (fun ⟨done, m, f⟩ => f) (fun ⟨done, m, f⟩ => []) (fun ⟨done, m, f⟩ => ⟨[(4, vS (bstr done)), (0, vI m)], []⟩) ⟨[], n, 5⟩ (NumIn.start (by simp [inB] at h1; omega) (by simp [inB] at h1; omega)) (s_start [4, 0] 0 (by kernel_rfl) rfl) ?_
    rintro ⟨done, m, f⟩ hI
    have hlo := hI.lo
    have hhi := hI.hi
    have hlen := hI.len
    refine c_seq ?_
    refine c_seq ?_
    refine c_region ?_
    refine JL_run 2 [] [9, 4, 0] 0 ⟨[(9, vB (decide ((128 : Int) ≤ m))), (4, vS (bstr done)), (0, vI m)], []⟩ [] [] (by kernel_rfl) on wn ?_
    refine l_nil (q_then_normal ?_)
    cases h2 : decide ((128 : Int) ≤ m) with
    | true =>
      have h2 := of_decide_eq_true h2
      refine c_if true rfl ?_
      refine c_skip ?_
      refine q_then_normal ?_
      refine c_block ?_
      refine c_seq ?_
      refine c_region ?_
      refine JL_run 6 [] [15, 10, 0] 1 ⟨[(15, .s 0 0 1 1), (10, vS (bstr done)), (0, vI m)], [⟨5, [.v (.int .u8 (((128 : Int) + (m % 128)) % 256))]⟩]⟩ [0 ≤ m, (0 : Int) < 128, inR ((128 : Int) + (m % 128))] [] (by kernel_rfl) (oc (by omega) (oc (by omega) (oc (by unfold inR; omega) on))) wn ?_
      refine l_bytes 5 (.s 0 0 1 1) [((128 : Int) + (m % 128)) % 256] Try.underlying137 Try.underlying5 Try.underlying9 rfl rfl (fun bs w hS => src_loc (q := 1) hS rfl rfl) ?_
      refine JL_run 2 [] [4, 0] 0 ⟨[(4, vS ((bstr done) ++ (bstr ([((128 : Int) + (m % 128)) % 256])))), (0, vI m)], []⟩ [(bstr done).size + (bstr ([((128 : Int) + (m % 128)) % 256])).size ≤ 9223372036854775807] [] (by kernel_rfl) (oc (by simp only [bstr_size, List.length_cons, List.length_nil]; omega) on) wn ?_
      refine l_nil (q_then_normal ?_)
      refine c_region ?_
      refine JL_run 3 [] [0, 4] 0 ⟨[(0, vI (m / 128)), (4, vS ((bstr done) ++ (bstr ([((128 : Int) + (m % 128)) % 256]))))], []⟩ [0 ≤ m, m ≤ 9223372036854775807, (0 : Int) < 128] [] (by kernel_rfl) (oc (by omega) (oc (by omega) (oc (by omega) on))) wn ?_
      have hst := hI.step h2
      refine l_nil (q_block_normal (q_loop (x := (⟨done, m, f⟩ : List Int × Int × Nat)) (⟨done ++ [128 + m % 128], m / 128, f - 1⟩ : List Int × Int × Nat) hst.2 (by have := hst.1; show f - 1 < f; omega) (s_start [4, 0] 0 (by rw [bstr_append, show (128 + m % 128) % 256 = 128 + m % 128 by omega]; kernel_rfl) rfl)))
    | false =>
      have h2 := of_decide_eq_false h2
      refine c_if false rfl ?_
      refine c_exit ?_
      refine q_then_exit (q_then_exit (q_block_hit (q_then_normal ?_)))
      refine c_seq ?_
      refine c_region ?_
      refine JL_run 4 [] [23, 20] 1 ⟨[(23, .s 0 0 1 1), (20, vS (bstr done))], [⟨5, [.v (.int .u8 (m % 256))]⟩]⟩ [] [] (by kernel_rfl) on wn ?_
      refine l_bytes 5 (.s 0 0 1 1) [m % 256] Try.underlying137 Try.underlying5 Try.underlying9 rfl rfl (fun bs w hS => src_loc (q := 1) hS rfl rfl) ?_
      refine JL_run 3 [] [3, 2] 0 ⟨[(3, vI 0), (2, vS ((bstr done) ++ (bstr ([m % 256]))))], []⟩ [(bstr done).size + (bstr ([m % 256])).size ≤ 9223372036854775807] [] (by kernel_rfl) (oc (by simp only [bstr_size, List.length_cons, List.length_nil]; omega) on) wn ?_
      refine l_nil (q_then_normal ?_)
      refine c_ret ?_
      refine q_ret (.inl rfl) [vS ((bstr done) ++ (bstr ([m % 256]))), vI 0] rfl (fun bs w hS => ?_)
      have e1 : m % 256 = m := by omega
      have e2 := hI.done (by omega)
      simp [inB] at h1
      refine ⟨?_, hS.kp⟩
      simp only [retOf, den, List.map_cons, List.map_nil, mNumber, e1, bstr_append, e2]
      rw [if_neg (by omega)]
  | false =>
    refine c_if true rfl ?_
    refine c_seq ?_
    refine c_region ?_
    refine JL_run 2 [] [3, 2] 0 ⟨[(3, vI 2), (2, vS emp)], []⟩ [] [] (by kernel_rfl) on wn ?_
    refine l_nil (q_then_normal ?_)
    refine c_ret ?_
    refine q_then_ret (q_ret (.inl rfl) [vS emp, vI 2] rfl (fun bs w hS => ?_))
    simp [inB] at h1
    exact ⟨by simp only [retOf, den, List.map_cons, List.map_nil, mNumber]; rw [if_pos (by omega)], hS.kp⟩

theorem codec_Text (s : ByteArray) (w : World) (hs : s.size ≤ 9223372036854775807) : Calls Try.prog 104 #[.string s] w fun e w' => e = .returned (.tuple #[.string (mText s).1, .int .i64 (mText s).2]) ∧ Kp [] w w' := by
  refine calls_J0 18 Try.func104 rfl rfl [.string s] rfl ?_
  refine c_seq ?_
  refine c_region ?_
  refine JL_run 2 [] [0] 0 ⟨[(0, vS s)], []⟩ [] [] (by kernel_rfl) on wn ?_
  refine l_nil (q_then_normal ?_)
  refine c_seq ?_
  refine c_seq ?_
  refine c_region ?_
  refine JL_run 3 [] [8, 0] 0 ⟨[(8, vB (decide ((5000 : Int) < (s.size : Int)))), (0, vS s)], []⟩ [] [] (by kernel_rfl) on wn ?_
  refine l_nil (q_then_normal ?_)
  cases h1 : decide ((5000 : Int) < (s.size : Int)) with
  | true =>
    have h1 := of_decide_eq_true h1
    refine c_if true rfl ?_
    refine c_seq ?_
    refine c_region ?_
    refine JL_run 2 [] [3, 2] 0 ⟨[(3, vI 1), (2, vS emp)], []⟩ [] [] (by kernel_rfl) on wn ?_
    refine l_nil (q_then_normal ?_)
    refine c_ret ?_
    refine q_then_ret (q_ret (.inl rfl) [vS emp, vI 1] rfl (fun bs w hS => ?_))
    refine ⟨?_, hS.kp⟩
    simp only [retOf, den, List.map_cons, List.map_nil, mText]
    first | rw [if_pos (by omega)] | rw [if_neg (by omega)]
  | false =>
    have h1 := of_decide_eq_false h1
    refine c_if false rfl ?_
    refine c_skip ?_
    refine q_then_normal ?_
    refine c_seq ?_
    refine c_region ?_
    refine JL_run 2 [] [11, 0] 0 ⟨[(11, vI (s.size : Int)), (0, vS s)], []⟩ [] [] (by kernel_rfl) on wn ?_
    refine l_pure 103 [] [vI (s.size : Int)] (.tuple #[.string ((mNumber (s.size : Int)).1), .int .i64 ((mNumber (s.size : Int)).2)]) Try.call103 rfl rfl rfl rfl (fun bs w hS => codec_Number _ w) ?_
    refine JL_run 5 [] [4, 0] 0 ⟨[(4, vS ((mNumber (s.size : Int)).1)), (0, vS s)], []⟩ [] [] (by kernel_rfl) on wn ?_
    refine l_nil (q_then_normal ?_)
    refine c_seq ?_
    refine c_region ?_
    refine JL_run 5 [] [3, 2] 0 ⟨[(3, vI 0), (2, vS (((mNumber (s.size : Int)).1) ++ s))], []⟩ [((mNumber (s.size : Int)).1).size + s.size ≤ 9223372036854775807] [] (by kernel_rfl) (oc (by have := mNumber_size (s.size : Int); omega) on) wn ?_
    refine l_nil (q_then_normal ?_)
    refine c_ret ?_
    refine q_ret (.inl rfl) [vS (((mNumber (s.size : Int)).1) ++ s), vI 0] rfl (fun bs w hS => ?_)
    refine ⟨?_, hS.kp⟩
    simp only [retOf, den, List.map_cons, List.map_nil, mText]
    first | rw [if_pos (by omega)] | rw [if_neg (by omega)]

theorem ref_TextBytes (s : ByteArray) (w : World) (hs : s.size ≤ 9223372036854775807) : Calls Try.prog 106 #[.string s] w fun e w' => e = .returned (.tuple #[.string (mText s).1, .int .i64 (mText s).2]) ∧ Kp [] w w' := by
  refine calls_J0 18 Try.func106 rfl rfl [.string s] rfl ?_
  refine c_seq ?_
  refine c_region ?_
  refine JL_run 2 [] [0] 0 ⟨[(0, vS s)], []⟩ [] [] (by kernel_rfl) on wn ?_
  refine l_nil (q_then_normal ?_)
  refine c_seq ?_
  refine c_seq ?_
  refine c_region ?_
  refine JL_run 3 [] [8, 0] 0 ⟨[(8, vB (decide ((5000 : Int) < (s.size : Int)))), (0, vS s)], []⟩ [] [] (by kernel_rfl) on wn ?_
  refine l_nil (q_then_normal ?_)
  cases h1 : decide ((5000 : Int) < (s.size : Int)) with
  | true =>
    have h1 := of_decide_eq_true h1
    refine c_if true rfl ?_
    refine c_seq ?_
    refine c_region ?_
    refine JL_run 2 [] [3, 2] 0 ⟨[(3, vI 1), (2, vS emp)], []⟩ [] [] (by kernel_rfl) on wn ?_
    refine l_nil (q_then_normal ?_)
    refine c_ret ?_
    refine q_then_ret (q_ret (.inl rfl) [vS emp, vI 1] rfl (fun bs w hS => ?_))
    refine ⟨?_, hS.kp⟩
    simp only [retOf, den, List.map_cons, List.map_nil, mText]
    first | rw [if_pos (by omega)] | rw [if_neg (by omega)]
  | false =>
    have h1 := of_decide_eq_false h1
    refine c_if false rfl ?_
    refine c_skip ?_
    refine q_then_normal ?_
    refine c_seq ?_
    refine c_region ?_
    refine JL_run 2 [] [11, 0] 0 ⟨[(11, vI (s.size : Int)), (0, vS s)], []⟩ [] [] (by kernel_rfl) on wn ?_
    refine l_pure 105 [] [vI (s.size : Int)] (.tuple #[.string ((mNumber (s.size : Int)).1), .int .i64 ((mNumber (s.size : Int)).2)]) Try.call105 rfl rfl rfl rfl (fun bs w hS => ref_NumberBytes _ w) ?_
    refine JL_run 5 [] [4, 0] 0 ⟨[(4, vS ((mNumber (s.size : Int)).1)), (0, vS s)], []⟩ [] [] (by kernel_rfl) on wn ?_
    refine l_nil (q_then_normal ?_)
    refine c_seq ?_
    refine c_region ?_
    refine JL_run 5 [] [3, 2] 0 ⟨[(3, vI 0), (2, vS (((mNumber (s.size : Int)).1) ++ s))], []⟩ [((mNumber (s.size : Int)).1).size + s.size ≤ 9223372036854775807] [] (by kernel_rfl) (oc (by have := mNumber_size (s.size : Int); omega) on) wn ?_
    refine l_nil (q_then_normal ?_)
    refine c_ret ?_
    refine q_ret (.inl rfl) [vS (((mNumber (s.size : Int)).1) ++ s), vI 0] rfl (fun bs w hS => ?_)
    refine ⟨?_, hS.kp⟩
    simp only [retOf, den, List.map_cons, List.map_nil, mText]
    first | rw [if_pos (by omega)] | rw [if_neg (by omega)]

theorem command_CheckOp {B : Nat → Prop} (x : DOp) (w : World) (hx : Rds.sub B w x) : Calls Try.prog 46 #[.agg #[.int .i64 x.kind, .string x.a, .string x.b, .int .i64 x.n]] w fun e w' => e = .returned (.int .i64 (mOp x)) ∧ Kp [] w w' := by
  have okx := Rds.okof hx
  refine calls_J0 52 Try.func46 rfl rfl [.agg #[.int .i64 x.kind, .string x.a, .string x.b, .int .i64 x.n]] rfl ?_
  refine c_seq ?_
  refine c_region ?_
  refine JL_run 2 [] [1] 1 ⟨[(1, .p 0 0)], [⟨26, [vI x.kind, vS x.a, vS x.b, vI x.n]⟩]⟩ [] [] (by kernel_rfl) on wn ?_
  refine l_nil (q_then_normal ?_)
  refine c_seq ?_
  refine c_seq ?_
  refine c_region ?_
  refine JL_run 4 [] [6, 1] 1 ⟨[(6, vB (decide (x.kind < 1))), (1, .p 0 0)], [⟨26, [vI x.kind, vS x.a, vS x.b, vI x.n]⟩]⟩ [] [] (by kernel_rfl) on wn ?_
  cases h1 : decide (x.kind < 1) with
  | true =>
    have h1 := of_decide_eq_true h1
    refine JL_run 4 [] [10, 1] 1 ⟨[(10, vB true), (1, .p 0 0)], [⟨26, [vI x.kind, vS x.a, vS x.b, vI x.n]⟩]⟩ [] [] (by kernel_rfl) on wn ?_
    refine l_nil (q_then_normal ?_)
    refine c_if true rfl ?_
    refine c_seq ?_
    refine c_region ?_
    refine JL_run 1 [] [2] 0 ⟨[(2, vI 3)], []⟩ [] [] (by kernel_rfl) on wn ?_
    refine l_nil (q_then_normal ?_)
    refine c_ret ?_
    refine q_then_ret (q_ret (.inl rfl) [vI 3] rfl (fun bs w hS => ?_))
    refine ⟨?_, hS.kp⟩
    simp only [retOf, den, List.map_cons, List.map_nil]
    unfold mOp
    try simp only [h1, emp_size, ne_eq, not_true_eq_false, not_false_eq_true, true_or, or_true, false_or, or_false, and_true, true_and, and_false, false_and, and_self, or_self, if_true, if_false, Bool.true_eq_false, Bool.false_eq_true, reduceIte, Classical.not_not, Bool.and_eq_true, decide_eq_true_eq]
    repeat (first | rw [if_pos (by omega)] | rw [if_neg (by omega)])
    all_goals first | rfl | (exfalso; omega)
  | false =>
    have h1 := of_decide_eq_false h1
    refine JL_run 4 [] [10, 1] 1 ⟨[(10, vB (decide ((6 : Int) < x.kind))), (1, .p 0 0)], [⟨26, [vI x.kind, vS x.a, vS x.b, vI x.n]⟩]⟩ [] [] (by kernel_rfl) on wn ?_
    refine l_nil (q_then_normal ?_)
    cases h2 : decide ((6 : Int) < x.kind) with
    | true =>
      have h2 := of_decide_eq_true h2
      refine c_if true rfl ?_
      refine c_seq ?_
      refine c_region ?_
      refine JL_run 1 [] [2] 0 ⟨[(2, vI 3)], []⟩ [] [] (by kernel_rfl) on wn ?_
      refine l_nil (q_then_normal ?_)
      refine c_ret ?_
      refine q_then_ret (q_ret (.inl rfl) [vI 3] rfl (fun bs w hS => ?_))
      refine ⟨?_, hS.kp⟩
      simp only [retOf, den, List.map_cons, List.map_nil]
      unfold mOp
      try simp only [h1, h2, emp_size, ne_eq, not_true_eq_false, not_false_eq_true, true_or, or_true, false_or, or_false, and_true, true_and, and_false, false_and, and_self, or_self, if_true, if_false, Bool.true_eq_false, Bool.false_eq_true, reduceIte, Classical.not_not, Bool.and_eq_true, decide_eq_true_eq]
      repeat (first | rw [if_pos (by omega)] | rw [if_neg (by omega)])
      all_goals first | rfl | (exfalso; omega)
    | false =>
      have h2 := of_decide_eq_false h2
      refine c_if false rfl ?_
      refine c_skip ?_
      refine q_then_normal ?_
      refine c_seq ?_
      refine c_seq ?_
      refine c_region ?_
      refine JL_run 2 [] [12, 1] 1 ⟨[(12, vS x.a), (1, .p 0 0)], [⟨26, [vI x.kind, vS x.a, vS x.b, vI x.n]⟩]⟩ [] [] (by kernel_rfl) on wn ?_
      refine l_pure 92 [] [vS x.a] (.bool (mName x.a)) Try.call92 rfl rfl rfl rfl (fun bs w hS => lock_Name _ w (And.left okx)) ?_
      refine JL_run 2 [] [15, 1] 1 ⟨[(15, vB (!(mName x.a))), (1, .p 0 0)], [⟨26, [vI x.kind, vS x.a, vS x.b, vI x.n]⟩]⟩ [] [] (by kernel_rfl) on wn ?_
      cases h3 : mName x.a with
      | true =>
        refine JL_run 4 [] [19, 15, 1] 1 ⟨[(19, vB (!(decide (x.kind = 5)))), (15, vB false), (1, .p 0 0)], [⟨26, [vI x.kind, vS x.a, vS x.b, vI x.n]⟩]⟩ [] [] (by kernel_rfl) on wn ?_
        cases h4 : decide (x.kind = 5) with
        | true =>
          have h4 := of_decide_eq_true h4
          refine JL_run 5 [] [24, 1] 1 ⟨[(24, vB false), (1, .p 0 0)], [⟨26, [vI x.kind, vS x.a, vS x.b, vI x.n]⟩]⟩ [] [] (by kernel_rfl) on wn ?_
          refine l_nil (q_then_normal ?_)
          refine c_if false rfl ?_
          refine c_skip ?_
          refine q_then_normal ?_
          refine c_seq ?_
          refine c_seq ?_
          refine c_region ?_
          refine JL_run 4 [] [28, 1] 1 ⟨[(28, vB (decide ((12 : Int) < (x.b.size : Int)))), (1, .p 0 0)], [⟨26, [vI x.kind, vS x.a, vS x.b, vI x.n]⟩]⟩ [] [] (by kernel_rfl) on wn ?_
          refine l_nil (q_then_normal ?_)
          cases h5 : decide ((12 : Int) < (x.b.size : Int)) with
          | true =>
            have h5 := of_decide_eq_true h5
            refine c_if true rfl ?_
            refine c_seq ?_
            refine c_region ?_
            refine JL_run 1 [] [2] 0 ⟨[(2, vI 1)], []⟩ [] [] (by kernel_rfl) on wn ?_
            refine l_nil (q_then_normal ?_)
            refine c_ret ?_
            refine q_then_ret (q_ret (.inl rfl) [vI 1] rfl (fun bs w hS => ?_))
            refine ⟨?_, hS.kp⟩
            simp only [retOf, den, List.map_cons, List.map_nil]
            unfold mOp
            try simp only [h1, h2, h3, h4, h5, emp_size, ne_eq, not_true_eq_false, not_false_eq_true, true_or, or_true, false_or, or_false, and_true, true_and, and_false, false_and, and_self, or_self, if_true, if_false, Bool.true_eq_false, Bool.false_eq_true, reduceIte, Classical.not_not, Bool.and_eq_true, decide_eq_true_eq]
            repeat (first | rw [if_pos (by omega)] | rw [if_neg (by omega)])
            all_goals first | rfl | (exfalso; omega)
          | false =>
            have h5 := of_decide_eq_false h5
            refine c_if false rfl ?_
            refine c_skip ?_
            refine q_then_normal ?_
            refine c_seq ?_
            refine c_seq ?_
            refine c_region ?_
            refine JL_run 4 [] [32, 1] 1 ⟨[(32, vB (decide (x.kind = 5))), (1, .p 0 0)], [⟨26, [vI x.kind, vS x.a, vS x.b, vI x.n]⟩]⟩ [] [] (by kernel_rfl) on wn ?_
            cases h6 : decide (x.kind = 5) with
            | true =>
              have h6 := of_decide_eq_true h6
              refine JL_run 4 [] [36, 32, 1] 1 ⟨[(36, vB (decide (x.n < 1))), (32, vB true), (1, .p 0 0)], [⟨26, [vI x.kind, vS x.a, vS x.b, vI x.n]⟩]⟩ [] [] (by kernel_rfl) on wn ?_
              cases h7 : decide (x.n < 1) with
              | true =>
                have h7 := of_decide_eq_true h7
                refine JL_run 15 [] [51] 0 ⟨[(51, vB true)], []⟩ [] [] (by kernel_rfl) on wn ?_
                refine l_nil (q_then_normal ?_)
                refine c_if true rfl ?_
                refine c_seq ?_
                refine c_region ?_
                refine JL_run 1 [] [2] 0 ⟨[(2, vI 2)], []⟩ [] [] (by kernel_rfl) on wn ?_
                refine l_nil (q_then_normal ?_)
                refine c_ret ?_
                refine q_then_ret (q_ret (.inl rfl) [vI 2] rfl (fun bs w hS => ?_))
                refine ⟨?_, hS.kp⟩
                simp only [retOf, den, List.map_cons, List.map_nil]
                unfold mOp
                try simp only [h1, h2, h3, h4, h5, h6, h7, emp_size, ne_eq, not_true_eq_false, not_false_eq_true, true_or, or_true, false_or, or_false, and_true, true_and, and_false, false_and, and_self, or_self, if_true, if_false, Bool.true_eq_false, Bool.false_eq_true, reduceIte, Classical.not_not, Bool.and_eq_true, decide_eq_true_eq]
                repeat (first | rw [if_pos (by omega)] | rw [if_neg (by omega)])
                all_goals first | rfl | (exfalso; omega)
              | false =>
                have h7 := of_decide_eq_false h7
                refine JL_run 6 [] [42, 1] 1 ⟨[(42, vB (decide ((1073741824 : Int) < x.n))), (1, .p 0 0)], [⟨26, [vI x.kind, vS x.a, vS x.b, vI x.n]⟩]⟩ [] [] (by kernel_rfl) on wn ?_
                cases h8 : decide ((1073741824 : Int) < x.n) with
                | true =>
                  have h8 := of_decide_eq_true h8
                  refine JL_run 9 [] [51] 0 ⟨[(51, vB true)], []⟩ [] [] (by kernel_rfl) on wn ?_
                  refine l_nil (q_then_normal ?_)
                  refine c_if true rfl ?_
                  refine c_seq ?_
                  refine c_region ?_
                  refine JL_run 1 [] [2] 0 ⟨[(2, vI 2)], []⟩ [] [] (by kernel_rfl) on wn ?_
                  refine l_nil (q_then_normal ?_)
                  refine c_ret ?_
                  refine q_then_ret (q_ret (.inl rfl) [vI 2] rfl (fun bs w hS => ?_))
                  refine ⟨?_, hS.kp⟩
                  simp only [retOf, den, List.map_cons, List.map_nil]
                  unfold mOp
                  try simp only [h1, h2, h3, h4, h5, h6, h7, h8, emp_size, ne_eq, not_true_eq_false, not_false_eq_true, true_or, or_true, false_or, or_false, and_true, true_and, and_false, false_and, and_self, or_self, if_true, if_false, Bool.true_eq_false, Bool.false_eq_true, reduceIte, Classical.not_not, Bool.and_eq_true, decide_eq_true_eq]
                  repeat (first | rw [if_pos (by omega)] | rw [if_neg (by omega)])
                  all_goals first | rfl | (exfalso; omega)
                | false =>
                  have h8 := of_decide_eq_false h8
                  refine JL_run 4 [] [46, 42, 1] 1 ⟨[(46, vB (!(decide (x.kind = 5)))), (42, vB false), (1, .p 0 0)], [⟨26, [vI x.kind, vS x.a, vS x.b, vI x.n]⟩]⟩ [] [] (by kernel_rfl) on wn ?_
                  cases h9 : decide (x.kind = 5) with
                  | true =>
                    have h9 := of_decide_eq_true h9
                    refine JL_run 5 [] [51] 0 ⟨[(51, vB false)], []⟩ [] [] (by kernel_rfl) on wn ?_
                    refine l_nil (q_then_normal ?_)
                    refine c_if false rfl ?_
                    refine c_skip ?_
                    refine q_then_normal ?_
                    refine c_seq ?_
                    refine c_region ?_
                    refine JL_run 1 [] [2] 0 ⟨[(2, vI 0)], []⟩ [] [] (by kernel_rfl) on wn ?_
                    refine l_nil (q_then_normal ?_)
                    refine c_ret ?_
                    refine q_ret (.inl rfl) [vI 0] rfl (fun bs w hS => ?_)
                    refine ⟨?_, hS.kp⟩
                    simp only [retOf, den, List.map_cons, List.map_nil]
                    unfold mOp
                    try simp only [h1, h2, h3, h4, h5, h6, h7, h8, h9, emp_size, ne_eq, not_true_eq_false, not_false_eq_true, true_or, or_true, false_or, or_false, and_true, true_and, and_false, false_and, and_self, or_self, if_true, if_false, Bool.true_eq_false, Bool.false_eq_true, reduceIte, Classical.not_not, Bool.and_eq_true, decide_eq_true_eq]
                    repeat (first | rw [if_pos (by omega)] | rw [if_neg (by omega)])
                    all_goals first | rfl | (exfalso; omega)
                  | false =>
                    have h9 := of_decide_eq_false h9
                    exact absurd h4 h9
            | false =>
              have h6 := of_decide_eq_false h6
              exact absurd h4 h6
        | false =>
          have h4 := of_decide_eq_false h4
          refine JL_run 5 [] [24, 1] 1 ⟨[(24, vB (!(decide (x.b = emp)))), (1, .p 0 0)], [⟨26, [vI x.kind, vS x.a, vS x.b, vI x.n]⟩]⟩ [] [] (by kernel_rfl) on wn ?_
          refine l_nil (q_then_normal ?_)
          cases h10 : decide (x.b = emp) with
          | true =>
            have h10 := of_decide_eq_true h10
            have hzh10 : x.b.size = 0 := by rw [h10]; rfl
            refine c_if false rfl ?_
            refine c_skip ?_
            refine q_then_normal ?_
            refine c_seq ?_
            refine c_seq ?_
            refine c_region ?_
            refine JL_run 4 [] [28, 1] 1 ⟨[(28, vB (decide ((12 : Int) < (x.b.size : Int)))), (1, .p 0 0)], [⟨26, [vI x.kind, vS x.a, vS x.b, vI x.n]⟩]⟩ [] [] (by kernel_rfl) on wn ?_
            refine l_nil (q_then_normal ?_)
            cases h11 : decide ((12 : Int) < (x.b.size : Int)) with
            | true =>
              have h11 := of_decide_eq_true h11
              refine c_if true rfl ?_
              refine c_seq ?_
              refine c_region ?_
              refine JL_run 1 [] [2] 0 ⟨[(2, vI 1)], []⟩ [] [] (by kernel_rfl) on wn ?_
              refine l_nil (q_then_normal ?_)
              refine c_ret ?_
              refine q_then_ret (q_ret (.inl rfl) [vI 1] rfl (fun bs w hS => ?_))
              refine ⟨?_, hS.kp⟩
              simp only [retOf, den, List.map_cons, List.map_nil]
              unfold mOp
              try simp only [h1, h2, h3, h4, h10, h11, emp_size, ne_eq, not_true_eq_false, not_false_eq_true, true_or, or_true, false_or, or_false, and_true, true_and, and_false, false_and, and_self, or_self, if_true, if_false, Bool.true_eq_false, Bool.false_eq_true, reduceIte, Classical.not_not, Bool.and_eq_true, decide_eq_true_eq]
              repeat (first | rw [if_pos (by omega)] | rw [if_neg (by omega)])
              all_goals first | rfl | (exfalso; omega)
            | false =>
              have h11 := of_decide_eq_false h11
              refine c_if false rfl ?_
              refine c_skip ?_
              refine q_then_normal ?_
              refine c_seq ?_
              refine c_seq ?_
              refine c_region ?_
              refine JL_run 4 [] [32, 1] 1 ⟨[(32, vB (decide (x.kind = 5))), (1, .p 0 0)], [⟨26, [vI x.kind, vS x.a, vS x.b, vI x.n]⟩]⟩ [] [] (by kernel_rfl) on wn ?_
              cases h12 : decide (x.kind = 5) with
              | true =>
                have h12 := of_decide_eq_true h12
                exact absurd h12 h4
              | false =>
                have h12 := of_decide_eq_false h12
                refine JL_run 14 [] [46, 42, 1] 1 ⟨[(46, vB (!(decide (x.kind = 5)))), (42, vB false), (1, .p 0 0)], [⟨26, [vI x.kind, vS x.a, vS x.b, vI x.n]⟩]⟩ [] [] (by kernel_rfl) on wn ?_
                cases h13 : decide (x.kind = 5) with
                | true =>
                  have h13 := of_decide_eq_true h13
                  exact absurd h13 h4
                | false =>
                  have h13 := of_decide_eq_false h13
                  refine JL_run 5 [] [51] 0 ⟨[(51, vB (!(decide (x.n = 0))))], []⟩ [] [] (by kernel_rfl) on wn ?_
                  refine l_nil (q_then_normal ?_)
                  cases h14 : decide (x.n = 0) with
                  | true =>
                    have h14 := of_decide_eq_true h14
                    refine c_if false rfl ?_
                    refine c_skip ?_
                    refine q_then_normal ?_
                    refine c_seq ?_
                    refine c_region ?_
                    refine JL_run 1 [] [2] 0 ⟨[(2, vI 0)], []⟩ [] [] (by kernel_rfl) on wn ?_
                    refine l_nil (q_then_normal ?_)
                    refine c_ret ?_
                    refine q_ret (.inl rfl) [vI 0] rfl (fun bs w hS => ?_)
                    refine ⟨?_, hS.kp⟩
                    simp only [retOf, den, List.map_cons, List.map_nil]
                    unfold mOp
                    try simp only [h1, h2, h3, h4, h10, h11, h12, h13, h14, emp_size, ne_eq, not_true_eq_false, not_false_eq_true, true_or, or_true, false_or, or_false, and_true, true_and, and_false, false_and, and_self, or_self, if_true, if_false, Bool.true_eq_false, Bool.false_eq_true, reduceIte, Classical.not_not, Bool.and_eq_true, decide_eq_true_eq]
                    repeat (first | rw [if_pos (by omega)] | rw [if_neg (by omega)])
                    all_goals first | rfl | (exfalso; omega)
                  | false =>
                    have h14 := of_decide_eq_false h14
                    refine c_if true rfl ?_
                    refine c_seq ?_
                    refine c_region ?_
                    refine JL_run 1 [] [2] 0 ⟨[(2, vI 2)], []⟩ [] [] (by kernel_rfl) on wn ?_
                    refine l_nil (q_then_normal ?_)
                    refine c_ret ?_
                    refine q_then_ret (q_ret (.inl rfl) [vI 2] rfl (fun bs w hS => ?_))
                    refine ⟨?_, hS.kp⟩
                    simp only [retOf, den, List.map_cons, List.map_nil]
                    unfold mOp
                    try simp only [h1, h2, h3, h4, h10, h11, h12, h13, h14, emp_size, ne_eq, not_true_eq_false, not_false_eq_true, true_or, or_true, false_or, or_false, and_true, true_and, and_false, false_and, and_self, or_self, if_true, if_false, Bool.true_eq_false, Bool.false_eq_true, reduceIte, Classical.not_not, Bool.and_eq_true, decide_eq_true_eq]
                    repeat (first | rw [if_pos (by omega)] | rw [if_neg (by omega)])
                    all_goals first | rfl | (exfalso; omega)
          | false =>
            have h10 := of_decide_eq_false h10
            refine c_if true rfl ?_
            refine c_seq ?_
            refine c_region ?_
            refine JL_run 1 [] [2] 0 ⟨[(2, vI 4)], []⟩ [] [] (by kernel_rfl) on wn ?_
            refine l_nil (q_then_normal ?_)
            refine c_ret ?_
            refine q_then_ret (q_ret (.inl rfl) [vI 4] rfl (fun bs w hS => ?_))
            refine ⟨?_, hS.kp⟩
            simp only [retOf, den, List.map_cons, List.map_nil]
            unfold mOp
            try simp only [h1, h2, h3, h4, h10, emp_size, ne_eq, not_true_eq_false, not_false_eq_true, true_or, or_true, false_or, or_false, and_true, true_and, and_false, false_and, and_self, or_self, if_true, if_false, Bool.true_eq_false, Bool.false_eq_true, reduceIte, Classical.not_not, Bool.and_eq_true, decide_eq_true_eq]
            repeat (first | rw [if_pos (by omega)] | rw [if_neg (by omega)])
            all_goals first | rfl | (exfalso; omega)
      | false =>
        refine JL_run 9 [] [24, 1] 1 ⟨[(24, vB true), (1, .p 0 0)], [⟨26, [vI x.kind, vS x.a, vS x.b, vI x.n]⟩]⟩ [] [] (by kernel_rfl) on wn ?_
        refine l_nil (q_then_normal ?_)
        refine c_if true rfl ?_
        refine c_seq ?_
        refine c_region ?_
        refine JL_run 1 [] [2] 0 ⟨[(2, vI 4)], []⟩ [] [] (by kernel_rfl) on wn ?_
        refine l_nil (q_then_normal ?_)
        refine c_ret ?_
        refine q_then_ret (q_ret (.inl rfl) [vI 4] rfl (fun bs w hS => ?_))
        refine ⟨?_, hS.kp⟩
        simp only [retOf, den, List.map_cons, List.map_nil]
        unfold mOp
        try simp only [h1, h2, h3, emp_size, ne_eq, not_true_eq_false, not_false_eq_true, true_or, or_true, false_or, or_false, and_true, true_and, and_false, false_and, and_self, or_self, if_true, if_false, Bool.true_eq_false, Bool.false_eq_true, reduceIte, Classical.not_not, Bool.and_eq_true, decide_eq_true_eq]
        repeat (first | rw [if_pos (by omega)] | rw [if_neg (by omega)])
        all_goals first | rfl | (exfalso; omega)

theorem ref_OpFault {B : Nat → Prop} (x : DOp) (w : World) (hx : Rds.sub B w x) : Calls Try.prog 50 #[.agg #[.int .i64 x.kind, .string x.a, .string x.b, .int .i64 x.n]] w fun e w' => e = .returned (.int .i64 (mOp x)) ∧ Kp [] w w' := by
  have okx := Rds.okof hx
  refine calls_J0 35 Try.func50 rfl rfl [.agg #[.int .i64 x.kind, .string x.a, .string x.b, .int .i64 x.n]] rfl ?_
  refine c_seq ?_
  refine c_region ?_
  refine JL_run 2 [] [1] 1 ⟨[(1, .p 0 0)], [⟨26, [vI x.kind, vS x.a, vS x.b, vI x.n]⟩]⟩ [] [] (by kernel_rfl) on wn ?_
  refine l_nil (q_then_normal ?_)
  refine c_seq ?_
  refine c_seq ?_
  refine c_region ?_
  refine JL_run 2 [] [4, 1] 1 ⟨[(4, vI x.kind), (1, .p 0 0)], [⟨26, [vI x.kind, vS x.a, vS x.b, vI x.n]⟩]⟩ [] [] (by kernel_rfl) on wn ?_
  refine l_pure 68 [] [vI x.kind, vI 1, vI 6] (.bool (inB x.kind 1 6)) Try.call68 rfl rfl rfl rfl (fun bs w hS => ref_In _ _ _ w) ?_
  refine JL_run 1 [] [6, 1] 1 ⟨[(6, vB (!(inB x.kind 1 6))), (1, .p 0 0)], [⟨26, [vI x.kind, vS x.a, vS x.b, vI x.n]⟩]⟩ [] [] (by kernel_rfl) on wn ?_
  refine l_nil (q_then_normal ?_)
  cases h1 : inB x.kind 1 6 with
  | true =>
    simp only [inB, Bool.and_eq_true, Bool.and_eq_false_iff, decide_eq_true_eq, decide_eq_false_iff_not] at h1
    refine c_if false rfl ?_
    refine c_skip ?_
    refine q_then_normal ?_
    refine c_seq ?_
    refine c_seq ?_
    refine c_region ?_
    refine JL_run 2 [] [8, 1] 1 ⟨[(8, vS x.a), (1, .p 0 0)], [⟨26, [vI x.kind, vS x.a, vS x.b, vI x.n]⟩]⟩ [] [] (by kernel_rfl) on wn ?_
    refine l_pure 94 [] [vS x.a] (.bool (mName x.a)) Try.call94 rfl rfl rfl rfl (fun bs w hS => ref_NameMay _ w (And.left okx)) ?_
    refine JL_run 2 [] [11, 1] 1 ⟨[(11, vB (!(mName x.a))), (1, .p 0 0)], [⟨26, [vI x.kind, vS x.a, vS x.b, vI x.n]⟩]⟩ [] [] (by kernel_rfl) on wn ?_
    cases h2 : mName x.a with
    | true =>
      refine JL_run 4 [] [15, 11, 1] 1 ⟨[(15, vB (!(decide (x.b = emp)))), (11, vB false), (1, .p 0 0)], [⟨26, [vI x.kind, vS x.a, vS x.b, vI x.n]⟩]⟩ [] [] (by kernel_rfl) on wn ?_
      cases h3 : decide (x.b = emp) with
      | true =>
        have h3 := of_decide_eq_true h3
        have hzh3 : x.b.size = 0 := by rw [h3]; rfl
        refine JL_run 5 [] [20, 1] 1 ⟨[(20, vB false), (1, .p 0 0)], [⟨26, [vI x.kind, vS x.a, vS x.b, vI x.n]⟩]⟩ [] [] (by kernel_rfl) on wn ?_
        refine l_nil (q_then_normal ?_)
        refine c_if false rfl ?_
        refine c_skip ?_
        refine q_then_normal ?_
        refine c_seq ?_
        refine c_seq ?_
        refine c_region ?_
        refine JL_run 4 [] [24, 1] 1 ⟨[(24, vB (decide ((12 : Int) < (x.b.size : Int)))), (1, .p 0 0)], [⟨26, [vI x.kind, vS x.a, vS x.b, vI x.n]⟩]⟩ [] [] (by kernel_rfl) on wn ?_
        refine l_nil (q_then_normal ?_)
        cases h4 : decide ((12 : Int) < (x.b.size : Int)) with
        | true =>
          have h4 := of_decide_eq_true h4
          refine c_if true rfl ?_
          refine c_seq ?_
          refine c_region ?_
          refine JL_run 1 [] [2] 0 ⟨[(2, vI 1)], []⟩ [] [] (by kernel_rfl) on wn ?_
          refine l_nil (q_then_normal ?_)
          refine c_ret ?_
          refine q_then_ret (q_ret (.inl rfl) [vI 1] rfl (fun bs w hS => ?_))
          refine ⟨?_, hS.kp⟩
          simp only [retOf, den, List.map_cons, List.map_nil]
          unfold mOp
          try simp only [h1, h2, h3, h4, emp_size, ne_eq, not_true_eq_false, not_false_eq_true, true_or, or_true, false_or, or_false, and_true, true_and, and_false, false_and, and_self, or_self, if_true, if_false, Bool.true_eq_false, Bool.false_eq_true, reduceIte, Classical.not_not, Bool.and_eq_true, decide_eq_true_eq]
          repeat (first | rw [if_pos (by omega)] | rw [if_neg (by omega)])
          all_goals first | rfl | (exfalso; omega)
        | false =>
          have h4 := of_decide_eq_false h4
          refine c_if false rfl ?_
          refine c_skip ?_
          refine q_then_normal ?_
          refine c_seq ?_
          refine c_seq ?_
          refine c_region ?_
          refine JL_run 3 [] [27, 1] 1 ⟨[(27, vB (decide (x.kind = 5))), (1, .p 0 0)], [⟨26, [vI x.kind, vS x.a, vS x.b, vI x.n]⟩]⟩ [] [] (by kernel_rfl) on wn ?_
          refine l_nil (q_then_normal ?_)
          cases h5 : decide (x.kind = 5) with
          | true =>
            have h5 := of_decide_eq_true h5
            refine c_if true rfl ?_
            refine c_seq ?_
            refine c_region ?_
            refine JL_run 2 [] [29] 0 ⟨[(29, vI x.n)], []⟩ [] [] (by kernel_rfl) on wn ?_
            refine l_pure 68 [] [vI x.n, vI 1, vI 1073741824] (.bool (inB x.n 1 1073741824)) Try.call68 rfl rfl rfl rfl (fun bs w hS => ref_In _ _ _ w) ?_
            refine JL_run 1 [] [31] 0 ⟨[(31, vB (!(inB x.n 1 1073741824)))], []⟩ [] [] (by kernel_rfl) on wn ?_
            refine l_nil (q_then_normal ?_)
            cases h6 : inB x.n 1 1073741824 with
            | true =>
              simp only [inB, Bool.and_eq_true, Bool.and_eq_false_iff, decide_eq_true_eq, decide_eq_false_iff_not] at h6
              refine c_if false rfl ?_
              refine c_skip ?_
              refine q_then_normal ?_
              refine c_seq ?_
              refine c_region ?_
              refine JL_run 1 [] [2] 0 ⟨[(2, vI 0)], []⟩ [] [] (by kernel_rfl) on wn ?_
              refine l_nil (q_then_normal ?_)
              refine c_ret ?_
              refine q_ret (.inl rfl) [vI 0] rfl (fun bs w hS => ?_)
              refine ⟨?_, hS.kp⟩
              simp only [retOf, den, List.map_cons, List.map_nil]
              unfold mOp
              try simp only [h1, h2, h3, h4, h5, h6, emp_size, ne_eq, not_true_eq_false, not_false_eq_true, true_or, or_true, false_or, or_false, and_true, true_and, and_false, false_and, and_self, or_self, if_true, if_false, Bool.true_eq_false, Bool.false_eq_true, reduceIte, Classical.not_not, Bool.and_eq_true, decide_eq_true_eq]
              repeat (first | rw [if_pos (by omega)] | rw [if_neg (by omega)])
              all_goals first | rfl | (exfalso; omega)
            | false =>
              simp only [inB, Bool.and_eq_true, Bool.and_eq_false_iff, decide_eq_true_eq, decide_eq_false_iff_not] at h6
              refine c_if true rfl ?_
              refine c_seq ?_
              refine c_region ?_
              refine JL_run 1 [] [2] 0 ⟨[(2, vI 2)], []⟩ [] [] (by kernel_rfl) on wn ?_
              refine l_nil (q_then_normal ?_)
              refine c_ret ?_
              refine q_then_ret (q_ret (.inl rfl) [vI 2] rfl (fun bs w hS => ?_))
              refine ⟨?_, hS.kp⟩
              simp only [retOf, den, List.map_cons, List.map_nil]
              unfold mOp
              try simp only [h1, h2, h3, h4, h5, h6, emp_size, ne_eq, not_true_eq_false, not_false_eq_true, true_or, or_true, false_or, or_false, and_true, true_and, and_false, false_and, and_self, or_self, if_true, if_false, Bool.true_eq_false, Bool.false_eq_true, reduceIte, Classical.not_not, Bool.and_eq_true, decide_eq_true_eq]
              repeat (first | rw [if_pos (by omega)] | rw [if_neg (by omega)])
              all_goals first | rfl | (exfalso; omega)
          | false =>
            have h5 := of_decide_eq_false h5
            refine c_if false rfl ?_
            refine c_seq ?_
            refine c_region ?_
            refine JL_run 3 [] [34] 0 ⟨[(34, vB (!(decide (x.n = 0))))], []⟩ [] [] (by kernel_rfl) on wn ?_
            refine l_nil (q_then_normal ?_)
            cases h7 : decide (x.n = 0) with
            | true =>
              have h7 := of_decide_eq_true h7
              refine c_if false rfl ?_
              refine c_skip ?_
              refine q_then_normal ?_
              refine c_seq ?_
              refine c_region ?_
              refine JL_run 1 [] [2] 0 ⟨[(2, vI 0)], []⟩ [] [] (by kernel_rfl) on wn ?_
              refine l_nil (q_then_normal ?_)
              refine c_ret ?_
              refine q_ret (.inl rfl) [vI 0] rfl (fun bs w hS => ?_)
              refine ⟨?_, hS.kp⟩
              simp only [retOf, den, List.map_cons, List.map_nil]
              unfold mOp
              try simp only [h1, h2, h3, h4, h5, h7, emp_size, ne_eq, not_true_eq_false, not_false_eq_true, true_or, or_true, false_or, or_false, and_true, true_and, and_false, false_and, and_self, or_self, if_true, if_false, Bool.true_eq_false, Bool.false_eq_true, reduceIte, Classical.not_not, Bool.and_eq_true, decide_eq_true_eq]
              repeat (first | rw [if_pos (by omega)] | rw [if_neg (by omega)])
              all_goals first | rfl | (exfalso; omega)
            | false =>
              have h7 := of_decide_eq_false h7
              refine c_if true rfl ?_
              refine c_seq ?_
              refine c_region ?_
              refine JL_run 1 [] [2] 0 ⟨[(2, vI 2)], []⟩ [] [] (by kernel_rfl) on wn ?_
              refine l_nil (q_then_normal ?_)
              refine c_ret ?_
              refine q_then_ret (q_ret (.inl rfl) [vI 2] rfl (fun bs w hS => ?_))
              refine ⟨?_, hS.kp⟩
              simp only [retOf, den, List.map_cons, List.map_nil]
              unfold mOp
              try simp only [h1, h2, h3, h4, h5, h7, emp_size, ne_eq, not_true_eq_false, not_false_eq_true, true_or, or_true, false_or, or_false, and_true, true_and, and_false, false_and, and_self, or_self, if_true, if_false, Bool.true_eq_false, Bool.false_eq_true, reduceIte, Classical.not_not, Bool.and_eq_true, decide_eq_true_eq]
              repeat (first | rw [if_pos (by omega)] | rw [if_neg (by omega)])
              all_goals first | rfl | (exfalso; omega)
      | false =>
        have h3 := of_decide_eq_false h3
        refine JL_run 5 [] [20, 1] 1 ⟨[(20, vB (!(decide (x.kind = 5)))), (1, .p 0 0)], [⟨26, [vI x.kind, vS x.a, vS x.b, vI x.n]⟩]⟩ [] [] (by kernel_rfl) on wn ?_
        refine l_nil (q_then_normal ?_)
        cases h8 : decide (x.kind = 5) with
        | true =>
          have h8 := of_decide_eq_true h8
          refine c_if false rfl ?_
          refine c_skip ?_
          refine q_then_normal ?_
          refine c_seq ?_
          refine c_seq ?_
          refine c_region ?_
          refine JL_run 4 [] [24, 1] 1 ⟨[(24, vB (decide ((12 : Int) < (x.b.size : Int)))), (1, .p 0 0)], [⟨26, [vI x.kind, vS x.a, vS x.b, vI x.n]⟩]⟩ [] [] (by kernel_rfl) on wn ?_
          refine l_nil (q_then_normal ?_)
          cases h9 : decide ((12 : Int) < (x.b.size : Int)) with
          | true =>
            have h9 := of_decide_eq_true h9
            refine c_if true rfl ?_
            refine c_seq ?_
            refine c_region ?_
            refine JL_run 1 [] [2] 0 ⟨[(2, vI 1)], []⟩ [] [] (by kernel_rfl) on wn ?_
            refine l_nil (q_then_normal ?_)
            refine c_ret ?_
            refine q_then_ret (q_ret (.inl rfl) [vI 1] rfl (fun bs w hS => ?_))
            refine ⟨?_, hS.kp⟩
            simp only [retOf, den, List.map_cons, List.map_nil]
            unfold mOp
            try simp only [h1, h2, h3, h8, h9, emp_size, ne_eq, not_true_eq_false, not_false_eq_true, true_or, or_true, false_or, or_false, and_true, true_and, and_false, false_and, and_self, or_self, if_true, if_false, Bool.true_eq_false, Bool.false_eq_true, reduceIte, Classical.not_not, Bool.and_eq_true, decide_eq_true_eq]
            repeat (first | rw [if_pos (by omega)] | rw [if_neg (by omega)])
            all_goals first | rfl | (exfalso; omega)
          | false =>
            have h9 := of_decide_eq_false h9
            refine c_if false rfl ?_
            refine c_skip ?_
            refine q_then_normal ?_
            refine c_seq ?_
            refine c_seq ?_
            refine c_region ?_
            refine JL_run 3 [] [27, 1] 1 ⟨[(27, vB (decide (x.kind = 5))), (1, .p 0 0)], [⟨26, [vI x.kind, vS x.a, vS x.b, vI x.n]⟩]⟩ [] [] (by kernel_rfl) on wn ?_
            refine l_nil (q_then_normal ?_)
            cases h10 : decide (x.kind = 5) with
            | true =>
              have h10 := of_decide_eq_true h10
              refine c_if true rfl ?_
              refine c_seq ?_
              refine c_region ?_
              refine JL_run 2 [] [29] 0 ⟨[(29, vI x.n)], []⟩ [] [] (by kernel_rfl) on wn ?_
              refine l_pure 68 [] [vI x.n, vI 1, vI 1073741824] (.bool (inB x.n 1 1073741824)) Try.call68 rfl rfl rfl rfl (fun bs w hS => ref_In _ _ _ w) ?_
              refine JL_run 1 [] [31] 0 ⟨[(31, vB (!(inB x.n 1 1073741824)))], []⟩ [] [] (by kernel_rfl) on wn ?_
              refine l_nil (q_then_normal ?_)
              cases h11 : inB x.n 1 1073741824 with
              | true =>
                simp only [inB, Bool.and_eq_true, Bool.and_eq_false_iff, decide_eq_true_eq, decide_eq_false_iff_not] at h11
                refine c_if false rfl ?_
                refine c_skip ?_
                refine q_then_normal ?_
                refine c_seq ?_
                refine c_region ?_
                refine JL_run 1 [] [2] 0 ⟨[(2, vI 0)], []⟩ [] [] (by kernel_rfl) on wn ?_
                refine l_nil (q_then_normal ?_)
                refine c_ret ?_
                refine q_ret (.inl rfl) [vI 0] rfl (fun bs w hS => ?_)
                refine ⟨?_, hS.kp⟩
                simp only [retOf, den, List.map_cons, List.map_nil]
                unfold mOp
                try simp only [h1, h2, h3, h8, h9, h10, h11, emp_size, ne_eq, not_true_eq_false, not_false_eq_true, true_or, or_true, false_or, or_false, and_true, true_and, and_false, false_and, and_self, or_self, if_true, if_false, Bool.true_eq_false, Bool.false_eq_true, reduceIte, Classical.not_not, Bool.and_eq_true, decide_eq_true_eq]
                repeat (first | rw [if_pos (by omega)] | rw [if_neg (by omega)])
                all_goals first | rfl | (exfalso; omega)
              | false =>
                simp only [inB, Bool.and_eq_true, Bool.and_eq_false_iff, decide_eq_true_eq, decide_eq_false_iff_not] at h11
                refine c_if true rfl ?_
                refine c_seq ?_
                refine c_region ?_
                refine JL_run 1 [] [2] 0 ⟨[(2, vI 2)], []⟩ [] [] (by kernel_rfl) on wn ?_
                refine l_nil (q_then_normal ?_)
                refine c_ret ?_
                refine q_then_ret (q_ret (.inl rfl) [vI 2] rfl (fun bs w hS => ?_))
                refine ⟨?_, hS.kp⟩
                simp only [retOf, den, List.map_cons, List.map_nil]
                unfold mOp
                try simp only [h1, h2, h3, h8, h9, h10, h11, emp_size, ne_eq, not_true_eq_false, not_false_eq_true, true_or, or_true, false_or, or_false, and_true, true_and, and_false, false_and, and_self, or_self, if_true, if_false, Bool.true_eq_false, Bool.false_eq_true, reduceIte, Classical.not_not, Bool.and_eq_true, decide_eq_true_eq]
                repeat (first | rw [if_pos (by omega)] | rw [if_neg (by omega)])
                all_goals first | rfl | (exfalso; omega)
            | false =>
              have h10 := of_decide_eq_false h10
              exact absurd h8 h10
        | false =>
          have h8 := of_decide_eq_false h8
          refine c_if true rfl ?_
          refine c_seq ?_
          refine c_region ?_
          refine JL_run 1 [] [2] 0 ⟨[(2, vI 4)], []⟩ [] [] (by kernel_rfl) on wn ?_
          refine l_nil (q_then_normal ?_)
          refine c_ret ?_
          refine q_then_ret (q_ret (.inl rfl) [vI 4] rfl (fun bs w hS => ?_))
          refine ⟨?_, hS.kp⟩
          simp only [retOf, den, List.map_cons, List.map_nil]
          unfold mOp
          try simp only [h1, h2, h3, h8, emp_size, ne_eq, not_true_eq_false, not_false_eq_true, true_or, or_true, false_or, or_false, and_true, true_and, and_false, false_and, and_self, or_self, if_true, if_false, Bool.true_eq_false, Bool.false_eq_true, reduceIte, Classical.not_not, Bool.and_eq_true, decide_eq_true_eq]
          repeat (first | rw [if_pos (by omega)] | rw [if_neg (by omega)])
          all_goals first | rfl | (exfalso; omega)
    | false =>
      refine JL_run 9 [] [20, 1] 1 ⟨[(20, vB true), (1, .p 0 0)], [⟨26, [vI x.kind, vS x.a, vS x.b, vI x.n]⟩]⟩ [] [] (by kernel_rfl) on wn ?_
      refine l_nil (q_then_normal ?_)
      refine c_if true rfl ?_
      refine c_seq ?_
      refine c_region ?_
      refine JL_run 1 [] [2] 0 ⟨[(2, vI 4)], []⟩ [] [] (by kernel_rfl) on wn ?_
      refine l_nil (q_then_normal ?_)
      refine c_ret ?_
      refine q_then_ret (q_ret (.inl rfl) [vI 4] rfl (fun bs w hS => ?_))
      refine ⟨?_, hS.kp⟩
      simp only [retOf, den, List.map_cons, List.map_nil]
      unfold mOp
      try simp only [h1, h2, emp_size, ne_eq, not_true_eq_false, not_false_eq_true, true_or, or_true, false_or, or_false, and_true, true_and, and_false, false_and, and_self, or_self, if_true, if_false, Bool.true_eq_false, Bool.false_eq_true, reduceIte, Classical.not_not, Bool.and_eq_true, decide_eq_true_eq]
      repeat (first | rw [if_pos (by omega)] | rw [if_neg (by omega)])
      all_goals first | rfl | (exfalso; omega)
  | false =>
    simp only [inB, Bool.and_eq_true, Bool.and_eq_false_iff, decide_eq_true_eq, decide_eq_false_iff_not] at h1
    refine c_if true rfl ?_
    refine c_seq ?_
    refine c_region ?_
    refine JL_run 1 [] [2] 0 ⟨[(2, vI 3)], []⟩ [] [] (by kernel_rfl) on wn ?_
    refine l_nil (q_then_normal ?_)
    refine c_ret ?_
    refine q_then_ret (q_ret (.inl rfl) [vI 3] rfl (fun bs w hS => ?_))
    refine ⟨?_, hS.kp⟩
    simp only [retOf, den, List.map_cons, List.map_nil]
    unfold mOp
    try simp only [h1, emp_size, ne_eq, not_true_eq_false, not_false_eq_true, true_or, or_true, false_or, or_false, and_true, true_and, and_false, false_and, and_self, or_self, if_true, if_false, Bool.true_eq_false, Bool.false_eq_true, reduceIte, Classical.not_not, Bool.and_eq_true, decide_eq_true_eq]
    repeat (first | rw [if_pos (by omega)] | rw [if_neg (by omega)])
    all_goals first | rfl | (exfalso; omega)

theorem command_Check {B : Nat → Prop} (x : DCommand) (w : World) (hx : Rds.sub B w x) : Calls Try.prog 82 #[.agg #[.int .i64 x.kind, .int .i64 x.client, .int .i64 x.session, .int .i64 x.seq, .int .i64 x.acked, .int .i64 x.op.kind, .string x.op.a, .string x.op.b, .int .i64 x.op.n]] w fun e w' => e = .returned (.int .i64 (mCmd x)) ∧ Kp [] w w' := by
  have okx := Rds.okof hx
  refine calls_J0 74 Try.func82 rfl rfl [.agg #[.int .i64 x.kind, .int .i64 x.client, .int .i64 x.session, .int .i64 x.seq, .int .i64 x.acked, .int .i64 x.op.kind, .string x.op.a, .string x.op.b, .int .i64 x.op.n]] rfl ?_
  refine c_seq ?_
  refine c_region ?_
  refine JL_run 2 [] [1] 1 ⟨[(1, .p 0 0)], [⟨63, [vI x.kind, vI x.client, vI x.session, vI x.seq, vI x.acked, vI x.op.kind, vS x.op.a, vS x.op.b, vI x.op.n]⟩]⟩ [] [] (by kernel_rfl) on wn ?_
  refine l_nil (q_then_normal ?_)
  refine c_seq ?_
  refine c_seq ?_
  refine c_region ?_
  refine JL_run 4 [] [6, 1] 1 ⟨[(6, vB (decide (x.kind < 1))), (1, .p 0 0)], [⟨63, [vI x.kind, vI x.client, vI x.session, vI x.seq, vI x.acked, vI x.op.kind, vS x.op.a, vS x.op.b, vI x.op.n]⟩]⟩ [] [] (by kernel_rfl) on wn ?_
  cases h1 : decide (x.kind < 1) with
  | true =>
    have h1 := of_decide_eq_true h1
    refine JL_run 4 [] [10, 1] 1 ⟨[(10, vB true), (1, .p 0 0)], [⟨63, [vI x.kind, vI x.client, vI x.session, vI x.seq, vI x.acked, vI x.op.kind, vS x.op.a, vS x.op.b, vI x.op.n]⟩]⟩ [] [] (by kernel_rfl) on wn ?_
    refine l_nil (q_then_normal ?_)
    refine c_if true rfl ?_
    refine c_seq ?_
    refine c_region ?_
    refine JL_run 1 [] [2] 0 ⟨[(2, vI 3)], []⟩ [] [] (by kernel_rfl) on wn ?_
    refine l_nil (q_then_normal ?_)
    refine c_ret ?_
    refine q_then_ret (q_ret (.inl rfl) [vI 3] rfl (fun bs w hS => ?_))
    refine ⟨?_, hS.kp⟩
    simp only [retOf, den, List.map_cons, List.map_nil]
    unfold mCmd
    try simp only [h1, emp_size, ne_eq, not_true_eq_false, not_false_eq_true, true_or, or_true, false_or, or_false, and_true, true_and, and_false, false_and, and_self, or_self, if_true, if_false, Bool.true_eq_false, Bool.false_eq_true, reduceIte, Classical.not_not, Bool.and_eq_true, decide_eq_true_eq]
    repeat (first | rw [if_pos (by omega)] | rw [if_neg (by omega)])
    all_goals first | rfl | (exfalso; omega)
  | false =>
    have h1 := of_decide_eq_false h1
    refine JL_run 4 [] [10, 1] 1 ⟨[(10, vB (decide ((3 : Int) < x.kind))), (1, .p 0 0)], [⟨63, [vI x.kind, vI x.client, vI x.session, vI x.seq, vI x.acked, vI x.op.kind, vS x.op.a, vS x.op.b, vI x.op.n]⟩]⟩ [] [] (by kernel_rfl) on wn ?_
    refine l_nil (q_then_normal ?_)
    cases h2 : decide ((3 : Int) < x.kind) with
    | true =>
      have h2 := of_decide_eq_true h2
      refine c_if true rfl ?_
      refine c_seq ?_
      refine c_region ?_
      refine JL_run 1 [] [2] 0 ⟨[(2, vI 3)], []⟩ [] [] (by kernel_rfl) on wn ?_
      refine l_nil (q_then_normal ?_)
      refine c_ret ?_
      refine q_then_ret (q_ret (.inl rfl) [vI 3] rfl (fun bs w hS => ?_))
      refine ⟨?_, hS.kp⟩
      simp only [retOf, den, List.map_cons, List.map_nil]
      unfold mCmd
      try simp only [h1, h2, emp_size, ne_eq, not_true_eq_false, not_false_eq_true, true_or, or_true, false_or, or_false, and_true, true_and, and_false, false_and, and_self, or_self, if_true, if_false, Bool.true_eq_false, Bool.false_eq_true, reduceIte, Classical.not_not, Bool.and_eq_true, decide_eq_true_eq]
      repeat (first | rw [if_pos (by omega)] | rw [if_neg (by omega)])
      all_goals first | rfl | (exfalso; omega)
    | false =>
      have h2 := of_decide_eq_false h2
      refine c_if false rfl ?_
      refine c_skip ?_
      refine q_then_normal ?_
      refine c_seq ?_
      refine c_seq ?_
      refine c_region ?_
      refine JL_run 4 [] [14, 1] 1 ⟨[(14, vB (decide (x.client < 1))), (1, .p 0 0)], [⟨63, [vI x.kind, vI x.client, vI x.session, vI x.seq, vI x.acked, vI x.op.kind, vS x.op.a, vS x.op.b, vI x.op.n]⟩]⟩ [] [] (by kernel_rfl) on wn ?_
      cases h3 : decide (x.client < 1) with
      | true =>
        have h3 := of_decide_eq_true h3
        refine JL_run 4 [] [18, 1] 1 ⟨[(18, vB true), (1, .p 0 0)], [⟨63, [vI x.kind, vI x.client, vI x.session, vI x.seq, vI x.acked, vI x.op.kind, vS x.op.a, vS x.op.b, vI x.op.n]⟩]⟩ [] [] (by kernel_rfl) on wn ?_
        refine l_nil (q_then_normal ?_)
        refine c_if true rfl ?_
        refine c_seq ?_
        refine c_region ?_
        refine JL_run 1 [] [2] 0 ⟨[(2, vI 2)], []⟩ [] [] (by kernel_rfl) on wn ?_
        refine l_nil (q_then_normal ?_)
        refine c_ret ?_
        refine q_then_ret (q_ret (.inl rfl) [vI 2] rfl (fun bs w hS => ?_))
        refine ⟨?_, hS.kp⟩
        simp only [retOf, den, List.map_cons, List.map_nil]
        unfold mCmd
        try simp only [h1, h2, h3, emp_size, ne_eq, not_true_eq_false, not_false_eq_true, true_or, or_true, false_or, or_false, and_true, true_and, and_false, false_and, and_self, or_self, if_true, if_false, Bool.true_eq_false, Bool.false_eq_true, reduceIte, Classical.not_not, Bool.and_eq_true, decide_eq_true_eq]
        repeat (first | rw [if_pos (by omega)] | rw [if_neg (by omega)])
        all_goals first | rfl | (exfalso; omega)
      | false =>
        have h3 := of_decide_eq_false h3
        refine JL_run 4 [] [18, 1] 1 ⟨[(18, vB (decide ((9 : Int) < x.client))), (1, .p 0 0)], [⟨63, [vI x.kind, vI x.client, vI x.session, vI x.seq, vI x.acked, vI x.op.kind, vS x.op.a, vS x.op.b, vI x.op.n]⟩]⟩ [] [] (by kernel_rfl) on wn ?_
        refine l_nil (q_then_normal ?_)
        cases h4 : decide ((9 : Int) < x.client) with
        | true =>
          have h4 := of_decide_eq_true h4
          refine c_if true rfl ?_
          refine c_seq ?_
          refine c_region ?_
          refine JL_run 1 [] [2] 0 ⟨[(2, vI 2)], []⟩ [] [] (by kernel_rfl) on wn ?_
          refine l_nil (q_then_normal ?_)
          refine c_ret ?_
          refine q_then_ret (q_ret (.inl rfl) [vI 2] rfl (fun bs w hS => ?_))
          refine ⟨?_, hS.kp⟩
          simp only [retOf, den, List.map_cons, List.map_nil]
          unfold mCmd
          try simp only [h1, h2, h3, h4, emp_size, ne_eq, not_true_eq_false, not_false_eq_true, true_or, or_true, false_or, or_false, and_true, true_and, and_false, false_and, and_self, or_self, if_true, if_false, Bool.true_eq_false, Bool.false_eq_true, reduceIte, Classical.not_not, Bool.and_eq_true, decide_eq_true_eq]
          repeat (first | rw [if_pos (by omega)] | rw [if_neg (by omega)])
          all_goals first | rfl | (exfalso; omega)
        | false =>
          have h4 := of_decide_eq_false h4
          refine c_if false rfl ?_
          refine c_skip ?_
          refine q_then_normal ?_
          refine c_seq ?_
          refine c_seq ?_
          refine c_region ?_
          refine JL_run 3 [] [21, 1] 1 ⟨[(21, vB (!(decide (x.kind = 2)))), (1, .p 0 0)], [⟨63, [vI x.kind, vI x.client, vI x.session, vI x.seq, vI x.acked, vI x.op.kind, vS x.op.a, vS x.op.b, vI x.op.n]⟩]⟩ [] [] (by kernel_rfl) on wn ?_
          refine l_nil (q_then_normal ?_)
          cases h5 : decide (x.kind = 2) with
          | true =>
            have h5 := of_decide_eq_true h5
            refine c_if false rfl ?_
            refine c_skip ?_
            refine q_then_normal ?_
            refine c_seq ?_
            refine c_seq ?_
            refine c_region ?_
            refine JL_run 4 [] [44, 1] 1 ⟨[(44, vB (decide (x.session < 1))), (1, .p 0 0)], [⟨63, [vI x.kind, vI x.client, vI x.session, vI x.seq, vI x.acked, vI x.op.kind, vS x.op.a, vS x.op.b, vI x.op.n]⟩]⟩ [] [] (by kernel_rfl) on wn ?_
            cases h6 : decide (x.session < 1) with
            | true =>
              have h6 := of_decide_eq_true h6
              refine JL_run 26 [] [70, 1] 1 ⟨[(70, vB true), (1, .p 0 0)], [⟨63, [vI x.kind, vI x.client, vI x.session, vI x.seq, vI x.acked, vI x.op.kind, vS x.op.a, vS x.op.b, vI x.op.n]⟩]⟩ [] [] (by kernel_rfl) on wn ?_
              refine l_nil (q_then_normal ?_)
              refine c_if true rfl ?_
              refine c_seq ?_
              refine c_region ?_
              refine JL_run 1 [] [2] 0 ⟨[(2, vI 2)], []⟩ [] [] (by kernel_rfl) on wn ?_
              refine l_nil (q_then_normal ?_)
              refine c_ret ?_
              refine q_then_ret (q_ret (.inl rfl) [vI 2] rfl (fun bs w hS => ?_))
              refine ⟨?_, hS.kp⟩
              simp only [retOf, den, List.map_cons, List.map_nil]
              unfold mCmd
              try simp only [h1, h2, h3, h4, h5, h6, emp_size, ne_eq, not_true_eq_false, not_false_eq_true, true_or, or_true, false_or, or_false, and_true, true_and, and_false, false_and, and_self, or_self, if_true, if_false, Bool.true_eq_false, Bool.false_eq_true, reduceIte, Classical.not_not, Bool.and_eq_true, decide_eq_true_eq]
              repeat (first | rw [if_pos (by omega)] | rw [if_neg (by omega)])
              all_goals first | rfl | (exfalso; omega)
            | false =>
              have h6 := of_decide_eq_false h6
              refine JL_run 5 [] [49, 1] 1 ⟨[(49, vB (decide ((1073741824 : Int) < x.session))), (1, .p 0 0)], [⟨63, [vI x.kind, vI x.client, vI x.session, vI x.seq, vI x.acked, vI x.op.kind, vS x.op.a, vS x.op.b, vI x.op.n]⟩]⟩ [] [] (by kernel_rfl) on wn ?_
              cases h7 : decide ((1073741824 : Int) < x.session) with
              | true =>
                have h7 := of_decide_eq_true h7
                refine JL_run 21 [] [70, 1] 1 ⟨[(70, vB true), (1, .p 0 0)], [⟨63, [vI x.kind, vI x.client, vI x.session, vI x.seq, vI x.acked, vI x.op.kind, vS x.op.a, vS x.op.b, vI x.op.n]⟩]⟩ [] [] (by kernel_rfl) on wn ?_
                refine l_nil (q_then_normal ?_)
                refine c_if true rfl ?_
                refine c_seq ?_
                refine c_region ?_
                refine JL_run 1 [] [2] 0 ⟨[(2, vI 2)], []⟩ [] [] (by kernel_rfl) on wn ?_
                refine l_nil (q_then_normal ?_)
                refine c_ret ?_
                refine q_then_ret (q_ret (.inl rfl) [vI 2] rfl (fun bs w hS => ?_))
                refine ⟨?_, hS.kp⟩
                simp only [retOf, den, List.map_cons, List.map_nil]
                unfold mCmd
                try simp only [h1, h2, h3, h4, h5, h6, h7, emp_size, ne_eq, not_true_eq_false, not_false_eq_true, true_or, or_true, false_or, or_false, and_true, true_and, and_false, false_and, and_self, or_self, if_true, if_false, Bool.true_eq_false, Bool.false_eq_true, reduceIte, Classical.not_not, Bool.and_eq_true, decide_eq_true_eq]
                repeat (first | rw [if_pos (by omega)] | rw [if_neg (by omega)])
                all_goals first | rfl | (exfalso; omega)
              | false =>
                have h7 := of_decide_eq_false h7
                refine JL_run 5 [] [54, 1] 1 ⟨[(54, vB (decide (x.seq < 1))), (1, .p 0 0)], [⟨63, [vI x.kind, vI x.client, vI x.session, vI x.seq, vI x.acked, vI x.op.kind, vS x.op.a, vS x.op.b, vI x.op.n]⟩]⟩ [] [] (by kernel_rfl) on wn ?_
                cases h8 : decide (x.seq < 1) with
                | true =>
                  have h8 := of_decide_eq_true h8
                  refine JL_run 16 [] [70, 1] 1 ⟨[(70, vB true), (1, .p 0 0)], [⟨63, [vI x.kind, vI x.client, vI x.session, vI x.seq, vI x.acked, vI x.op.kind, vS x.op.a, vS x.op.b, vI x.op.n]⟩]⟩ [] [] (by kernel_rfl) on wn ?_
                  refine l_nil (q_then_normal ?_)
                  refine c_if true rfl ?_
                  refine c_seq ?_
                  refine c_region ?_
                  refine JL_run 1 [] [2] 0 ⟨[(2, vI 2)], []⟩ [] [] (by kernel_rfl) on wn ?_
                  refine l_nil (q_then_normal ?_)
                  refine c_ret ?_
                  refine q_then_ret (q_ret (.inl rfl) [vI 2] rfl (fun bs w hS => ?_))
                  refine ⟨?_, hS.kp⟩
                  simp only [retOf, den, List.map_cons, List.map_nil]
                  unfold mCmd
                  try simp only [h1, h2, h3, h4, h5, h6, h7, h8, emp_size, ne_eq, not_true_eq_false, not_false_eq_true, true_or, or_true, false_or, or_false, and_true, true_and, and_false, false_and, and_self, or_self, if_true, if_false, Bool.true_eq_false, Bool.false_eq_true, reduceIte, Classical.not_not, Bool.and_eq_true, decide_eq_true_eq]
                  repeat (first | rw [if_pos (by omega)] | rw [if_neg (by omega)])
                  all_goals first | rfl | (exfalso; omega)
                | false =>
                  have h8 := of_decide_eq_false h8
                  refine JL_run 5 [] [59, 1] 1 ⟨[(59, vB (decide ((1048576 : Int) < x.seq))), (1, .p 0 0)], [⟨63, [vI x.kind, vI x.client, vI x.session, vI x.seq, vI x.acked, vI x.op.kind, vS x.op.a, vS x.op.b, vI x.op.n]⟩]⟩ [] [] (by kernel_rfl) on wn ?_
                  cases h9 : decide ((1048576 : Int) < x.seq) with
                  | true =>
                    have h9 := of_decide_eq_true h9
                    refine JL_run 11 [] [70, 1] 1 ⟨[(70, vB true), (1, .p 0 0)], [⟨63, [vI x.kind, vI x.client, vI x.session, vI x.seq, vI x.acked, vI x.op.kind, vS x.op.a, vS x.op.b, vI x.op.n]⟩]⟩ [] [] (by kernel_rfl) on wn ?_
                    refine l_nil (q_then_normal ?_)
                    refine c_if true rfl ?_
                    refine c_seq ?_
                    refine c_region ?_
                    refine JL_run 1 [] [2] 0 ⟨[(2, vI 2)], []⟩ [] [] (by kernel_rfl) on wn ?_
                    refine l_nil (q_then_normal ?_)
                    refine c_ret ?_
                    refine q_then_ret (q_ret (.inl rfl) [vI 2] rfl (fun bs w hS => ?_))
                    refine ⟨?_, hS.kp⟩
                    simp only [retOf, den, List.map_cons, List.map_nil]
                    unfold mCmd
                    try simp only [h1, h2, h3, h4, h5, h6, h7, h8, h9, emp_size, ne_eq, not_true_eq_false, not_false_eq_true, true_or, or_true, false_or, or_false, and_true, true_and, and_false, false_and, and_self, or_self, if_true, if_false, Bool.true_eq_false, Bool.false_eq_true, reduceIte, Classical.not_not, Bool.and_eq_true, decide_eq_true_eq]
                    repeat (first | rw [if_pos (by omega)] | rw [if_neg (by omega)])
                    all_goals first | rfl | (exfalso; omega)
                  | false =>
                    have h9 := of_decide_eq_false h9
                    refine JL_run 5 [] [64, 1] 1 ⟨[(64, vB (decide (x.acked < 0))), (1, .p 0 0)], [⟨63, [vI x.kind, vI x.client, vI x.session, vI x.seq, vI x.acked, vI x.op.kind, vS x.op.a, vS x.op.b, vI x.op.n]⟩]⟩ [] [] (by kernel_rfl) on wn ?_
                    cases h10 : decide (x.acked < 0) with
                    | true =>
                      have h10 := of_decide_eq_true h10
                      refine JL_run 6 [] [70, 1] 1 ⟨[(70, vB true), (1, .p 0 0)], [⟨63, [vI x.kind, vI x.client, vI x.session, vI x.seq, vI x.acked, vI x.op.kind, vS x.op.a, vS x.op.b, vI x.op.n]⟩]⟩ [] [] (by kernel_rfl) on wn ?_
                      refine l_nil (q_then_normal ?_)
                      refine c_if true rfl ?_
                      refine c_seq ?_
                      refine c_region ?_
                      refine JL_run 1 [] [2] 0 ⟨[(2, vI 2)], []⟩ [] [] (by kernel_rfl) on wn ?_
                      refine l_nil (q_then_normal ?_)
                      refine c_ret ?_
                      refine q_then_ret (q_ret (.inl rfl) [vI 2] rfl (fun bs w hS => ?_))
                      refine ⟨?_, hS.kp⟩
                      simp only [retOf, den, List.map_cons, List.map_nil]
                      unfold mCmd
                      try simp only [h1, h2, h3, h4, h5, h6, h7, h8, h9, h10, emp_size, ne_eq, not_true_eq_false, not_false_eq_true, true_or, or_true, false_or, or_false, and_true, true_and, and_false, false_and, and_self, or_self, if_true, if_false, Bool.true_eq_false, Bool.false_eq_true, reduceIte, Classical.not_not, Bool.and_eq_true, decide_eq_true_eq]
                      repeat (first | rw [if_pos (by omega)] | rw [if_neg (by omega)])
                      all_goals first | rfl | (exfalso; omega)
                    | false =>
                      have h10 := of_decide_eq_false h10
                      refine JL_run 6 [] [70, 1] 1 ⟨[(70, vB (decide (x.seq ≤ x.acked))), (1, .p 0 0)], [⟨63, [vI x.kind, vI x.client, vI x.session, vI x.seq, vI x.acked, vI x.op.kind, vS x.op.a, vS x.op.b, vI x.op.n]⟩]⟩ [] [] (by kernel_rfl) on wn ?_
                      refine l_nil (q_then_normal ?_)
                      cases h11 : decide (x.seq ≤ x.acked) with
                      | true =>
                        have h11 := of_decide_eq_true h11
                        refine c_if true rfl ?_
                        refine c_seq ?_
                        refine c_region ?_
                        refine JL_run 1 [] [2] 0 ⟨[(2, vI 2)], []⟩ [] [] (by kernel_rfl) on wn ?_
                        refine l_nil (q_then_normal ?_)
                        refine c_ret ?_
                        refine q_then_ret (q_ret (.inl rfl) [vI 2] rfl (fun bs w hS => ?_))
                        refine ⟨?_, hS.kp⟩
                        simp only [retOf, den, List.map_cons, List.map_nil]
                        unfold mCmd
                        try simp only [h1, h2, h3, h4, h5, h6, h7, h8, h9, h10, h11, emp_size, ne_eq, not_true_eq_false, not_false_eq_true, true_or, or_true, false_or, or_false, and_true, true_and, and_false, false_and, and_self, or_self, if_true, if_false, Bool.true_eq_false, Bool.false_eq_true, reduceIte, Classical.not_not, Bool.and_eq_true, decide_eq_true_eq]
                        repeat (first | rw [if_pos (by omega)] | rw [if_neg (by omega)])
                        all_goals first | rfl | (exfalso; omega)
                      | false =>
                        have h11 := of_decide_eq_false h11
                        refine c_if false rfl ?_
                        refine c_skip ?_
                        refine q_then_normal ?_
                        refine c_seq ?_
                        refine c_region ?_
                        refine JL_run 2 [] [72] 0 ⟨[(72, .v (.agg #[.int .i64 x.op.kind, .string x.op.a, .string x.op.b, .int .i64 x.op.n]))], []⟩ [] [] (by kernel_rfl) on wn ?_
                        refine l_pure 46 [] [.v (.agg #[.int .i64 x.op.kind, .string x.op.a, .string x.op.b, .int .i64 x.op.n])] (.int .i64 (mOp x.op)) Try.call46 rfl rfl rfl rfl (fun bs w hS => command_CheckOp (B := anyB) x.op w ⟨(And.left okx), (And.right okx)⟩) ?_
                        refine JL_run 1 [] [2] 0 ⟨[(2, vI (mOp x.op))], []⟩ [] [] (by kernel_rfl) on wn ?_
                        refine l_nil (q_then_normal ?_)
                        refine c_ret ?_
                        refine q_ret (.inl rfl) [vI (mOp x.op)] rfl (fun bs w hS => ?_)
                        refine ⟨?_, hS.kp⟩
                        simp only [retOf, den, List.map_cons, List.map_nil]
                        unfold mCmd
                        try simp only [h1, h2, h3, h4, h5, h6, h7, h8, h9, h10, h11, emp_size, ne_eq, not_true_eq_false, not_false_eq_true, true_or, or_true, false_or, or_false, and_true, true_and, and_false, false_and, and_self, or_self, if_true, if_false, Bool.true_eq_false, Bool.false_eq_true, reduceIte, Classical.not_not, Bool.and_eq_true, decide_eq_true_eq]
                        repeat (first | rw [if_pos (by omega)] | rw [if_neg (by omega)])
                        all_goals first | rfl | (exfalso; omega)
          | false =>
            have h5 := of_decide_eq_false h5
            refine c_if true rfl ?_
            refine c_seq ?_
            refine c_seq ?_
            refine c_region ?_
            refine JL_run 4 [] [25, 1] 1 ⟨[(25, vB (!(decide (x.session = 0)))), (1, .p 0 0)], [⟨63, [vI x.kind, vI x.client, vI x.session, vI x.seq, vI x.acked, vI x.op.kind, vS x.op.a, vS x.op.b, vI x.op.n]⟩]⟩ [] [] (by kernel_rfl) on wn ?_
            cases h12 : decide (x.session = 0) with
            | true =>
              have h12 := of_decide_eq_true h12
              refine JL_run 5 [] [30, 1] 1 ⟨[(30, vB (!(decide (x.seq = 0)))), (1, .p 0 0)], [⟨63, [vI x.kind, vI x.client, vI x.session, vI x.seq, vI x.acked, vI x.op.kind, vS x.op.a, vS x.op.b, vI x.op.n]⟩]⟩ [] [] (by kernel_rfl) on wn ?_
              cases h13 : decide (x.seq = 0) with
              | true =>
                have h13 := of_decide_eq_true h13
                refine JL_run 5 [] [35, 1] 1 ⟨[(35, vB (!(decide (x.acked = 0)))), (1, .p 0 0)], [⟨63, [vI x.kind, vI x.client, vI x.session, vI x.seq, vI x.acked, vI x.op.kind, vS x.op.a, vS x.op.b, vI x.op.n]⟩]⟩ [] [] (by kernel_rfl) on wn ?_
                cases h14 : decide (x.acked = 0) with
                | true =>
                  have h14 := of_decide_eq_true h14
                  refine JL_run 5 [(3, .val (.bool (!((decide (x.op.kind = 0)) && ((decide (x.op.a = emp)) && ((decide (x.op.b = emp)) && ((decide (x.op.n = 0)) && true)))))))] [40] 0 ⟨[(40, vB (!((decide (x.op.kind = 0)) && ((decide (x.op.a = emp)) && ((decide (x.op.b = emp)) && ((decide (x.op.n = 0)) && true))))))], []⟩ [∀ w, (do eqGuard .neq 26 (.tmp 37) (.tmp 38) (.agg #[.int .i64 x.op.kind, .string x.op.a, .string x.op.b, .int .i64 x.op.n]) (.agg #[.int .i64 0, .string emp, .string emp, .int .i64 0]); binOp .neq 26 (.agg #[.int .i64 x.op.kind, .string x.op.a, .string x.op.b, .int .i64 x.op.n]) (.agg #[.int .i64 0, .string emp, .string emp, .int .i64 0]) : Sem Value).run Try.prog w = .ok (.bool (!((decide (x.op.kind = 0)) && ((decide (x.op.a = emp)) && ((decide (x.op.b = emp)) && ((decide (x.op.n = 0)) && true)))))) w] [] (by kernel_rfl) (oc (neq_agg (by kernel_rfl) (by kernel_rfl)) on) wn ?_
                  refine l_nil (q_then_normal ?_)
                  cases h15 : (decide (x.op.kind = 0)) && ((decide (x.op.a = emp)) && ((decide (x.op.b = emp)) && ((decide (x.op.n = 0)) && true))) with
                  | true =>
                    simp only [Bool.and_eq_true, decide_eq_true_eq, and_true] at h15
                    refine c_if false rfl ?_
                    refine c_skip ?_
                    refine q_then_normal ?_
                    refine c_seq ?_
                    refine c_region ?_
                    refine JL_run 1 [] [2] 0 ⟨[(2, vI 0)], []⟩ [] [] (by kernel_rfl) on wn ?_
                    refine l_nil (q_then_normal ?_)
                    refine c_ret ?_
                    refine q_then_ret (q_ret (.inl rfl) [vI 0] rfl (fun bs w hS => ?_))
                    refine ⟨?_, hS.kp⟩
                    simp only [retOf, den, List.map_cons, List.map_nil]
                    unfold mCmd
                    try simp only [h1, h2, h3, h4, h5, h12, h13, h14, h15, emp_size, ne_eq, not_true_eq_false, not_false_eq_true, true_or, or_true, false_or, or_false, and_true, true_and, and_false, false_and, and_self, or_self, if_true, if_false, Bool.true_eq_false, Bool.false_eq_true, reduceIte, Classical.not_not, Bool.and_eq_true, decide_eq_true_eq]
                    repeat (first | rw [if_pos (by omega)] | rw [if_neg (by omega)])
                    all_goals first | rfl | (exfalso; omega)
                  | false =>
                    rw [Bool.eq_false_iff] at h15
                    simp only [ne_eq, Bool.and_eq_true, decide_eq_true_eq, and_true] at h15
                    refine c_if true rfl ?_
                    refine c_seq ?_
                    refine c_region ?_
                    refine JL_run 1 [] [2] 0 ⟨[(2, vI 4)], []⟩ [] [] (by kernel_rfl) on wn ?_
                    refine l_nil (q_then_normal ?_)
                    refine c_ret ?_
                    refine q_then_ret (q_then_ret (q_ret (.inl rfl) [vI 4] rfl (fun bs w hS => ?_)))
                    refine ⟨?_, hS.kp⟩
                    simp only [retOf, den, List.map_cons, List.map_nil]
                    unfold mCmd
                    try simp only [h1, h2, h3, h4, h5, h12, h13, h14, h15, emp_size, ne_eq, not_true_eq_false, not_false_eq_true, true_or, or_true, false_or, or_false, and_true, true_and, and_false, false_and, and_self, or_self, if_true, if_false, Bool.true_eq_false, Bool.false_eq_true, reduceIte, Classical.not_not, Bool.and_eq_true, decide_eq_true_eq]
                    repeat (first | rw [if_pos (by omega)] | rw [if_neg (by omega)])
                    all_goals first | rfl | (exfalso; omega)
                | false =>
                  have h14 := of_decide_eq_false h14
                  refine JL_run 5 [] [40] 0 ⟨[(40, vB true)], []⟩ [] [] (by kernel_rfl) on wn ?_
                  refine l_nil (q_then_normal ?_)
                  refine c_if true rfl ?_
                  refine c_seq ?_
                  refine c_region ?_
                  refine JL_run 1 [] [2] 0 ⟨[(2, vI 4)], []⟩ [] [] (by kernel_rfl) on wn ?_
                  refine l_nil (q_then_normal ?_)
                  refine c_ret ?_
                  refine q_then_ret (q_then_ret (q_ret (.inl rfl) [vI 4] rfl (fun bs w hS => ?_)))
                  refine ⟨?_, hS.kp⟩
                  simp only [retOf, den, List.map_cons, List.map_nil]
                  unfold mCmd
                  try simp only [h1, h2, h3, h4, h5, h12, h13, h14, emp_size, ne_eq, not_true_eq_false, not_false_eq_true, true_or, or_true, false_or, or_false, and_true, true_and, and_false, false_and, and_self, or_self, if_true, if_false, Bool.true_eq_false, Bool.false_eq_true, reduceIte, Classical.not_not, Bool.and_eq_true, decide_eq_true_eq]
                  repeat (first | rw [if_pos (by omega)] | rw [if_neg (by omega)])
                  all_goals first | rfl | (exfalso; omega)
              | false =>
                have h13 := of_decide_eq_false h13
                refine JL_run 10 [] [40] 0 ⟨[(40, vB true)], []⟩ [] [] (by kernel_rfl) on wn ?_
                refine l_nil (q_then_normal ?_)
                refine c_if true rfl ?_
                refine c_seq ?_
                refine c_region ?_
                refine JL_run 1 [] [2] 0 ⟨[(2, vI 4)], []⟩ [] [] (by kernel_rfl) on wn ?_
                refine l_nil (q_then_normal ?_)
                refine c_ret ?_
                refine q_then_ret (q_then_ret (q_ret (.inl rfl) [vI 4] rfl (fun bs w hS => ?_)))
                refine ⟨?_, hS.kp⟩
                simp only [retOf, den, List.map_cons, List.map_nil]
                unfold mCmd
                try simp only [h1, h2, h3, h4, h5, h12, h13, emp_size, ne_eq, not_true_eq_false, not_false_eq_true, true_or, or_true, false_or, or_false, and_true, true_and, and_false, false_and, and_self, or_self, if_true, if_false, Bool.true_eq_false, Bool.false_eq_true, reduceIte, Classical.not_not, Bool.and_eq_true, decide_eq_true_eq]
                repeat (first | rw [if_pos (by omega)] | rw [if_neg (by omega)])
                all_goals first | rfl | (exfalso; omega)
            | false =>
              have h12 := of_decide_eq_false h12
              refine JL_run 15 [] [40] 0 ⟨[(40, vB true)], []⟩ [] [] (by kernel_rfl) on wn ?_
              refine l_nil (q_then_normal ?_)
              refine c_if true rfl ?_
              refine c_seq ?_
              refine c_region ?_
              refine JL_run 1 [] [2] 0 ⟨[(2, vI 4)], []⟩ [] [] (by kernel_rfl) on wn ?_
              refine l_nil (q_then_normal ?_)
              refine c_ret ?_
              refine q_then_ret (q_then_ret (q_ret (.inl rfl) [vI 4] rfl (fun bs w hS => ?_)))
              refine ⟨?_, hS.kp⟩
              simp only [retOf, den, List.map_cons, List.map_nil]
              unfold mCmd
              try simp only [h1, h2, h3, h4, h5, h12, emp_size, ne_eq, not_true_eq_false, not_false_eq_true, true_or, or_true, false_or, or_false, and_true, true_and, and_false, false_and, and_self, or_self, if_true, if_false, Bool.true_eq_false, Bool.false_eq_true, reduceIte, Classical.not_not, Bool.and_eq_true, decide_eq_true_eq]
              repeat (first | rw [if_pos (by omega)] | rw [if_neg (by omega)])
              all_goals first | rfl | (exfalso; omega)

theorem ref_CommandFault {B : Nat → Prop} (x : DCommand) (w : World) (hx : Rds.sub B w x) : Calls Try.prog 85 #[.agg #[.int .i64 x.kind, .int .i64 x.client, .int .i64 x.session, .int .i64 x.seq, .int .i64 x.acked, .int .i64 x.op.kind, .string x.op.a, .string x.op.b, .int .i64 x.op.n]] w fun e w' => e = .returned (.int .i64 (mCmd x)) ∧ Kp [] w w' := by
  have okx := Rds.okof hx
  refine calls_J0 73 Try.func85 rfl rfl [.agg #[.int .i64 x.kind, .int .i64 x.client, .int .i64 x.session, .int .i64 x.seq, .int .i64 x.acked, .int .i64 x.op.kind, .string x.op.a, .string x.op.b, .int .i64 x.op.n]] rfl ?_
  refine c_seq ?_
  refine c_region ?_
  refine JL_run 2 [] [1] 1 ⟨[(1, .p 0 0)], [⟨63, [vI x.kind, vI x.client, vI x.session, vI x.seq, vI x.acked, vI x.op.kind, vS x.op.a, vS x.op.b, vI x.op.n]⟩]⟩ [] [] (by kernel_rfl) on wn ?_
  refine l_nil (q_then_normal ?_)
  refine c_seq ?_
  refine c_seq ?_
  refine c_region ?_
  refine JL_run 2 [] [4, 1] 1 ⟨[(4, vI x.kind), (1, .p 0 0)], [⟨63, [vI x.kind, vI x.client, vI x.session, vI x.seq, vI x.acked, vI x.op.kind, vS x.op.a, vS x.op.b, vI x.op.n]⟩]⟩ [] [] (by kernel_rfl) on wn ?_
  refine l_pure 68 [] [vI x.kind, vI 1, vI 3] (.bool (inB x.kind 1 3)) Try.call68 rfl rfl rfl rfl (fun bs w hS => ref_In _ _ _ w) ?_
  refine JL_run 1 [] [6, 1] 1 ⟨[(6, vB (!(inB x.kind 1 3))), (1, .p 0 0)], [⟨63, [vI x.kind, vI x.client, vI x.session, vI x.seq, vI x.acked, vI x.op.kind, vS x.op.a, vS x.op.b, vI x.op.n]⟩]⟩ [] [] (by kernel_rfl) on wn ?_
  refine l_nil (q_then_normal ?_)
  cases h1 : inB x.kind 1 3 with
  | true =>
    simp only [inB, Bool.and_eq_true, Bool.and_eq_false_iff, decide_eq_true_eq, decide_eq_false_iff_not] at h1
    refine c_if false rfl ?_
    refine c_skip ?_
    refine q_then_normal ?_
    refine c_seq ?_
    refine c_seq ?_
    refine c_region ?_
    refine JL_run 2 [] [8, 1] 1 ⟨[(8, vI x.client), (1, .p 0 0)], [⟨63, [vI x.kind, vI x.client, vI x.session, vI x.seq, vI x.acked, vI x.op.kind, vS x.op.a, vS x.op.b, vI x.op.n]⟩]⟩ [] [] (by kernel_rfl) on wn ?_
    refine l_pure 68 [] [vI x.client, vI 1, vI 9] (.bool (inB x.client 1 9)) Try.call68 rfl rfl rfl rfl (fun bs w hS => ref_In _ _ _ w) ?_
    refine JL_run 1 [] [10, 1] 1 ⟨[(10, vB (!(inB x.client 1 9))), (1, .p 0 0)], [⟨63, [vI x.kind, vI x.client, vI x.session, vI x.seq, vI x.acked, vI x.op.kind, vS x.op.a, vS x.op.b, vI x.op.n]⟩]⟩ [] [] (by kernel_rfl) on wn ?_
    refine l_nil (q_then_normal ?_)
    cases h2 : inB x.client 1 9 with
    | true =>
      simp only [inB, Bool.and_eq_true, Bool.and_eq_false_iff, decide_eq_true_eq, decide_eq_false_iff_not] at h2
      refine c_if false rfl ?_
      refine c_skip ?_
      refine q_then_normal ?_
      refine c_seq ?_
      refine c_seq ?_
      refine c_region ?_
      refine JL_run 3 [] [13, 1] 1 ⟨[(13, vB (decide (x.kind = 2))), (1, .p 0 0)], [⟨63, [vI x.kind, vI x.client, vI x.session, vI x.seq, vI x.acked, vI x.op.kind, vS x.op.a, vS x.op.b, vI x.op.n]⟩]⟩ [] [] (by kernel_rfl) on wn ?_
      refine l_nil (q_then_normal ?_)
      cases h3 : decide (x.kind = 2) with
      | true =>
        have h3 := of_decide_eq_true h3
        refine c_if true rfl ?_
        refine c_seq ?_
        refine c_seq ?_
        refine c_region ?_
        refine JL_run 2 [] [15, 1] 1 ⟨[(15, vI x.session), (1, .p 0 0)], [⟨63, [vI x.kind, vI x.client, vI x.session, vI x.seq, vI x.acked, vI x.op.kind, vS x.op.a, vS x.op.b, vI x.op.n]⟩]⟩ [] [] (by kernel_rfl) on wn ?_
        refine l_pure 68 [] [vI x.session, vI 1, vI 1073741824] (.bool (inB x.session 1 1073741824)) Try.call68 rfl rfl rfl rfl (fun bs w hS => ref_In _ _ _ w) ?_
        refine JL_run 2 [] [18, 1] 1 ⟨[(18, vB (!(inB x.session 1 1073741824))), (1, .p 0 0)], [⟨63, [vI x.kind, vI x.client, vI x.session, vI x.seq, vI x.acked, vI x.op.kind, vS x.op.a, vS x.op.b, vI x.op.n]⟩]⟩ [] [] (by kernel_rfl) on wn ?_
        cases h4 : inB x.session 1 1073741824 with
        | true =>
          simp only [inB, Bool.and_eq_true, Bool.and_eq_false_iff, decide_eq_true_eq, decide_eq_false_iff_not] at h4
          refine JL_run 2 [] [20, 18, 1] 1 ⟨[(20, vI x.seq), (18, vB false), (1, .p 0 0)], [⟨63, [vI x.kind, vI x.client, vI x.session, vI x.seq, vI x.acked, vI x.op.kind, vS x.op.a, vS x.op.b, vI x.op.n]⟩]⟩ [] [] (by kernel_rfl) on wn ?_
          refine l_pure 68 [] [vI x.seq, vI 1, vI 1048576] (.bool (inB x.seq 1 1048576)) Try.call68 rfl rfl rfl rfl (fun bs w hS => ref_In _ _ _ w) ?_
          refine JL_run 3 [] [24, 1] 1 ⟨[(24, vB (!(inB x.seq 1 1048576))), (1, .p 0 0)], [⟨63, [vI x.kind, vI x.client, vI x.session, vI x.seq, vI x.acked, vI x.op.kind, vS x.op.a, vS x.op.b, vI x.op.n]⟩]⟩ [] [] (by kernel_rfl) on wn ?_
          cases h5 : inB x.seq 1 1048576 with
          | true =>
            simp only [inB, Bool.and_eq_true, Bool.and_eq_false_iff, decide_eq_true_eq, decide_eq_false_iff_not] at h5
            refine JL_run 5 [] [29, 26, 24, 1] 1 ⟨[(29, vI (x.seq - 1)), (26, vI x.acked), (24, vB false), (1, .p 0 0)], [⟨63, [vI x.kind, vI x.client, vI x.session, vI x.seq, vI x.acked, vI x.op.kind, vS x.op.a, vS x.op.b, vI x.op.n]⟩]⟩ [inR (x.seq - 1)] [] (by kernel_rfl) (oc (by unfold inR; omega) on) wn ?_
            refine l_pure 68 [] [vI x.acked, vI 0, vI (x.seq - 1)] (.bool (inB x.acked 0 (x.seq - 1))) Try.call68 rfl rfl rfl rfl (fun bs w hS => ref_In _ _ _ w) ?_
            refine JL_run 2 [] [32, 1] 1 ⟨[(32, vB (!(inB x.acked 0 (x.seq - 1)))), (1, .p 0 0)], [⟨63, [vI x.kind, vI x.client, vI x.session, vI x.seq, vI x.acked, vI x.op.kind, vS x.op.a, vS x.op.b, vI x.op.n]⟩]⟩ [] [] (by kernel_rfl) on wn ?_
            refine l_nil (q_then_normal ?_)
            cases h6 : inB x.acked 0 (x.seq - 1) with
            | true =>
              simp only [inB, Bool.and_eq_true, Bool.and_eq_false_iff, decide_eq_true_eq, decide_eq_false_iff_not] at h6
              refine c_if false rfl ?_
              refine c_skip ?_
              refine q_then_normal ?_
              refine c_seq ?_
              refine c_region ?_
              refine JL_run 2 [] [34] 0 ⟨[(34, .v (.agg #[.int .i64 x.op.kind, .string x.op.a, .string x.op.b, .int .i64 x.op.n]))], []⟩ [] [] (by kernel_rfl) on wn ?_
              refine l_pure 50 [] [.v (.agg #[.int .i64 x.op.kind, .string x.op.a, .string x.op.b, .int .i64 x.op.n])] (.int .i64 (mOp x.op)) Try.call50 rfl rfl rfl rfl (fun bs w hS => ref_OpFault (B := anyB) x.op w ⟨(And.left okx), (And.right okx)⟩) ?_
              refine JL_run 1 [] [2] 0 ⟨[(2, vI (mOp x.op))], []⟩ [] [] (by kernel_rfl) on wn ?_
              refine l_nil (q_then_normal ?_)
              refine c_ret ?_
              refine q_then_ret (q_ret (.inl rfl) [vI (mOp x.op)] rfl (fun bs w hS => ?_))
              refine ⟨?_, hS.kp⟩
              simp only [retOf, den, List.map_cons, List.map_nil]
              unfold mCmd
              try simp only [h1, h2, h3, h4, h5, h6, emp_size, ne_eq, not_true_eq_false, not_false_eq_true, true_or, or_true, false_or, or_false, and_true, true_and, and_false, false_and, and_self, or_self, if_true, if_false, Bool.true_eq_false, Bool.false_eq_true, reduceIte, Classical.not_not, Bool.and_eq_true, decide_eq_true_eq]
              repeat (first | rw [if_pos (by omega)] | rw [if_neg (by omega)])
              all_goals first | rfl | (exfalso; omega)
            | false =>
              simp only [inB, Bool.and_eq_true, Bool.and_eq_false_iff, decide_eq_true_eq, decide_eq_false_iff_not] at h6
              refine c_if true rfl ?_
              refine c_seq ?_
              refine c_region ?_
              refine JL_run 1 [] [2] 0 ⟨[(2, vI 2)], []⟩ [] [] (by kernel_rfl) on wn ?_
              refine l_nil (q_then_normal ?_)
              refine c_ret ?_
              refine q_then_ret (q_then_ret (q_ret (.inl rfl) [vI 2] rfl (fun bs w hS => ?_)))
              refine ⟨?_, hS.kp⟩
              simp only [retOf, den, List.map_cons, List.map_nil]
              unfold mCmd
              try simp only [h1, h2, h3, h4, h5, h6, emp_size, ne_eq, not_true_eq_false, not_false_eq_true, true_or, or_true, false_or, or_false, and_true, true_and, and_false, false_and, and_self, or_self, if_true, if_false, Bool.true_eq_false, Bool.false_eq_true, reduceIte, Classical.not_not, Bool.and_eq_true, decide_eq_true_eq]
              repeat (first | rw [if_pos (by omega)] | rw [if_neg (by omega)])
              all_goals first | rfl | (exfalso; omega)
          | false =>
            simp only [inB, Bool.and_eq_true, Bool.and_eq_false_iff, decide_eq_true_eq, decide_eq_false_iff_not] at h5
            refine JL_run 8 [] [32, 1] 1 ⟨[(32, vB true), (1, .p 0 0)], [⟨63, [vI x.kind, vI x.client, vI x.session, vI x.seq, vI x.acked, vI x.op.kind, vS x.op.a, vS x.op.b, vI x.op.n]⟩]⟩ [] [] (by kernel_rfl) on wn ?_
            refine l_nil (q_then_normal ?_)
            refine c_if true rfl ?_
            refine c_seq ?_
            refine c_region ?_
            refine JL_run 1 [] [2] 0 ⟨[(2, vI 2)], []⟩ [] [] (by kernel_rfl) on wn ?_
            refine l_nil (q_then_normal ?_)
            refine c_ret ?_
            refine q_then_ret (q_then_ret (q_ret (.inl rfl) [vI 2] rfl (fun bs w hS => ?_)))
            refine ⟨?_, hS.kp⟩
            simp only [retOf, den, List.map_cons, List.map_nil]
            unfold mCmd
            try simp only [h1, h2, h3, h4, h5, emp_size, ne_eq, not_true_eq_false, not_false_eq_true, true_or, or_true, false_or, or_false, and_true, true_and, and_false, false_and, and_self, or_self, if_true, if_false, Bool.true_eq_false, Bool.false_eq_true, reduceIte, Classical.not_not, Bool.and_eq_true, decide_eq_true_eq]
            repeat (first | rw [if_pos (by omega)] | rw [if_neg (by omega)])
            all_goals first | rfl | (exfalso; omega)
        | false =>
          simp only [inB, Bool.and_eq_true, Bool.and_eq_false_iff, decide_eq_true_eq, decide_eq_false_iff_not] at h4
          refine JL_run 14 [] [32, 1] 1 ⟨[(32, vB true), (1, .p 0 0)], [⟨63, [vI x.kind, vI x.client, vI x.session, vI x.seq, vI x.acked, vI x.op.kind, vS x.op.a, vS x.op.b, vI x.op.n]⟩]⟩ [] [] (by kernel_rfl) on wn ?_
          refine l_nil (q_then_normal ?_)
          refine c_if true rfl ?_
          refine c_seq ?_
          refine c_region ?_
          refine JL_run 1 [] [2] 0 ⟨[(2, vI 2)], []⟩ [] [] (by kernel_rfl) on wn ?_
          refine l_nil (q_then_normal ?_)
          refine c_ret ?_
          refine q_then_ret (q_then_ret (q_ret (.inl rfl) [vI 2] rfl (fun bs w hS => ?_)))
          refine ⟨?_, hS.kp⟩
          simp only [retOf, den, List.map_cons, List.map_nil]
          unfold mCmd
          try simp only [h1, h2, h3, h4, emp_size, ne_eq, not_true_eq_false, not_false_eq_true, true_or, or_true, false_or, or_false, and_true, true_and, and_false, false_and, and_self, or_self, if_true, if_false, Bool.true_eq_false, Bool.false_eq_true, reduceIte, Classical.not_not, Bool.and_eq_true, decide_eq_true_eq]
          repeat (first | rw [if_pos (by omega)] | rw [if_neg (by omega)])
          all_goals first | rfl | (exfalso; omega)
      | false =>
        have h3 := of_decide_eq_false h3
        refine c_if false rfl ?_
        refine c_skip ?_
        refine q_then_normal ?_
        refine c_seq ?_
        refine c_seq ?_
        refine c_region ?_
        refine JL_run 4 [] [39, 1] 1 ⟨[(39, vB (!(decide (x.session = 0)))), (1, .p 0 0)], [⟨63, [vI x.kind, vI x.client, vI x.session, vI x.seq, vI x.acked, vI x.op.kind, vS x.op.a, vS x.op.b, vI x.op.n]⟩]⟩ [] [] (by kernel_rfl) on wn ?_
        cases h7 : decide (x.session = 0) with
        | true =>
          have h7 := of_decide_eq_true h7
          refine JL_run 5 [] [44, 1] 1 ⟨[(44, vB (!(decide (x.seq = 0)))), (1, .p 0 0)], [⟨63, [vI x.kind, vI x.client, vI x.session, vI x.seq, vI x.acked, vI x.op.kind, vS x.op.a, vS x.op.b, vI x.op.n]⟩]⟩ [] [] (by kernel_rfl) on wn ?_
          cases h8 : decide (x.seq = 0) with
          | true =>
            have h8 := of_decide_eq_true h8
            refine JL_run 5 [] [49, 1] 1 ⟨[(49, vB (!(decide (x.acked = 0)))), (1, .p 0 0)], [⟨63, [vI x.kind, vI x.client, vI x.session, vI x.seq, vI x.acked, vI x.op.kind, vS x.op.a, vS x.op.b, vI x.op.n]⟩]⟩ [] [] (by kernel_rfl) on wn ?_
            cases h9 : decide (x.acked = 0) with
            | true =>
              have h9 := of_decide_eq_true h9
              refine JL_run 6 [] [55, 1] 1 ⟨[(55, vB (!(decide (x.op.kind = 0)))), (1, .p 0 0)], [⟨63, [vI x.kind, vI x.client, vI x.session, vI x.seq, vI x.acked, vI x.op.kind, vS x.op.a, vS x.op.b, vI x.op.n]⟩]⟩ [] [] (by kernel_rfl) on wn ?_
              cases h10 : decide (x.op.kind = 0) with
              | true =>
                have h10 := of_decide_eq_true h10
                refine JL_run 6 [] [61, 1] 1 ⟨[(61, vB (!(decide (x.op.a = emp)))), (1, .p 0 0)], [⟨63, [vI x.kind, vI x.client, vI x.session, vI x.seq, vI x.acked, vI x.op.kind, vS x.op.a, vS x.op.b, vI x.op.n]⟩]⟩ [] [] (by kernel_rfl) on wn ?_
                cases h11 : decide (x.op.a = emp) with
                | true =>
                  have h11 := of_decide_eq_true h11
                  have hzh11 : x.op.a.size = 0 := by rw [h11]; rfl
                  refine JL_run 6 [] [67, 1] 1 ⟨[(67, vB (!(decide (x.op.b = emp)))), (1, .p 0 0)], [⟨63, [vI x.kind, vI x.client, vI x.session, vI x.seq, vI x.acked, vI x.op.kind, vS x.op.a, vS x.op.b, vI x.op.n]⟩]⟩ [] [] (by kernel_rfl) on wn ?_
                  cases h12 : decide (x.op.b = emp) with
                  | true =>
                    have h12 := of_decide_eq_true h12
                    have hzh12 : x.op.b.size = 0 := by rw [h12]; rfl
                    refine JL_run 5 [] [72] 0 ⟨[(72, vB (!(decide (x.op.n = 0))))], []⟩ [] [] (by kernel_rfl) on wn ?_
                    refine l_nil (q_then_normal ?_)
                    cases h13 : decide (x.op.n = 0) with
                    | true =>
                      have h13 := of_decide_eq_true h13
                      refine c_if false rfl ?_
                      refine c_skip ?_
                      refine q_then_normal ?_
                      refine c_seq ?_
                      refine c_region ?_
                      refine JL_run 1 [] [2] 0 ⟨[(2, vI 0)], []⟩ [] [] (by kernel_rfl) on wn ?_
                      refine l_nil (q_then_normal ?_)
                      refine c_ret ?_
                      refine q_ret (.inl rfl) [vI 0] rfl (fun bs w hS => ?_)
                      refine ⟨?_, hS.kp⟩
                      simp only [retOf, den, List.map_cons, List.map_nil]
                      unfold mCmd
                      try simp only [h1, h2, h3, h7, h8, h9, h10, h11, h12, h13, emp_size, ne_eq, not_true_eq_false, not_false_eq_true, true_or, or_true, false_or, or_false, and_true, true_and, and_false, false_and, and_self, or_self, if_true, if_false, Bool.true_eq_false, Bool.false_eq_true, reduceIte, Classical.not_not, Bool.and_eq_true, decide_eq_true_eq]
                      repeat (first | rw [if_pos (by omega)] | rw [if_neg (by omega)])
                      all_goals first | rfl | (exfalso; omega)
                    | false =>
                      have h13 := of_decide_eq_false h13
                      refine c_if true rfl ?_
                      refine c_seq ?_
                      refine c_region ?_
                      refine JL_run 1 [] [2] 0 ⟨[(2, vI 4)], []⟩ [] [] (by kernel_rfl) on wn ?_
                      refine l_nil (q_then_normal ?_)
                      refine c_ret ?_
                      refine q_then_ret (q_ret (.inl rfl) [vI 4] rfl (fun bs w hS => ?_))
                      refine ⟨?_, hS.kp⟩
                      simp only [retOf, den, List.map_cons, List.map_nil]
                      unfold mCmd
                      try simp only [h1, h2, h3, h7, h8, h9, h10, h11, h12, h13, emp_size, ne_eq, not_true_eq_false, not_false_eq_true, true_or, or_true, false_or, or_false, and_true, true_and, and_false, false_and, and_self, or_self, if_true, if_false, Bool.true_eq_false, Bool.false_eq_true, reduceIte, Classical.not_not, Bool.and_eq_true, decide_eq_true_eq]
                      repeat (first | rw [if_pos (by omega)] | rw [if_neg (by omega)])
                      all_goals first | rfl | (exfalso; omega)
                  | false =>
                    have h12 := of_decide_eq_false h12
                    refine JL_run 5 [] [72] 0 ⟨[(72, vB true)], []⟩ [] [] (by kernel_rfl) on wn ?_
                    refine l_nil (q_then_normal ?_)
                    refine c_if true rfl ?_
                    refine c_seq ?_
                    refine c_region ?_
                    refine JL_run 1 [] [2] 0 ⟨[(2, vI 4)], []⟩ [] [] (by kernel_rfl) on wn ?_
                    refine l_nil (q_then_normal ?_)
                    refine c_ret ?_
                    refine q_then_ret (q_ret (.inl rfl) [vI 4] rfl (fun bs w hS => ?_))
                    refine ⟨?_, hS.kp⟩
                    simp only [retOf, den, List.map_cons, List.map_nil]
                    unfold mCmd
                    try simp only [h1, h2, h3, h7, h8, h9, h10, h11, h12, emp_size, ne_eq, not_true_eq_false, not_false_eq_true, true_or, or_true, false_or, or_false, and_true, true_and, and_false, false_and, and_self, or_self, if_true, if_false, Bool.true_eq_false, Bool.false_eq_true, reduceIte, Classical.not_not, Bool.and_eq_true, decide_eq_true_eq]
                    repeat (first | rw [if_pos (by omega)] | rw [if_neg (by omega)])
                    all_goals first | rfl | (exfalso; omega)
                | false =>
                  have h11 := of_decide_eq_false h11
                  refine JL_run 11 [] [72] 0 ⟨[(72, vB true)], []⟩ [] [] (by kernel_rfl) on wn ?_
                  refine l_nil (q_then_normal ?_)
                  refine c_if true rfl ?_
                  refine c_seq ?_
                  refine c_region ?_
                  refine JL_run 1 [] [2] 0 ⟨[(2, vI 4)], []⟩ [] [] (by kernel_rfl) on wn ?_
                  refine l_nil (q_then_normal ?_)
                  refine c_ret ?_
                  refine q_then_ret (q_ret (.inl rfl) [vI 4] rfl (fun bs w hS => ?_))
                  refine ⟨?_, hS.kp⟩
                  simp only [retOf, den, List.map_cons, List.map_nil]
                  unfold mCmd
                  try simp only [h1, h2, h3, h7, h8, h9, h10, h11, emp_size, ne_eq, not_true_eq_false, not_false_eq_true, true_or, or_true, false_or, or_false, and_true, true_and, and_false, false_and, and_self, or_self, if_true, if_false, Bool.true_eq_false, Bool.false_eq_true, reduceIte, Classical.not_not, Bool.and_eq_true, decide_eq_true_eq]
                  repeat (first | rw [if_pos (by omega)] | rw [if_neg (by omega)])
                  all_goals first | rfl | (exfalso; omega)
              | false =>
                have h10 := of_decide_eq_false h10
                refine JL_run 17 [] [72] 0 ⟨[(72, vB true)], []⟩ [] [] (by kernel_rfl) on wn ?_
                refine l_nil (q_then_normal ?_)
                refine c_if true rfl ?_
                refine c_seq ?_
                refine c_region ?_
                refine JL_run 1 [] [2] 0 ⟨[(2, vI 4)], []⟩ [] [] (by kernel_rfl) on wn ?_
                refine l_nil (q_then_normal ?_)
                refine c_ret ?_
                refine q_then_ret (q_ret (.inl rfl) [vI 4] rfl (fun bs w hS => ?_))
                refine ⟨?_, hS.kp⟩
                simp only [retOf, den, List.map_cons, List.map_nil]
                unfold mCmd
                try simp only [h1, h2, h3, h7, h8, h9, h10, emp_size, ne_eq, not_true_eq_false, not_false_eq_true, true_or, or_true, false_or, or_false, and_true, true_and, and_false, false_and, and_self, or_self, if_true, if_false, Bool.true_eq_false, Bool.false_eq_true, reduceIte, Classical.not_not, Bool.and_eq_true, decide_eq_true_eq]
                repeat (first | rw [if_pos (by omega)] | rw [if_neg (by omega)])
                all_goals first | rfl | (exfalso; omega)
            | false =>
              have h9 := of_decide_eq_false h9
              refine JL_run 23 [] [72] 0 ⟨[(72, vB true)], []⟩ [] [] (by kernel_rfl) on wn ?_
              refine l_nil (q_then_normal ?_)
              refine c_if true rfl ?_
              refine c_seq ?_
              refine c_region ?_
              refine JL_run 1 [] [2] 0 ⟨[(2, vI 4)], []⟩ [] [] (by kernel_rfl) on wn ?_
              refine l_nil (q_then_normal ?_)
              refine c_ret ?_
              refine q_then_ret (q_ret (.inl rfl) [vI 4] rfl (fun bs w hS => ?_))
              refine ⟨?_, hS.kp⟩
              simp only [retOf, den, List.map_cons, List.map_nil]
              unfold mCmd
              try simp only [h1, h2, h3, h7, h8, h9, emp_size, ne_eq, not_true_eq_false, not_false_eq_true, true_or, or_true, false_or, or_false, and_true, true_and, and_false, false_and, and_self, or_self, if_true, if_false, Bool.true_eq_false, Bool.false_eq_true, reduceIte, Classical.not_not, Bool.and_eq_true, decide_eq_true_eq]
              repeat (first | rw [if_pos (by omega)] | rw [if_neg (by omega)])
              all_goals first | rfl | (exfalso; omega)
          | false =>
            have h8 := of_decide_eq_false h8
            refine JL_run 28 [] [72] 0 ⟨[(72, vB true)], []⟩ [] [] (by kernel_rfl) on wn ?_
            refine l_nil (q_then_normal ?_)
            refine c_if true rfl ?_
            refine c_seq ?_
            refine c_region ?_
            refine JL_run 1 [] [2] 0 ⟨[(2, vI 4)], []⟩ [] [] (by kernel_rfl) on wn ?_
            refine l_nil (q_then_normal ?_)
            refine c_ret ?_
            refine q_then_ret (q_ret (.inl rfl) [vI 4] rfl (fun bs w hS => ?_))
            refine ⟨?_, hS.kp⟩
            simp only [retOf, den, List.map_cons, List.map_nil]
            unfold mCmd
            try simp only [h1, h2, h3, h7, h8, emp_size, ne_eq, not_true_eq_false, not_false_eq_true, true_or, or_true, false_or, or_false, and_true, true_and, and_false, false_and, and_self, or_self, if_true, if_false, Bool.true_eq_false, Bool.false_eq_true, reduceIte, Classical.not_not, Bool.and_eq_true, decide_eq_true_eq]
            repeat (first | rw [if_pos (by omega)] | rw [if_neg (by omega)])
            all_goals first | rfl | (exfalso; omega)
        | false =>
          have h7 := of_decide_eq_false h7
          refine JL_run 33 [] [72] 0 ⟨[(72, vB true)], []⟩ [] [] (by kernel_rfl) on wn ?_
          refine l_nil (q_then_normal ?_)
          refine c_if true rfl ?_
          refine c_seq ?_
          refine c_region ?_
          refine JL_run 1 [] [2] 0 ⟨[(2, vI 4)], []⟩ [] [] (by kernel_rfl) on wn ?_
          refine l_nil (q_then_normal ?_)
          refine c_ret ?_
          refine q_then_ret (q_ret (.inl rfl) [vI 4] rfl (fun bs w hS => ?_))
          refine ⟨?_, hS.kp⟩
          simp only [retOf, den, List.map_cons, List.map_nil]
          unfold mCmd
          try simp only [h1, h2, h3, h7, emp_size, ne_eq, not_true_eq_false, not_false_eq_true, true_or, or_true, false_or, or_false, and_true, true_and, and_false, false_and, and_self, or_self, if_true, if_false, Bool.true_eq_false, Bool.false_eq_true, reduceIte, Classical.not_not, Bool.and_eq_true, decide_eq_true_eq]
          repeat (first | rw [if_pos (by omega)] | rw [if_neg (by omega)])
          all_goals first | rfl | (exfalso; omega)
    | false =>
      simp only [inB, Bool.and_eq_true, Bool.and_eq_false_iff, decide_eq_true_eq, decide_eq_false_iff_not] at h2
      refine c_if true rfl ?_
      refine c_seq ?_
      refine c_region ?_
      refine JL_run 1 [] [2] 0 ⟨[(2, vI 2)], []⟩ [] [] (by kernel_rfl) on wn ?_
      refine l_nil (q_then_normal ?_)
      refine c_ret ?_
      refine q_then_ret (q_ret (.inl rfl) [vI 2] rfl (fun bs w hS => ?_))
      refine ⟨?_, hS.kp⟩
      simp only [retOf, den, List.map_cons, List.map_nil]
      unfold mCmd
      try simp only [h1, h2, emp_size, ne_eq, not_true_eq_false, not_false_eq_true, true_or, or_true, false_or, or_false, and_true, true_and, and_false, false_and, and_self, or_self, if_true, if_false, Bool.true_eq_false, Bool.false_eq_true, reduceIte, Classical.not_not, Bool.and_eq_true, decide_eq_true_eq]
      repeat (first | rw [if_pos (by omega)] | rw [if_neg (by omega)])
      all_goals first | rfl | (exfalso; omega)
  | false =>
    simp only [inB, Bool.and_eq_true, Bool.and_eq_false_iff, decide_eq_true_eq, decide_eq_false_iff_not] at h1
    refine c_if true rfl ?_
    refine c_seq ?_
    refine c_region ?_
    refine JL_run 1 [] [2] 0 ⟨[(2, vI 3)], []⟩ [] [] (by kernel_rfl) on wn ?_
    refine l_nil (q_then_normal ?_)
    refine c_ret ?_
    refine q_then_ret (q_ret (.inl rfl) [vI 3] rfl (fun bs w hS => ?_))
    refine ⟨?_, hS.kp⟩
    simp only [retOf, den, List.map_cons, List.map_nil]
    unfold mCmd
    try simp only [h1, emp_size, ne_eq, not_true_eq_false, not_false_eq_true, true_or, or_true, false_or, or_false, and_true, true_and, and_false, false_and, and_self, or_self, if_true, if_false, Bool.true_eq_false, Bool.false_eq_true, reduceIte, Classical.not_not, Bool.and_eq_true, decide_eq_true_eq]
    repeat (first | rw [if_pos (by omega)] | rw [if_neg (by omega)])
    all_goals first | rfl | (exfalso; omega)

theorem customer_Check {B : Nat → Prop} (x : CCustomer) (w : World) (hx : Rds.sub B w x) : Calls Try.prog 45 #[.agg #[.int .i64 x.id, .int .i64 x.session, .int .i64 x.next, .slice x.waits.A x.waits.n x.waits.c]] w fun e w' => e = .returned (.int .i64 (mCust x.abs)) ∧ Kp [] w w' := by
  have okx := Rds.okof hx
  have ncx := Sl.ok.nc okx
  have hns : x.waits.n = x.waits.xs.length := rfl
  have hat : ∀ q, x.abs.waits.getD q default = x.waits.at q := fun _ => rfl
  have ha1 : x.abs.id = x.id := rfl
  have ha2 : x.abs.session = x.session := rfl
  have ha3 : x.abs.next = x.next := rfl
  have ha4 : x.abs.waits.length = x.waits.n := rfl
  refine calls_J0 102 Try.func45 rfl rfl [.agg #[.int .i64 x.id, .int .i64 x.session, .int .i64 x.next, .slice x.waits.A x.waits.n x.waits.c]] rfl ?_
  refine c_seq ?_
  refine c_region ?_
  refine JL_run 2 [] [1] 1 ⟨[(1, .p 0 0)], [⟨24, [vI x.id, vI x.session, vI x.next, .v (.slice x.waits.A x.waits.n x.waits.c)]⟩]⟩ [] [] (by kernel_rfl) on wn ?_
  refine l_nil (q_then_normal ?_)
  refine c_seq ?_
  refine c_seq ?_
  refine c_region ?_
  refine JL_run 4 [] [9, 1] 1 ⟨[(9, vB (decide (x.id < 1))), (1, .p 0 0)], [⟨24, [vI x.id, vI x.session, vI x.next, .v (.slice x.waits.A x.waits.n x.waits.c)]⟩]⟩ [] [] (by kernel_rfl) on wn ?_
  cases h1 : decide (x.id < 1) with
  | true =>
    have h1 := of_decide_eq_true h1
    refine JL_run 24 [] [33, 1] 1 ⟨[(33, vB true), (1, .p 0 0)], [⟨24, [vI x.id, vI x.session, vI x.next, .v (.slice x.waits.A x.waits.n x.waits.c)]⟩]⟩ [] [] (by kernel_rfl) on wn ?_
    refine l_nil (q_then_normal ?_)
    refine c_if true rfl ?_
    refine c_seq ?_
    refine c_region ?_
    refine JL_run 1 [] [2] 0 ⟨[(2, vI 2)], []⟩ [] [] (by kernel_rfl) on wn ?_
    refine l_nil (q_then_normal ?_)
    refine c_ret ?_
    refine q_then_ret (q_ret (.inl rfl) [vI 2] rfl (fun bs w hS => ?_))
    refine ⟨?_, hS.kp⟩
    simp only [retOf, den, List.map_cons, List.map_nil]
    have hm : mCust x.abs = 2 := by
      unfold mCust; simp only [ha1, ha2, ha3, ha4]; rw [if_pos (by omega)]
    rw [hm]
  | false =>
    have h1 := of_decide_eq_false h1
    refine JL_run 5 [] [14, 1] 1 ⟨[(14, vB (decide ((9 : Int) < x.id))), (1, .p 0 0)], [⟨24, [vI x.id, vI x.session, vI x.next, .v (.slice x.waits.A x.waits.n x.waits.c)]⟩]⟩ [] [] (by kernel_rfl) on wn ?_
    cases h2 : decide ((9 : Int) < x.id) with
    | true =>
      have h2 := of_decide_eq_true h2
      refine JL_run 19 [] [33, 1] 1 ⟨[(33, vB true), (1, .p 0 0)], [⟨24, [vI x.id, vI x.session, vI x.next, .v (.slice x.waits.A x.waits.n x.waits.c)]⟩]⟩ [] [] (by kernel_rfl) on wn ?_
      refine l_nil (q_then_normal ?_)
      refine c_if true rfl ?_
      refine c_seq ?_
      refine c_region ?_
      refine JL_run 1 [] [2] 0 ⟨[(2, vI 2)], []⟩ [] [] (by kernel_rfl) on wn ?_
      refine l_nil (q_then_normal ?_)
      refine c_ret ?_
      refine q_then_ret (q_ret (.inl rfl) [vI 2] rfl (fun bs w hS => ?_))
      refine ⟨?_, hS.kp⟩
      simp only [retOf, den, List.map_cons, List.map_nil]
      have hm : mCust x.abs = 2 := by
        unfold mCust; simp only [ha1, ha2, ha3, ha4]; rw [if_pos (by omega)]
      rw [hm]
    | false =>
      have h2 := of_decide_eq_false h2
      refine JL_run 5 [] [19, 1] 1 ⟨[(19, vB (decide (x.session < 0))), (1, .p 0 0)], [⟨24, [vI x.id, vI x.session, vI x.next, .v (.slice x.waits.A x.waits.n x.waits.c)]⟩]⟩ [] [] (by kernel_rfl) on wn ?_
      cases h3 : decide (x.session < 0) with
      | true =>
        have h3 := of_decide_eq_true h3
        refine JL_run 14 [] [33, 1] 1 ⟨[(33, vB true), (1, .p 0 0)], [⟨24, [vI x.id, vI x.session, vI x.next, .v (.slice x.waits.A x.waits.n x.waits.c)]⟩]⟩ [] [] (by kernel_rfl) on wn ?_
        refine l_nil (q_then_normal ?_)
        refine c_if true rfl ?_
        refine c_seq ?_
        refine c_region ?_
        refine JL_run 1 [] [2] 0 ⟨[(2, vI 2)], []⟩ [] [] (by kernel_rfl) on wn ?_
        refine l_nil (q_then_normal ?_)
        refine c_ret ?_
        refine q_then_ret (q_ret (.inl rfl) [vI 2] rfl (fun bs w hS => ?_))
        refine ⟨?_, hS.kp⟩
        simp only [retOf, den, List.map_cons, List.map_nil]
        have hm : mCust x.abs = 2 := by
          unfold mCust; simp only [ha1, ha2, ha3, ha4]; rw [if_pos (by omega)]
        rw [hm]
      | false =>
        have h3 := of_decide_eq_false h3
        refine JL_run 5 [] [24, 1] 1 ⟨[(24, vB (decide ((1073741824 : Int) < x.session))), (1, .p 0 0)], [⟨24, [vI x.id, vI x.session, vI x.next, .v (.slice x.waits.A x.waits.n x.waits.c)]⟩]⟩ [] [] (by kernel_rfl) on wn ?_
        cases h4 : decide ((1073741824 : Int) < x.session) with
        | true =>
          have h4 := of_decide_eq_true h4
          refine JL_run 9 [] [33, 1] 1 ⟨[(33, vB true), (1, .p 0 0)], [⟨24, [vI x.id, vI x.session, vI x.next, .v (.slice x.waits.A x.waits.n x.waits.c)]⟩]⟩ [] [] (by kernel_rfl) on wn ?_
          refine l_nil (q_then_normal ?_)
          refine c_if true rfl ?_
          refine c_seq ?_
          refine c_region ?_
          refine JL_run 1 [] [2] 0 ⟨[(2, vI 2)], []⟩ [] [] (by kernel_rfl) on wn ?_
          refine l_nil (q_then_normal ?_)
          refine c_ret ?_
          refine q_then_ret (q_ret (.inl rfl) [vI 2] rfl (fun bs w hS => ?_))
          refine ⟨?_, hS.kp⟩
          simp only [retOf, den, List.map_cons, List.map_nil]
          have hm : mCust x.abs = 2 := by
            unfold mCust; simp only [ha1, ha2, ha3, ha4]; rw [if_pos (by omega)]
          rw [hm]
        | false =>
          have h4 := of_decide_eq_false h4
          refine JL_run 5 [] [29, 1] 1 ⟨[(29, vB (decide (x.next < 1))), (1, .p 0 0)], [⟨24, [vI x.id, vI x.session, vI x.next, .v (.slice x.waits.A x.waits.n x.waits.c)]⟩]⟩ [] [] (by kernel_rfl) on wn ?_
          cases h5 : decide (x.next < 1) with
          | true =>
            have h5 := of_decide_eq_true h5
            refine JL_run 4 [] [33, 1] 1 ⟨[(33, vB true), (1, .p 0 0)], [⟨24, [vI x.id, vI x.session, vI x.next, .v (.slice x.waits.A x.waits.n x.waits.c)]⟩]⟩ [] [] (by kernel_rfl) on wn ?_
            refine l_nil (q_then_normal ?_)
            refine c_if true rfl ?_
            refine c_seq ?_
            refine c_region ?_
            refine JL_run 1 [] [2] 0 ⟨[(2, vI 2)], []⟩ [] [] (by kernel_rfl) on wn ?_
            refine l_nil (q_then_normal ?_)
            refine c_ret ?_
            refine q_then_ret (q_ret (.inl rfl) [vI 2] rfl (fun bs w hS => ?_))
            refine ⟨?_, hS.kp⟩
            simp only [retOf, den, List.map_cons, List.map_nil]
            have hm : mCust x.abs = 2 := by
              unfold mCust; simp only [ha1, ha2, ha3, ha4]; rw [if_pos (by omega)]
            rw [hm]
          | false =>
            have h5 := of_decide_eq_false h5
            refine JL_run 4 [] [33, 1] 1 ⟨[(33, vB (decide ((1048577 : Int) < x.next))), (1, .p 0 0)], [⟨24, [vI x.id, vI x.session, vI x.next, .v (.slice x.waits.A x.waits.n x.waits.c)]⟩]⟩ [] [] (by kernel_rfl) on wn ?_
            refine l_nil (q_then_normal ?_)
            cases h6 : decide ((1048577 : Int) < x.next) with
            | true =>
              have h6 := of_decide_eq_true h6
              refine c_if true rfl ?_
              refine c_seq ?_
              refine c_region ?_
              refine JL_run 1 [] [2] 0 ⟨[(2, vI 2)], []⟩ [] [] (by kernel_rfl) on wn ?_
              refine l_nil (q_then_normal ?_)
              refine c_ret ?_
              refine q_then_ret (q_ret (.inl rfl) [vI 2] rfl (fun bs w hS => ?_))
              refine ⟨?_, hS.kp⟩
              simp only [retOf, den, List.map_cons, List.map_nil]
              have hm : mCust x.abs = 2 := by
                unfold mCust; simp only [ha1, ha2, ha3, ha4]; rw [if_pos (by omega)]
              rw [hm]
            | false =>
              have h6 := of_decide_eq_false h6
              refine c_if false rfl ?_
              refine c_skip ?_
              refine q_then_normal ?_
              refine c_seq ?_
              refine c_seq ?_
              refine c_region ?_
              refine JL_run 5 [] [38, 1] 1 ⟨[(38, vB (decide ((4 : Int) < ((x.waits.n : Nat) : Int)))), (1, .p 0 0)], [⟨24, [vI x.id, vI x.session, vI x.next, .v (.slice x.waits.A x.waits.n x.waits.c)]⟩]⟩ [] [] (by kernel_rfl) on wn ?_
              cases h7 : decide ((4 : Int) < ((x.waits.n : Nat) : Int)) with
              | true =>
                have h7 := of_decide_eq_true h7
                refine JL_run 10 [] [48, 1] 1 ⟨[(48, vB true), (1, .p 0 0)], [⟨24, [vI x.id, vI x.session, vI x.next, .v (.slice x.waits.A x.waits.n x.waits.c)]⟩]⟩ [] [] (by kernel_rfl) on wn ?_
                refine l_nil (q_then_normal ?_)
                refine c_if true rfl ?_
                refine c_seq ?_
                refine c_region ?_
                refine JL_run 1 [] [2] 0 ⟨[(2, vI 9)], []⟩ [] [] (by kernel_rfl) on wn ?_
                refine l_nil (q_then_normal ?_)
                refine c_ret ?_
                refine q_then_ret (q_ret (.inl rfl) [vI 9] rfl (fun bs w hS => ?_))
                refine ⟨?_, hS.kp⟩
                simp only [retOf, den, List.map_cons, List.map_nil]
                have hm : mCust x.abs = 9 := by
                  unfold mCust; simp only [ha1, ha2, ha3, ha4]; rw [if_neg (by omega), if_pos (by omega)]
                rw [hm]
              | false =>
                have h7 := of_decide_eq_false h7
                refine JL_run 4 [] [42, 38, 1] 1 ⟨[(42, vB (decide (x.session = 0))), (38, vB false), (1, .p 0 0)], [⟨24, [vI x.id, vI x.session, vI x.next, .v (.slice x.waits.A x.waits.n x.waits.c)]⟩]⟩ [] [] (by kernel_rfl) on wn ?_
                cases h8 : decide (x.session = 0) with
                | true =>
                  have h8 := of_decide_eq_true h8
                  refine JL_run 6 [] [48, 1] 1 ⟨[(48, vB (decide ((0 : Int) < ((x.waits.n : Nat) : Int)))), (1, .p 0 0)], [⟨24, [vI x.id, vI x.session, vI x.next, .v (.slice x.waits.A x.waits.n x.waits.c)]⟩]⟩ [] [] (by kernel_rfl) on wn ?_
                  refine l_nil (q_then_normal ?_)
                  cases h9 : decide ((0 : Int) < ((x.waits.n : Nat) : Int)) with
                  | true =>
                    have h9 := of_decide_eq_true h9
                    refine c_if true rfl ?_
                    refine c_seq ?_
                    refine c_region ?_
                    refine JL_run 1 [] [2] 0 ⟨[(2, vI 9)], []⟩ [] [] (by kernel_rfl) on wn ?_
                    refine l_nil (q_then_normal ?_)
                    refine c_ret ?_
                    refine q_then_ret (q_ret (.inl rfl) [vI 9] rfl (fun bs w hS => ?_))
                    refine ⟨?_, hS.kp⟩
                    simp only [retOf, den, List.map_cons, List.map_nil]
                    have hm : mCust x.abs = 9 := by
                      unfold mCust; simp only [ha1, ha2, ha3, ha4]; rw [if_neg (by omega), if_pos (by omega)]
                    rw [hm]
                  | false =>
                    have h9 := of_decide_eq_false h9
                    refine c_if false rfl ?_
                    refine c_skip ?_
                    refine q_then_normal ?_
                    refine c_seq ?_
                    refine c_seq ?_
                    refine c_region ?_
                    refine JL_run 4 [] [52, 51, 50, 1] 1 ⟨[(52, vI 0), (51, vI ((x.waits.n : Nat) : Int)), (50, .v (.slice x.waits.A x.waits.n x.waits.c)), (1, .p 0 0)], [⟨24, [vI x.id, vI x.session, vI x.next, .v (.slice x.waits.A x.waits.n x.waits.c)]⟩]⟩ [] [] (by kernel_rfl) on wn ?_
                    refine l_nil (q_then_normal ?_)
                    refine c_block ?_
                    refine c_loop (σ := Nat) (fun i => i ≤ x.waits.n ∧ mCust x.abs = firstF (custF x.abs) (x.waits.n - i) i ∧ (0 < i → 1 ≤ (x.waits.at 0).seq ∧ (x.waits.at 0).seq < x.next)) (fun i => x.waits.n - i) (fun i => []) (fun i => ⟨[(52, vI ((i : Nat) : Int)), (51, vI ((x.waits.n : Nat) : Int)), (50, .v (.slice x.waits.A x.waits.n x.waits.c)), (1, .p 0 0)], [⟨24, [vI x.id, vI x.session, vI x.next, .v (.slice x.waits.A x.waits.n x.waits.c)]⟩]⟩) 0 ⟨Nat.zero_le _, by unfold mCust; simp only [ha1, ha2, ha3, ha4]; rw [if_neg (by omega), if_neg (by omega)], fun h => absurd h (by omega)⟩ (s_start [52, 51, 50, 1] 1 (by kernel_rfl) rfl) ?_
                    rintro i ⟨hi, hI, h0⟩
                    have hz : i = 0 ∨ (0 < i ∧ 1 ≤ (x.waits.at 0).seq ∧ (x.waits.at 0).seq < x.next) := by rcases Nat.eq_zero_or_pos i with h | h; exact .inl h; exact .inr ⟨h, h0 h⟩
                    have hz2 : i = 0 → (x.waits.at i).seq = (x.waits.at 0).seq := fun h => by rw [h]
                    refine c_seq ?_
                    refine c_region ?_
                    refine JL_run 1 [] [53, 52, 51, 50, 1] 1 ⟨[(53, vB (decide (((i : Nat) : Int) < ((x.waits.n : Nat) : Int)))), (52, vI ((i : Nat) : Int)), (51, vI ((x.waits.n : Nat) : Int)), (50, .v (.slice x.waits.A x.waits.n x.waits.c)), (1, .p 0 0)], [⟨24, [vI x.id, vI x.session, vI x.next, .v (.slice x.waits.A x.waits.n x.waits.c)]⟩]⟩ [] [] (by kernel_rfl) on wn ?_
                    refine l_nil (q_then_normal ?_)
                    refine c_seq ?_
                    cases h10 : decide (((i : Nat) : Int) < ((x.waits.n : Nat) : Int)) with
                    | true =>
                      have h10 := of_decide_eq_true h10
                      refine c_if true rfl ?_
                      refine c_skip ?_
                      refine q_then_normal ?_
                      refine c_seq ?_
                      refine c_block ?_
                      refine c_seq ?_
                      refine c_region ?_
                      refine JL_run 6 [(1, .idx x.waits.ad i), (2, .ext [.int .i64 (x.waits.at i).seq, .int .i64 (x.waits.at i).op.kind, .string (x.waits.at i).op.a, .string (x.waits.at i).op.b, .int .i64 (x.waits.at i).op.n])] [3, 4, 52, 51, 50, 1] 2 ⟨[(3, vI ((i : Nat) : Int)), (4, .p 1 0), (52, vI ((i : Nat) : Int)), (51, vI ((x.waits.n : Nat) : Int)), (50, .v (.slice x.waits.A x.waits.n x.waits.c)), (1, .p 0 0)], [⟨24, [vI x.id, vI x.session, vI x.next, .v (.slice x.waits.A x.waits.n x.waits.c)]⟩, ⟨83, [vI (x.waits.at i).seq, vI (x.waits.at i).op.kind, vS (x.waits.at i).op.a, vS (x.waits.at i).op.b, vI (x.waits.at i).op.n]⟩]⟩ [x.waits.A = some x.waits.ad, ((i : Nat) : Int) = ((i : Nat) : Int), i < x.waits.n] [(x.waits.ad.add (i * 5), [.int .i64 (x.waits.at i).seq, .int .i64 (x.waits.at i).op.kind, .string (x.waits.at i).op.a, .string (x.waits.at i).op.b, .int .i64 (x.waits.at i).op.n])] (by kernel_rfl) (oc (Sl.ok.own (s := x.waits) (i := i) okx (by omega)) (oc rfl (oc (by omega) on))) (fun w hk hr => ⟨(Sl.rd.all (s := x.waits) (i := i) (Rds.kp hx hk) (by omega) rfl), trivial⟩) ?_
                      refine l_nil (q_then_normal ?_)
                      refine c_seq ?_
                      refine c_seq ?_
                      refine c_draw 38 [(0, false), (1, false), (2, false), (3, false), (4, false), (5, false), (6, false), (7, false), (8, false), (9, false), (10, false), (11, false), (12, false), (13, false), (14, false), (15, false), (16, false), (17, false), (18, false), (19, false), (20, false), (21, false), (22, false), (23, false), (24, false), (25, false), (26, false), (27, false), (28, false), (29, false), (30, false), (31, false), (32, false), (33, false), (34, false), (35, false), (36, false), (37, false)] [] [] Try_mixed (by kernel_rfl) (pq_then (pq_then (pq_block (pq_then (pq_then (pq_block (pq_then pq_body))))))) (List.Sublist.refl _) ?_
                      refine h_quiet [] 4 [(60, vB (decide ((x.waits.at i).seq < 1))), (59, vB (decide ((x.waits.at i).seq < 1))), (58, vI (x.waits.at i).seq), (57, .p 1 0), (3, vI ((i : Nat) : Int)), (4, .p 1 0), (52, vI ((i : Nat) : Int)), (51, vI ((x.waits.n : Nat) : Int)), (50, .v (.slice x.waits.A x.waits.n x.waits.c)), (1, .p 0 0)] [] [] rfl rfl (by kernel_rfl) on wn ?_
                      cases h11 : decide ((x.waits.at i).seq < 1) with
                      | true =>
                        have h11 := of_decide_eq_true h11
                        refine h_quiet [] 34 [(94, vB true), (93, .v (undef)), (92, .v (undef)), (91, .v (undef)), (90, .v (undef)), (89, .v (undef)), (88, .v (undef)), (87, .v (undef)), (86, .v (undef)), (85, .v (undef)), (84, .v (undef)), (83, vB true), (82, vB true), (81, .v (undef)), (80, .v (undef)), (79, .v (undef)), (78, .v (undef)), (77, .v (undef)), (76, .v (undef)), (75, .v (undef)), (74, .v (undef)), (73, .v (undef)), (72, .v (undef)), (71, .v (undef)), (70, .v (undef)), (69, .v (undef)), (68, .v (undef)), (67, vB true), (66, vB true), (65, .v (undef)), (64, .v (undef)), (63, .v (undef)), (62, .v (undef)), (61, .v (undef)), (60, vB true), (59, vB true), (58, vI (x.waits.at i).seq), (57, .p 1 0), (3, vI ((i : Nat) : Int)), (4, .p 1 0), (52, vI ((i : Nat) : Int)), (51, vI ((x.waits.n : Nat) : Int)), (50, .v (.slice x.waits.A x.waits.n x.waits.c)), (1, .p 0 0)] [] [] rfl rfl (by kernel_rfl) on wn ?_
                        refine h_nil ?_
                        refine l_nil (q_then_normal ?_)
                        refine c_if true rfl ?_
                        refine c_seq ?_
                        refine c_region ?_
                        refine JL_run 1 [] [2] 0 ⟨[(2, vI 9)], []⟩ [] [] (by kernel_rfl) on wn ?_
                        refine l_nil (q_then_normal ?_)
                        refine c_ret ?_
                        refine q_then_ret (q_block_ret (q_then_ret (q_then_ret (q_block_ret (q_then_ret (q_ret (.inl rfl) [vI 9] rfl (fun bs w hS => ?_)))))))
                        refine ⟨?_, hS.kp⟩
                        simp only [retOf, den, List.map_cons, List.map_nil]
                        have hf : custF x.abs i = 9 := by
                          unfold custF
                          simp only [hat, ha1, ha2, ha3, ha4]
                          first | (rw [if_pos (by omega)] <;> first | rfl | (exfalso; omega)) | (rw [if_neg (by omega)] <;> first | rfl | assumption | (exfalso; omega))
                        rw [hI, firstF_here (by omega) hf (by first | assumption | omega)]
                      | false =>
                        have h11 := of_decide_eq_false h11
                        refine h_quiet [] 7 [(67, vB (decide (x.next ≤ (x.waits.at i).seq))), (66, vB (decide (x.next ≤ (x.waits.at i).seq))), (65, vB (decide (x.next ≤ (x.waits.at i).seq))), (64, vI x.next), (63, .p 0 2), (62, vI (x.waits.at i).seq), (61, .p 1 0), (60, vB false), (59, vB false), (58, vI (x.waits.at i).seq), (57, .p 1 0), (3, vI ((i : Nat) : Int)), (4, .p 1 0), (52, vI ((i : Nat) : Int)), (51, vI ((x.waits.n : Nat) : Int)), (50, .v (.slice x.waits.A x.waits.n x.waits.c)), (1, .p 0 0)] [] [] rfl rfl (by kernel_rfl) on wn ?_
                        cases h12 : decide (x.next ≤ (x.waits.at i).seq) with
                        | true =>
                          have h12 := of_decide_eq_true h12
                          refine h_quiet [] 27 [(94, vB true), (93, .v (undef)), (92, .v (undef)), (91, .v (undef)), (90, .v (undef)), (89, .v (undef)), (88, .v (undef)), (87, .v (undef)), (86, .v (undef)), (85, .v (undef)), (84, .v (undef)), (83, vB true), (82, vB true), (81, .v (undef)), (80, .v (undef)), (79, .v (undef)), (78, .v (undef)), (77, .v (undef)), (76, .v (undef)), (75, .v (undef)), (74, .v (undef)), (73, .v (undef)), (72, .v (undef)), (71, .v (undef)), (70, .v (undef)), (69, .v (undef)), (68, .v (undef)), (67, vB true), (66, vB true), (65, vB true), (64, vI x.next), (63, .p 0 2), (62, vI (x.waits.at i).seq), (61, .p 1 0), (60, vB false), (59, vB false), (58, vI (x.waits.at i).seq), (57, .p 1 0), (3, vI ((i : Nat) : Int)), (4, .p 1 0), (52, vI ((i : Nat) : Int)), (51, vI ((x.waits.n : Nat) : Int)), (50, .v (.slice x.waits.A x.waits.n x.waits.c)), (1, .p 0 0)] [] [] rfl rfl (by kernel_rfl) on wn ?_
                          refine h_nil ?_
                          refine l_nil (q_then_normal ?_)
                          refine c_if true rfl ?_
                          refine c_seq ?_
                          refine c_region ?_
                          refine JL_run 1 [] [2] 0 ⟨[(2, vI 9)], []⟩ [] [] (by kernel_rfl) on wn ?_
                          refine l_nil (q_then_normal ?_)
                          refine c_ret ?_
                          refine q_then_ret (q_block_ret (q_then_ret (q_then_ret (q_block_ret (q_then_ret (q_ret (.inl rfl) [vI 9] rfl (fun bs w hS => ?_)))))))
                          refine ⟨?_, hS.kp⟩
                          simp only [retOf, den, List.map_cons, List.map_nil]
                          have hf : custF x.abs i = 9 := by
                            unfold custF
                            simp only [hat, ha1, ha2, ha3, ha4]
                            first | (rw [if_pos (by omega)] <;> first | rfl | (exfalso; omega)) | (rw [if_neg (by omega)] <;> first | rfl | assumption | (exfalso; omega))
                          rw [hI, firstF_here (by omega) hf (by first | assumption | omega)]
                        | false =>
                          have h12 := of_decide_eq_false h12
                          refine h_quiet [] 3 [(70, vB (decide ((0 : Int) < ((i : Nat) : Int)))), (69, vB (decide ((0 : Int) < ((i : Nat) : Int)))), (68, vI ((i : Nat) : Int)), (67, vB false), (66, vB false), (65, vB false), (64, vI x.next), (63, .p 0 2), (62, vI (x.waits.at i).seq), (61, .p 1 0), (60, vB false), (59, vB false), (58, vI (x.waits.at i).seq), (57, .p 1 0), (3, vI ((i : Nat) : Int)), (4, .p 1 0), (52, vI ((i : Nat) : Int)), (51, vI ((x.waits.n : Nat) : Int)), (50, .v (.slice x.waits.A x.waits.n x.waits.c)), (1, .p 0 0)] [] [] rfl rfl (by kernel_rfl) on wn ?_
                          cases h13 : decide ((0 : Int) < ((i : Nat) : Int)) with
                          | true =>
                            have h13 := of_decide_eq_true h13
                            refine h_quiet [(18, .idx x.waits.ad (i - 1)), (20, .ext [.int .i64 (x.waits.at (i - 1)).seq])] 13 [(83, vB (decide ((x.waits.at i).seq ≤ (x.waits.at (i - 1)).seq))), (82, vB (decide ((x.waits.at i).seq ≤ (x.waits.at (i - 1)).seq))), (81, vB (decide ((x.waits.at i).seq ≤ (x.waits.at (i - 1)).seq))), (80, vB (decide ((x.waits.at i).seq ≤ (x.waits.at (i - 1)).seq))), (79, vI (x.waits.at i).seq), (78, .p 1 0), (77, vI (x.waits.at (i - 1)).seq), (76, .v (.pointer (some ((x.waits.ad.add ((i - 1) * 5)).add 0)))), (75, .v (.pointer (some (x.waits.ad.add ((i - 1) * 5))))), (74, vI (((i : Nat) : Int) - 1)), (73, vI ((i : Nat) : Int)), (72, .v (.slice x.waits.A x.waits.n x.waits.c)), (71, .p 0 3), (70, vB true), (69, vB true), (68, vI ((i : Nat) : Int)), (67, vB false), (66, vB false), (65, vB false), (64, vI x.next), (63, .p 0 2), (62, vI (x.waits.at i).seq), (61, .p 1 0), (60, vB false), (59, vB false), (58, vI (x.waits.at i).seq), (57, .p 1 0), (3, vI ((i : Nat) : Int)), (4, .p 1 0), (52, vI ((i : Nat) : Int)), (51, vI ((x.waits.n : Nat) : Int)), (50, .v (.slice x.waits.A x.waits.n x.waits.c)), (1, .p 0 0)] [inR (((i : Nat) : Int) - 1), x.waits.A = some x.waits.ad, ((i : Nat) : Int) - 1 = (((i - 1) : Nat) : Int), (i - 1) < x.waits.n] [((x.waits.ad.add ((i - 1) * 5)).add 0, [.int .i64 (x.waits.at (i - 1)).seq])] rfl rfl (by kernel_rfl) (oc (by unfold inR; omega) (oc (Sl.ok.own (s := x.waits) (i := (i - 1)) okx (by omega)) (oc (by omega) (oc (by omega) on)))) (fun w hk hr => ⟨(Sl.rd.fld (s := x.waits) (i := (i - 1)) (Rds.kp hx hk) (by omega) 0 1 rfl), trivial⟩) ?_
                            cases h14 : decide ((x.waits.at i).seq ≤ (x.waits.at (i - 1)).seq) with
                            | true =>
                              have h14 := of_decide_eq_true h14
                              refine h_quiet [] 11 [(94, vB true), (93, .v (undef)), (92, .v (undef)), (91, .v (undef)), (90, .v (undef)), (89, .v (undef)), (88, .v (undef)), (87, .v (undef)), (86, .v (undef)), (85, .v (undef)), (84, .v (undef)), (83, vB true), (82, vB true), (81, vB true), (80, vB true), (79, vI (x.waits.at i).seq), (78, .p 1 0), (77, vI (x.waits.at (i - 1)).seq), (76, .v (.pointer (some ((x.waits.ad.add ((i - 1) * 5)).add 0)))), (75, .v (.pointer (some (x.waits.ad.add ((i - 1) * 5))))), (74, vI (((i : Nat) : Int) - 1)), (73, vI ((i : Nat) : Int)), (72, .v (.slice x.waits.A x.waits.n x.waits.c)), (71, .p 0 3), (70, vB true), (69, vB true), (68, vI ((i : Nat) : Int)), (67, vB false), (66, vB false), (65, vB false), (64, vI x.next), (63, .p 0 2), (62, vI (x.waits.at i).seq), (61, .p 1 0), (60, vB false), (59, vB false), (58, vI (x.waits.at i).seq), (57, .p 1 0), (3, vI ((i : Nat) : Int)), (4, .p 1 0), (52, vI ((i : Nat) : Int)), (51, vI ((x.waits.n : Nat) : Int)), (50, .v (.slice x.waits.A x.waits.n x.waits.c)), (1, .p 0 0)] [] [] rfl rfl (by kernel_rfl) on wn ?_
                              refine h_nil ?_
                              refine l_nil (q_then_normal ?_)
                              refine c_if true rfl ?_
                              refine c_seq ?_
                              refine c_region ?_
                              refine JL_run 1 [] [2] 0 ⟨[(2, vI 9)], []⟩ [] [] (by kernel_rfl) on wn ?_
                              refine l_nil (q_then_normal ?_)
                              refine c_ret ?_
                              refine q_then_ret (q_block_ret (q_then_ret (q_then_ret (q_block_ret (q_then_ret (q_ret (.inl rfl) [vI 9] rfl (fun bs w hS => ?_)))))))
                              refine ⟨?_, hS.kp⟩
                              simp only [retOf, den, List.map_cons, List.map_nil]
                              have hf : custF x.abs i = 9 := by
                                unfold custF
                                simp only [hat, ha1, ha2, ha3, ha4]
                                first | (rw [if_pos (by omega)] <;> first | rfl | (exfalso; omega)) | (rw [if_neg (by omega)] <;> first | rfl | assumption | (exfalso; omega))
                              rw [hI, firstF_here (by omega) hf (by first | assumption | omega)]
                            | false =>
                              have h14 := of_decide_eq_false h14
                              refine h_quiet [(31, .idx x.waits.ad 0), (33, .ext [.int .i64 (x.waits.at 0).seq])] 11 [(94, vB (decide (((x.waits.at 0).seq + 4) - 1 < (x.waits.at i).seq))), (93, vB (decide (((x.waits.at 0).seq + 4) - 1 < (x.waits.at i).seq))), (92, vI (((x.waits.at 0).seq + 4) - 1)), (91, vI ((x.waits.at 0).seq + 4)), (90, vI (x.waits.at 0).seq), (89, .v (.pointer (some ((x.waits.ad.add (0 * 5)).add 0)))), (88, .v (.pointer (some (x.waits.ad.add (0 * 5))))), (87, .v (.slice x.waits.A x.waits.n x.waits.c)), (86, .p 0 3), (85, vI (x.waits.at i).seq), (84, .p 1 0), (83, vB false), (82, vB false), (81, vB false), (80, vB false), (79, vI (x.waits.at i).seq), (78, .p 1 0), (77, vI (x.waits.at (i - 1)).seq), (76, .v (.pointer (some ((x.waits.ad.add ((i - 1) * 5)).add 0)))), (75, .v (.pointer (some (x.waits.ad.add ((i - 1) * 5))))), (74, vI (((i : Nat) : Int) - 1)), (73, vI ((i : Nat) : Int)), (72, .v (.slice x.waits.A x.waits.n x.waits.c)), (71, .p 0 3), (70, vB true), (69, vB true), (68, vI ((i : Nat) : Int)), (67, vB false), (66, vB false), (65, vB false), (64, vI x.next), (63, .p 0 2), (62, vI (x.waits.at i).seq), (61, .p 1 0), (60, vB false), (59, vB false), (58, vI (x.waits.at i).seq), (57, .p 1 0), (3, vI ((i : Nat) : Int)), (4, .p 1 0), (52, vI ((i : Nat) : Int)), (51, vI ((x.waits.n : Nat) : Int)), (50, .v (.slice x.waits.A x.waits.n x.waits.c)), (1, .p 0 0)] [x.waits.A = some x.waits.ad, (0 : Int) = ((0 : Nat) : Int), 0 < x.waits.n, inR ((x.waits.at 0).seq + 4), inR (((x.waits.at 0).seq + 4) - 1)] [((x.waits.ad.add (0 * 5)).add 0, [.int .i64 (x.waits.at 0).seq])] rfl rfl (by kernel_rfl) (oc (Sl.ok.own (s := x.waits) (i := 0) okx (by omega)) (oc rfl (oc (by omega) (oc (by unfold inR; omega) (oc (by unfold inR; omega) on))))) (fun w hk hr => ⟨(Sl.rd.fld (s := x.waits) (i := 0) (Rds.kp hx hk) (by omega) 0 1 rfl), trivial⟩) ?_
                              refine h_nil ?_
                              refine l_nil (q_then_normal ?_)
                              cases h15 : decide (((x.waits.at 0).seq + 4) - 1 < (x.waits.at i).seq) with
                              | true =>
                                have h15 := of_decide_eq_true h15
                                refine c_if true rfl ?_
                                refine c_seq ?_
                                refine c_region ?_
                                refine JL_run 1 [] [2] 0 ⟨[(2, vI 9)], []⟩ [] [] (by kernel_rfl) on wn ?_
                                refine l_nil (q_then_normal ?_)
                                refine c_ret ?_
                                refine q_then_ret (q_block_ret (q_then_ret (q_then_ret (q_block_ret (q_then_ret (q_ret (.inl rfl) [vI 9] rfl (fun bs w hS => ?_)))))))
                                refine ⟨?_, hS.kp⟩
                                simp only [retOf, den, List.map_cons, List.map_nil]
                                have hf : custF x.abs i = 9 := by
                                  unfold custF
                                  simp only [hat, ha1, ha2, ha3, ha4]
                                  first | (rw [if_pos (by omega)] <;> first | rfl | (exfalso; omega)) | (rw [if_neg (by omega)] <;> first | rfl | assumption | (exfalso; omega))
                                rw [hI, firstF_here (by omega) hf (by first | assumption | omega)]
                              | false =>
                                have h15 := of_decide_eq_false h15
                                refine c_if false rfl ?_
                                refine c_skip ?_
                                refine q_then_normal ?_
                                refine c_seq ?_
                                refine c_region ?_
                                refine JL_run 2 [] [96, 52, 51, 50, 1] 1 ⟨[(96, .v (.agg #[.int .i64 (x.waits.at i).op.kind, .string (x.waits.at i).op.a, .string (x.waits.at i).op.b, .int .i64 (x.waits.at i).op.n])), (52, vI ((i : Nat) : Int)), (51, vI ((x.waits.n : Nat) : Int)), (50, .v (.slice x.waits.A x.waits.n x.waits.c)), (1, .p 0 0)], [⟨24, [vI x.id, vI x.session, vI x.next, .v (.slice x.waits.A x.waits.n x.waits.c)]⟩]⟩ [] [] (by kernel_rfl) on wn ?_
                                refine l_pure 46 [] [.v (.agg #[.int .i64 (x.waits.at i).op.kind, .string (x.waits.at i).op.a, .string (x.waits.at i).op.b, .int .i64 (x.waits.at i).op.n])] (.int .i64 (mOp (x.waits.at i).op)) Try.call46 rfl rfl rfl rfl (fun bs w hS => command_CheckOp (B := anyB) (x.waits.at i).op w ⟨(And.left (Sl.ok.at (s := x.waits) (i := i) okx (by omega))), (And.right (Sl.ok.at (s := x.waits) (i := i) okx (by omega)))⟩) ?_
                                refine JL_run 1 [] [5, 52, 51, 50, 1] 1 ⟨[(5, vI (mOp (x.waits.at i).op)), (52, vI ((i : Nat) : Int)), (51, vI ((x.waits.n : Nat) : Int)), (50, .v (.slice x.waits.A x.waits.n x.waits.c)), (1, .p 0 0)], [⟨24, [vI x.id, vI x.session, vI x.next, .v (.slice x.waits.A x.waits.n x.waits.c)]⟩]⟩ [] [] (by kernel_rfl) on wn ?_
                                refine l_nil (q_then_normal ?_)
                                refine c_seq ?_
                                refine c_region ?_
                                refine JL_run 2 [] [99, 5, 52, 51, 50, 1] 1 ⟨[(99, vB (!(decide (mOp (x.waits.at i).op = 0)))), (5, vI (mOp (x.waits.at i).op)), (52, vI ((i : Nat) : Int)), (51, vI ((x.waits.n : Nat) : Int)), (50, .v (.slice x.waits.A x.waits.n x.waits.c)), (1, .p 0 0)], [⟨24, [vI x.id, vI x.session, vI x.next, .v (.slice x.waits.A x.waits.n x.waits.c)]⟩]⟩ [] [] (by kernel_rfl) on wn ?_
                                refine l_nil (q_then_normal ?_)
                                cases h16 : decide (mOp (x.waits.at i).op = 0) with
                                | true =>
                                  have h16 := of_decide_eq_true h16
                                  refine c_if false rfl ?_
                                  refine c_skip ?_
                                  refine q_block_normal (q_then_normal ?_)
                                  refine c_region ?_
                                  refine JL_run 2 [] [52, 51, 50, 1] 1 ⟨[(52, vI (((i : Nat) : Int) + 1)), (51, vI ((x.waits.n : Nat) : Int)), (50, .v (.slice x.waits.A x.waits.n x.waits.c)), (1, .p 0 0)], [⟨24, [vI x.id, vI x.session, vI x.next, .v (.slice x.waits.A x.waits.n x.waits.c)]⟩]⟩ [inR (((i : Nat) : Int) + 1)] [] (by kernel_rfl) (oc (by unfold inR; omega) on) wn ?_
                                  have hf0 : custF x.abs i = 0 := by
                                    unfold custF
                                    simp only [hat, ha1, ha2, ha3, ha4]
                                    first | (rw [if_pos (by omega)] <;> first | rfl | (exfalso; omega)) | (rw [if_neg (by omega)] <;> first | rfl | assumption | (exfalso; omega))
                                  refine l_nil (q_loop (x := (i : Nat)) ((i + 1) : Nat) ⟨by omega, by rw [hI]; exact firstF_step (by omega) hf0, fun _ => by omega⟩ (by omega) (s_start [52, 51, 50, 1] 1 (by kernel_rfl) rfl))
                                | false =>
                                  have h16 := of_decide_eq_false h16
                                  refine c_if true rfl ?_
                                  refine c_seq ?_
                                  refine c_region ?_
                                  refine JL_run 2 [] [2] 0 ⟨[(2, vI (mOp (x.waits.at i).op))], []⟩ [] [] (by kernel_rfl) on wn ?_
                                  refine l_nil (q_then_normal ?_)
                                  refine c_ret ?_
                                  refine q_block_ret (q_then_ret (q_then_ret (q_block_ret (q_then_ret (q_ret (.inl rfl) [vI (mOp (x.waits.at i).op)] rfl (fun bs w hS => ?_))))))
                                  refine ⟨?_, hS.kp⟩
                                  simp only [retOf, den, List.map_cons, List.map_nil]
                                  have hf : custF x.abs i = mOp (x.waits.at i).op := by
                                    unfold custF
                                    simp only [hat, ha1, ha2, ha3, ha4]
                                    first | (rw [if_pos (by omega)] <;> first | rfl | (exfalso; omega)) | (rw [if_neg (by omega)] <;> first | rfl | assumption | (exfalso; omega))
                                  rw [hI, firstF_here (by omega) hf (by first | assumption | omega)]
                          | false =>
                            have h13 := of_decide_eq_false h13
                            refine h_quiet [(31, .idx x.waits.ad 0), (33, .ext [.int .i64 (x.waits.at 0).seq])] 24 [(94, vB (decide (((x.waits.at 0).seq + 4) - 1 < (x.waits.at i).seq))), (93, vB (decide (((x.waits.at 0).seq + 4) - 1 < (x.waits.at i).seq))), (92, vI (((x.waits.at 0).seq + 4) - 1)), (91, vI ((x.waits.at 0).seq + 4)), (90, vI (x.waits.at 0).seq), (89, .v (.pointer (some ((x.waits.ad.add (0 * 5)).add 0)))), (88, .v (.pointer (some (x.waits.ad.add (0 * 5))))), (87, .v (.slice x.waits.A x.waits.n x.waits.c)), (86, .p 0 3), (85, vI (x.waits.at i).seq), (84, .p 1 0), (83, vB false), (82, vB false), (81, vB false), (80, .v (undef)), (79, .v (undef)), (78, .v (undef)), (77, .v (undef)), (76, .v (undef)), (75, .v (undef)), (74, .v (undef)), (73, .v (undef)), (72, .v (undef)), (71, .v (undef)), (70, vB false), (69, vB false), (68, vI ((i : Nat) : Int)), (67, vB false), (66, vB false), (65, vB false), (64, vI x.next), (63, .p 0 2), (62, vI (x.waits.at i).seq), (61, .p 1 0), (60, vB false), (59, vB false), (58, vI (x.waits.at i).seq), (57, .p 1 0), (3, vI ((i : Nat) : Int)), (4, .p 1 0), (52, vI ((i : Nat) : Int)), (51, vI ((x.waits.n : Nat) : Int)), (50, .v (.slice x.waits.A x.waits.n x.waits.c)), (1, .p 0 0)] [x.waits.A = some x.waits.ad, (0 : Int) = ((0 : Nat) : Int), 0 < x.waits.n, inR ((x.waits.at 0).seq + 4), inR (((x.waits.at 0).seq + 4) - 1)] [((x.waits.ad.add (0 * 5)).add 0, [.int .i64 (x.waits.at 0).seq])] rfl rfl (by kernel_rfl) (oc (Sl.ok.own (s := x.waits) (i := 0) okx (by omega)) (oc rfl (oc (by omega) (oc (by unfold inR; omega) (oc (by unfold inR; omega) on))))) (fun w hk hr => ⟨(Sl.rd.fld (s := x.waits) (i := 0) (Rds.kp hx hk) (by omega) 0 1 rfl), trivial⟩) ?_
                            refine h_nil ?_
                            refine l_nil (q_then_normal ?_)
                            cases h17 : decide (((x.waits.at 0).seq + 4) - 1 < (x.waits.at i).seq) with
                            | true =>
                              have h17 := of_decide_eq_true h17
                              refine c_if true rfl ?_
                              refine c_seq ?_
                              refine c_region ?_
                              refine JL_run 1 [] [2] 0 ⟨[(2, vI 9)], []⟩ [] [] (by kernel_rfl) on wn ?_
                              refine l_nil (q_then_normal ?_)
                              refine c_ret ?_
                              refine q_then_ret (q_block_ret (q_then_ret (q_then_ret (q_block_ret (q_then_ret (q_ret (.inl rfl) [vI 9] rfl (fun bs w hS => ?_)))))))
                              refine ⟨?_, hS.kp⟩
                              simp only [retOf, den, List.map_cons, List.map_nil]
                              have hf : custF x.abs i = 9 := by
                                unfold custF
                                simp only [hat, ha1, ha2, ha3, ha4]
                                first | (rw [if_pos (by omega)] <;> first | rfl | (exfalso; omega)) | (rw [if_neg (by omega)] <;> first | rfl | assumption | (exfalso; omega))
                              rw [hI, firstF_here (by omega) hf (by first | assumption | omega)]
                            | false =>
                              have h17 := of_decide_eq_false h17
                              refine c_if false rfl ?_
                              refine c_skip ?_
                              refine q_then_normal ?_
                              refine c_seq ?_
                              refine c_region ?_
                              refine JL_run 2 [] [96, 52, 51, 50, 1] 1 ⟨[(96, .v (.agg #[.int .i64 (x.waits.at i).op.kind, .string (x.waits.at i).op.a, .string (x.waits.at i).op.b, .int .i64 (x.waits.at i).op.n])), (52, vI ((i : Nat) : Int)), (51, vI ((x.waits.n : Nat) : Int)), (50, .v (.slice x.waits.A x.waits.n x.waits.c)), (1, .p 0 0)], [⟨24, [vI x.id, vI x.session, vI x.next, .v (.slice x.waits.A x.waits.n x.waits.c)]⟩]⟩ [] [] (by kernel_rfl) on wn ?_
                              refine l_pure 46 [] [.v (.agg #[.int .i64 (x.waits.at i).op.kind, .string (x.waits.at i).op.a, .string (x.waits.at i).op.b, .int .i64 (x.waits.at i).op.n])] (.int .i64 (mOp (x.waits.at i).op)) Try.call46 rfl rfl rfl rfl (fun bs w hS => command_CheckOp (B := anyB) (x.waits.at i).op w ⟨(And.left (Sl.ok.at (s := x.waits) (i := i) okx (by omega))), (And.right (Sl.ok.at (s := x.waits) (i := i) okx (by omega)))⟩) ?_
                              refine JL_run 1 [] [5, 52, 51, 50, 1] 1 ⟨[(5, vI (mOp (x.waits.at i).op)), (52, vI ((i : Nat) : Int)), (51, vI ((x.waits.n : Nat) : Int)), (50, .v (.slice x.waits.A x.waits.n x.waits.c)), (1, .p 0 0)], [⟨24, [vI x.id, vI x.session, vI x.next, .v (.slice x.waits.A x.waits.n x.waits.c)]⟩]⟩ [] [] (by kernel_rfl) on wn ?_
                              refine l_nil (q_then_normal ?_)
                              refine c_seq ?_
                              refine c_region ?_
                              refine JL_run 2 [] [99, 5, 52, 51, 50, 1] 1 ⟨[(99, vB (!(decide (mOp (x.waits.at i).op = 0)))), (5, vI (mOp (x.waits.at i).op)), (52, vI ((i : Nat) : Int)), (51, vI ((x.waits.n : Nat) : Int)), (50, .v (.slice x.waits.A x.waits.n x.waits.c)), (1, .p 0 0)], [⟨24, [vI x.id, vI x.session, vI x.next, .v (.slice x.waits.A x.waits.n x.waits.c)]⟩]⟩ [] [] (by kernel_rfl) on wn ?_
                              refine l_nil (q_then_normal ?_)
                              cases h18 : decide (mOp (x.waits.at i).op = 0) with
                              | true =>
                                have h18 := of_decide_eq_true h18
                                refine c_if false rfl ?_
                                refine c_skip ?_
                                refine q_block_normal (q_then_normal ?_)
                                refine c_region ?_
                                refine JL_run 2 [] [52, 51, 50, 1] 1 ⟨[(52, vI (((i : Nat) : Int) + 1)), (51, vI ((x.waits.n : Nat) : Int)), (50, .v (.slice x.waits.A x.waits.n x.waits.c)), (1, .p 0 0)], [⟨24, [vI x.id, vI x.session, vI x.next, .v (.slice x.waits.A x.waits.n x.waits.c)]⟩]⟩ [inR (((i : Nat) : Int) + 1)] [] (by kernel_rfl) (oc (by unfold inR; omega) on) wn ?_
                                have hf0 : custF x.abs i = 0 := by
                                  unfold custF
                                  simp only [hat, ha1, ha2, ha3, ha4]
                                  first | (rw [if_pos (by omega)] <;> first | rfl | (exfalso; omega)) | (rw [if_neg (by omega)] <;> first | rfl | assumption | (exfalso; omega))
                                refine l_nil (q_loop (x := (i : Nat)) ((i + 1) : Nat) ⟨by omega, by rw [hI]; exact firstF_step (by omega) hf0, fun _ => by omega⟩ (by omega) (s_start [52, 51, 50, 1] 1 (by kernel_rfl) rfl))
                              | false =>
                                have h18 := of_decide_eq_false h18
                                refine c_if true rfl ?_
                                refine c_seq ?_
                                refine c_region ?_
                                refine JL_run 2 [] [2] 0 ⟨[(2, vI (mOp (x.waits.at i).op))], []⟩ [] [] (by kernel_rfl) on wn ?_
                                refine l_nil (q_then_normal ?_)
                                refine c_ret ?_
                                refine q_block_ret (q_then_ret (q_then_ret (q_block_ret (q_then_ret (q_ret (.inl rfl) [vI (mOp (x.waits.at i).op)] rfl (fun bs w hS => ?_))))))
                                refine ⟨?_, hS.kp⟩
                                simp only [retOf, den, List.map_cons, List.map_nil]
                                have hf : custF x.abs i = mOp (x.waits.at i).op := by
                                  unfold custF
                                  simp only [hat, ha1, ha2, ha3, ha4]
                                  first | (rw [if_pos (by omega)] <;> first | rfl | (exfalso; omega)) | (rw [if_neg (by omega)] <;> first | rfl | assumption | (exfalso; omega))
                                rw [hI, firstF_here (by omega) hf (by first | assumption | omega)]
                    | false =>
                      have h10 := of_decide_eq_false h10
                      refine c_if false rfl ?_
                      refine c_exit ?_
                      refine q_then_exit (q_then_exit (q_block_hit (q_then_normal ?_)))
                      refine c_seq ?_
                      refine c_region ?_
                      refine JL_run 1 [] [2] 0 ⟨[(2, vI 0)], []⟩ [] [] (by kernel_rfl) on wn ?_
                      refine l_nil (q_then_normal ?_)
                      refine c_ret ?_
                      refine q_ret (.inl rfl) [vI 0] rfl (fun bs w hS => ?_)
                      refine ⟨?_, hS.kp⟩
                      simp only [retOf, den, List.map_cons, List.map_nil]
                      rw [hI, firstF_end (by omega)]
                | false =>
                  have h8 := of_decide_eq_false h8
                  refine JL_run 6 [] [48, 1] 1 ⟨[(48, vB false), (1, .p 0 0)], [⟨24, [vI x.id, vI x.session, vI x.next, .v (.slice x.waits.A x.waits.n x.waits.c)]⟩]⟩ [] [] (by kernel_rfl) on wn ?_
                  refine l_nil (q_then_normal ?_)
                  refine c_if false rfl ?_
                  refine c_skip ?_
                  refine q_then_normal ?_
                  refine c_seq ?_
                  refine c_seq ?_
                  refine c_region ?_
                  refine JL_run 4 [] [52, 51, 50, 1] 1 ⟨[(52, vI 0), (51, vI ((x.waits.n : Nat) : Int)), (50, .v (.slice x.waits.A x.waits.n x.waits.c)), (1, .p 0 0)], [⟨24, [vI x.id, vI x.session, vI x.next, .v (.slice x.waits.A x.waits.n x.waits.c)]⟩]⟩ [] [] (by kernel_rfl) on wn ?_
                  refine l_nil (q_then_normal ?_)
                  refine c_block ?_
                  refine c_loop (σ := Nat) (fun i => i ≤ x.waits.n ∧ mCust x.abs = firstF (custF x.abs) (x.waits.n - i) i ∧ (0 < i → 1 ≤ (x.waits.at 0).seq ∧ (x.waits.at 0).seq < x.next)) (fun i => x.waits.n - i) (fun i => []) (fun i => ⟨[(52, vI ((i : Nat) : Int)), (51, vI ((x.waits.n : Nat) : Int)), (50, .v (.slice x.waits.A x.waits.n x.waits.c)), (1, .p 0 0)], [⟨24, [vI x.id, vI x.session, vI x.next, .v (.slice x.waits.A x.waits.n x.waits.c)]⟩]⟩) 0 ⟨Nat.zero_le _, by unfold mCust; simp only [ha1, ha2, ha3, ha4]; rw [if_neg (by omega), if_neg (by omega)], fun h => absurd h (by omega)⟩ (s_start [52, 51, 50, 1] 1 (by kernel_rfl) rfl) ?_
                  rintro i ⟨hi, hI, h0⟩
                  have hz : i = 0 ∨ (0 < i ∧ 1 ≤ (x.waits.at 0).seq ∧ (x.waits.at 0).seq < x.next) := by rcases Nat.eq_zero_or_pos i with h | h; exact .inl h; exact .inr ⟨h, h0 h⟩
                  have hz2 : i = 0 → (x.waits.at i).seq = (x.waits.at 0).seq := fun h => by rw [h]
                  refine c_seq ?_
                  refine c_region ?_
                  refine JL_run 1 [] [53, 52, 51, 50, 1] 1 ⟨[(53, vB (decide (((i : Nat) : Int) < ((x.waits.n : Nat) : Int)))), (52, vI ((i : Nat) : Int)), (51, vI ((x.waits.n : Nat) : Int)), (50, .v (.slice x.waits.A x.waits.n x.waits.c)), (1, .p 0 0)], [⟨24, [vI x.id, vI x.session, vI x.next, .v (.slice x.waits.A x.waits.n x.waits.c)]⟩]⟩ [] [] (by kernel_rfl) on wn ?_
                  refine l_nil (q_then_normal ?_)
                  refine c_seq ?_
                  cases h19 : decide (((i : Nat) : Int) < ((x.waits.n : Nat) : Int)) with
                  | true =>
                    have h19 := of_decide_eq_true h19
                    refine c_if true rfl ?_
                    refine c_skip ?_
                    refine q_then_normal ?_
                    refine c_seq ?_
                    refine c_block ?_
                    refine c_seq ?_
                    refine c_region ?_
                    refine JL_run 6 [(1, .idx x.waits.ad i), (2, .ext [.int .i64 (x.waits.at i).seq, .int .i64 (x.waits.at i).op.kind, .string (x.waits.at i).op.a, .string (x.waits.at i).op.b, .int .i64 (x.waits.at i).op.n])] [3, 4, 52, 51, 50, 1] 2 ⟨[(3, vI ((i : Nat) : Int)), (4, .p 1 0), (52, vI ((i : Nat) : Int)), (51, vI ((x.waits.n : Nat) : Int)), (50, .v (.slice x.waits.A x.waits.n x.waits.c)), (1, .p 0 0)], [⟨24, [vI x.id, vI x.session, vI x.next, .v (.slice x.waits.A x.waits.n x.waits.c)]⟩, ⟨83, [vI (x.waits.at i).seq, vI (x.waits.at i).op.kind, vS (x.waits.at i).op.a, vS (x.waits.at i).op.b, vI (x.waits.at i).op.n]⟩]⟩ [x.waits.A = some x.waits.ad, ((i : Nat) : Int) = ((i : Nat) : Int), i < x.waits.n] [(x.waits.ad.add (i * 5), [.int .i64 (x.waits.at i).seq, .int .i64 (x.waits.at i).op.kind, .string (x.waits.at i).op.a, .string (x.waits.at i).op.b, .int .i64 (x.waits.at i).op.n])] (by kernel_rfl) (oc (Sl.ok.own (s := x.waits) (i := i) okx (by omega)) (oc rfl (oc (by omega) on))) (fun w hk hr => ⟨(Sl.rd.all (s := x.waits) (i := i) (Rds.kp hx hk) (by omega) rfl), trivial⟩) ?_
                    refine l_nil (q_then_normal ?_)
                    refine c_seq ?_
                    refine c_seq ?_
                    refine c_draw 38 [(0, false), (1, false), (2, false), (3, false), (4, false), (5, false), (6, false), (7, false), (8, false), (9, false), (10, false), (11, false), (12, false), (13, false), (14, false), (15, false), (16, false), (17, false), (18, false), (19, false), (20, false), (21, false), (22, false), (23, false), (24, false), (25, false), (26, false), (27, false), (28, false), (29, false), (30, false), (31, false), (32, false), (33, false), (34, false), (35, false), (36, false), (37, false)] [] [] Try_mixed (by kernel_rfl) (pq_then (pq_then (pq_block (pq_then (pq_then (pq_block (pq_then pq_body))))))) (List.Sublist.refl _) ?_
                    refine h_quiet [] 4 [(60, vB (decide ((x.waits.at i).seq < 1))), (59, vB (decide ((x.waits.at i).seq < 1))), (58, vI (x.waits.at i).seq), (57, .p 1 0), (3, vI ((i : Nat) : Int)), (4, .p 1 0), (52, vI ((i : Nat) : Int)), (51, vI ((x.waits.n : Nat) : Int)), (50, .v (.slice x.waits.A x.waits.n x.waits.c)), (1, .p 0 0)] [] [] rfl rfl (by kernel_rfl) on wn ?_
                    cases h20 : decide ((x.waits.at i).seq < 1) with
                    | true =>
                      have h20 := of_decide_eq_true h20
                      refine h_quiet [] 34 [(94, vB true), (93, .v (undef)), (92, .v (undef)), (91, .v (undef)), (90, .v (undef)), (89, .v (undef)), (88, .v (undef)), (87, .v (undef)), (86, .v (undef)), (85, .v (undef)), (84, .v (undef)), (83, vB true), (82, vB true), (81, .v (undef)), (80, .v (undef)), (79, .v (undef)), (78, .v (undef)), (77, .v (undef)), (76, .v (undef)), (75, .v (undef)), (74, .v (undef)), (73, .v (undef)), (72, .v (undef)), (71, .v (undef)), (70, .v (undef)), (69, .v (undef)), (68, .v (undef)), (67, vB true), (66, vB true), (65, .v (undef)), (64, .v (undef)), (63, .v (undef)), (62, .v (undef)), (61, .v (undef)), (60, vB true), (59, vB true), (58, vI (x.waits.at i).seq), (57, .p 1 0), (3, vI ((i : Nat) : Int)), (4, .p 1 0), (52, vI ((i : Nat) : Int)), (51, vI ((x.waits.n : Nat) : Int)), (50, .v (.slice x.waits.A x.waits.n x.waits.c)), (1, .p 0 0)] [] [] rfl rfl (by kernel_rfl) on wn ?_
                      refine h_nil ?_
                      refine l_nil (q_then_normal ?_)
                      refine c_if true rfl ?_
                      refine c_seq ?_
                      refine c_region ?_
                      refine JL_run 1 [] [2] 0 ⟨[(2, vI 9)], []⟩ [] [] (by kernel_rfl) on wn ?_
                      refine l_nil (q_then_normal ?_)
                      refine c_ret ?_
                      refine q_then_ret (q_block_ret (q_then_ret (q_then_ret (q_block_ret (q_then_ret (q_ret (.inl rfl) [vI 9] rfl (fun bs w hS => ?_)))))))
                      refine ⟨?_, hS.kp⟩
                      simp only [retOf, den, List.map_cons, List.map_nil]
                      have hf : custF x.abs i = 9 := by
                        unfold custF
                        simp only [hat, ha1, ha2, ha3, ha4]
                        first | (rw [if_pos (by omega)] <;> first | rfl | (exfalso; omega)) | (rw [if_neg (by omega)] <;> first | rfl | assumption | (exfalso; omega))
                      rw [hI, firstF_here (by omega) hf (by first | assumption | omega)]
                    | false =>
                      have h20 := of_decide_eq_false h20
                      refine h_quiet [] 7 [(67, vB (decide (x.next ≤ (x.waits.at i).seq))), (66, vB (decide (x.next ≤ (x.waits.at i).seq))), (65, vB (decide (x.next ≤ (x.waits.at i).seq))), (64, vI x.next), (63, .p 0 2), (62, vI (x.waits.at i).seq), (61, .p 1 0), (60, vB false), (59, vB false), (58, vI (x.waits.at i).seq), (57, .p 1 0), (3, vI ((i : Nat) : Int)), (4, .p 1 0), (52, vI ((i : Nat) : Int)), (51, vI ((x.waits.n : Nat) : Int)), (50, .v (.slice x.waits.A x.waits.n x.waits.c)), (1, .p 0 0)] [] [] rfl rfl (by kernel_rfl) on wn ?_
                      cases h21 : decide (x.next ≤ (x.waits.at i).seq) with
                      | true =>
                        have h21 := of_decide_eq_true h21
                        refine h_quiet [] 27 [(94, vB true), (93, .v (undef)), (92, .v (undef)), (91, .v (undef)), (90, .v (undef)), (89, .v (undef)), (88, .v (undef)), (87, .v (undef)), (86, .v (undef)), (85, .v (undef)), (84, .v (undef)), (83, vB true), (82, vB true), (81, .v (undef)), (80, .v (undef)), (79, .v (undef)), (78, .v (undef)), (77, .v (undef)), (76, .v (undef)), (75, .v (undef)), (74, .v (undef)), (73, .v (undef)), (72, .v (undef)), (71, .v (undef)), (70, .v (undef)), (69, .v (undef)), (68, .v (undef)), (67, vB true), (66, vB true), (65, vB true), (64, vI x.next), (63, .p 0 2), (62, vI (x.waits.at i).seq), (61, .p 1 0), (60, vB false), (59, vB false), (58, vI (x.waits.at i).seq), (57, .p 1 0), (3, vI ((i : Nat) : Int)), (4, .p 1 0), (52, vI ((i : Nat) : Int)), (51, vI ((x.waits.n : Nat) : Int)), (50, .v (.slice x.waits.A x.waits.n x.waits.c)), (1, .p 0 0)] [] [] rfl rfl (by kernel_rfl) on wn ?_
                        refine h_nil ?_
                        refine l_nil (q_then_normal ?_)
                        refine c_if true rfl ?_
                        refine c_seq ?_
                        refine c_region ?_
                        refine JL_run 1 [] [2] 0 ⟨[(2, vI 9)], []⟩ [] [] (by kernel_rfl) on wn ?_
                        refine l_nil (q_then_normal ?_)
                        refine c_ret ?_
                        refine q_then_ret (q_block_ret (q_then_ret (q_then_ret (q_block_ret (q_then_ret (q_ret (.inl rfl) [vI 9] rfl (fun bs w hS => ?_)))))))
                        refine ⟨?_, hS.kp⟩
                        simp only [retOf, den, List.map_cons, List.map_nil]
                        have hf : custF x.abs i = 9 := by
                          unfold custF
                          simp only [hat, ha1, ha2, ha3, ha4]
                          first | (rw [if_pos (by omega)] <;> first | rfl | (exfalso; omega)) | (rw [if_neg (by omega)] <;> first | rfl | assumption | (exfalso; omega))
                        rw [hI, firstF_here (by omega) hf (by first | assumption | omega)]
                      | false =>
                        have h21 := of_decide_eq_false h21
                        refine h_quiet [] 3 [(70, vB (decide ((0 : Int) < ((i : Nat) : Int)))), (69, vB (decide ((0 : Int) < ((i : Nat) : Int)))), (68, vI ((i : Nat) : Int)), (67, vB false), (66, vB false), (65, vB false), (64, vI x.next), (63, .p 0 2), (62, vI (x.waits.at i).seq), (61, .p 1 0), (60, vB false), (59, vB false), (58, vI (x.waits.at i).seq), (57, .p 1 0), (3, vI ((i : Nat) : Int)), (4, .p 1 0), (52, vI ((i : Nat) : Int)), (51, vI ((x.waits.n : Nat) : Int)), (50, .v (.slice x.waits.A x.waits.n x.waits.c)), (1, .p 0 0)] [] [] rfl rfl (by kernel_rfl) on wn ?_
                        cases h22 : decide ((0 : Int) < ((i : Nat) : Int)) with
                        | true =>
                          have h22 := of_decide_eq_true h22
                          refine h_quiet [(18, .idx x.waits.ad (i - 1)), (20, .ext [.int .i64 (x.waits.at (i - 1)).seq])] 13 [(83, vB (decide ((x.waits.at i).seq ≤ (x.waits.at (i - 1)).seq))), (82, vB (decide ((x.waits.at i).seq ≤ (x.waits.at (i - 1)).seq))), (81, vB (decide ((x.waits.at i).seq ≤ (x.waits.at (i - 1)).seq))), (80, vB (decide ((x.waits.at i).seq ≤ (x.waits.at (i - 1)).seq))), (79, vI (x.waits.at i).seq), (78, .p 1 0), (77, vI (x.waits.at (i - 1)).seq), (76, .v (.pointer (some ((x.waits.ad.add ((i - 1) * 5)).add 0)))), (75, .v (.pointer (some (x.waits.ad.add ((i - 1) * 5))))), (74, vI (((i : Nat) : Int) - 1)), (73, vI ((i : Nat) : Int)), (72, .v (.slice x.waits.A x.waits.n x.waits.c)), (71, .p 0 3), (70, vB true), (69, vB true), (68, vI ((i : Nat) : Int)), (67, vB false), (66, vB false), (65, vB false), (64, vI x.next), (63, .p 0 2), (62, vI (x.waits.at i).seq), (61, .p 1 0), (60, vB false), (59, vB false), (58, vI (x.waits.at i).seq), (57, .p 1 0), (3, vI ((i : Nat) : Int)), (4, .p 1 0), (52, vI ((i : Nat) : Int)), (51, vI ((x.waits.n : Nat) : Int)), (50, .v (.slice x.waits.A x.waits.n x.waits.c)), (1, .p 0 0)] [inR (((i : Nat) : Int) - 1), x.waits.A = some x.waits.ad, ((i : Nat) : Int) - 1 = (((i - 1) : Nat) : Int), (i - 1) < x.waits.n] [((x.waits.ad.add ((i - 1) * 5)).add 0, [.int .i64 (x.waits.at (i - 1)).seq])] rfl rfl (by kernel_rfl) (oc (by unfold inR; omega) (oc (Sl.ok.own (s := x.waits) (i := (i - 1)) okx (by omega)) (oc (by omega) (oc (by omega) on)))) (fun w hk hr => ⟨(Sl.rd.fld (s := x.waits) (i := (i - 1)) (Rds.kp hx hk) (by omega) 0 1 rfl), trivial⟩) ?_
                          cases h23 : decide ((x.waits.at i).seq ≤ (x.waits.at (i - 1)).seq) with
                          | true =>
                            have h23 := of_decide_eq_true h23
                            refine h_quiet [] 11 [(94, vB true), (93, .v (undef)), (92, .v (undef)), (91, .v (undef)), (90, .v (undef)), (89, .v (undef)), (88, .v (undef)), (87, .v (undef)), (86, .v (undef)), (85, .v (undef)), (84, .v (undef)), (83, vB true), (82, vB true), (81, vB true), (80, vB true), (79, vI (x.waits.at i).seq), (78, .p 1 0), (77, vI (x.waits.at (i - 1)).seq), (76, .v (.pointer (some ((x.waits.ad.add ((i - 1) * 5)).add 0)))), (75, .v (.pointer (some (x.waits.ad.add ((i - 1) * 5))))), (74, vI (((i : Nat) : Int) - 1)), (73, vI ((i : Nat) : Int)), (72, .v (.slice x.waits.A x.waits.n x.waits.c)), (71, .p 0 3), (70, vB true), (69, vB true), (68, vI ((i : Nat) : Int)), (67, vB false), (66, vB false), (65, vB false), (64, vI x.next), (63, .p 0 2), (62, vI (x.waits.at i).seq), (61, .p 1 0), (60, vB false), (59, vB false), (58, vI (x.waits.at i).seq), (57, .p 1 0), (3, vI ((i : Nat) : Int)), (4, .p 1 0), (52, vI ((i : Nat) : Int)), (51, vI ((x.waits.n : Nat) : Int)), (50, .v (.slice x.waits.A x.waits.n x.waits.c)), (1, .p 0 0)] [] [] rfl rfl (by kernel_rfl) on wn ?_
                            refine h_nil ?_
                            refine l_nil (q_then_normal ?_)
                            refine c_if true rfl ?_
                            refine c_seq ?_
                            refine c_region ?_
                            refine JL_run 1 [] [2] 0 ⟨[(2, vI 9)], []⟩ [] [] (by kernel_rfl) on wn ?_
                            refine l_nil (q_then_normal ?_)
                            refine c_ret ?_
                            refine q_then_ret (q_block_ret (q_then_ret (q_then_ret (q_block_ret (q_then_ret (q_ret (.inl rfl) [vI 9] rfl (fun bs w hS => ?_)))))))
                            refine ⟨?_, hS.kp⟩
                            simp only [retOf, den, List.map_cons, List.map_nil]
                            have hf : custF x.abs i = 9 := by
                              unfold custF
                              simp only [hat, ha1, ha2, ha3, ha4]
                              first | (rw [if_pos (by omega)] <;> first | rfl | (exfalso; omega)) | (rw [if_neg (by omega)] <;> first | rfl | assumption | (exfalso; omega))
                            rw [hI, firstF_here (by omega) hf (by first | assumption | omega)]
                          | false =>
                            have h23 := of_decide_eq_false h23
                            refine h_quiet [(31, .idx x.waits.ad 0), (33, .ext [.int .i64 (x.waits.at 0).seq])] 11 [(94, vB (decide (((x.waits.at 0).seq + 4) - 1 < (x.waits.at i).seq))), (93, vB (decide (((x.waits.at 0).seq + 4) - 1 < (x.waits.at i).seq))), (92, vI (((x.waits.at 0).seq + 4) - 1)), (91, vI ((x.waits.at 0).seq + 4)), (90, vI (x.waits.at 0).seq), (89, .v (.pointer (some ((x.waits.ad.add (0 * 5)).add 0)))), (88, .v (.pointer (some (x.waits.ad.add (0 * 5))))), (87, .v (.slice x.waits.A x.waits.n x.waits.c)), (86, .p 0 3), (85, vI (x.waits.at i).seq), (84, .p 1 0), (83, vB false), (82, vB false), (81, vB false), (80, vB false), (79, vI (x.waits.at i).seq), (78, .p 1 0), (77, vI (x.waits.at (i - 1)).seq), (76, .v (.pointer (some ((x.waits.ad.add ((i - 1) * 5)).add 0)))), (75, .v (.pointer (some (x.waits.ad.add ((i - 1) * 5))))), (74, vI (((i : Nat) : Int) - 1)), (73, vI ((i : Nat) : Int)), (72, .v (.slice x.waits.A x.waits.n x.waits.c)), (71, .p 0 3), (70, vB true), (69, vB true), (68, vI ((i : Nat) : Int)), (67, vB false), (66, vB false), (65, vB false), (64, vI x.next), (63, .p 0 2), (62, vI (x.waits.at i).seq), (61, .p 1 0), (60, vB false), (59, vB false), (58, vI (x.waits.at i).seq), (57, .p 1 0), (3, vI ((i : Nat) : Int)), (4, .p 1 0), (52, vI ((i : Nat) : Int)), (51, vI ((x.waits.n : Nat) : Int)), (50, .v (.slice x.waits.A x.waits.n x.waits.c)), (1, .p 0 0)] [x.waits.A = some x.waits.ad, (0 : Int) = ((0 : Nat) : Int), 0 < x.waits.n, inR ((x.waits.at 0).seq + 4), inR (((x.waits.at 0).seq + 4) - 1)] [((x.waits.ad.add (0 * 5)).add 0, [.int .i64 (x.waits.at 0).seq])] rfl rfl (by kernel_rfl) (oc (Sl.ok.own (s := x.waits) (i := 0) okx (by omega)) (oc rfl (oc (by omega) (oc (by unfold inR; omega) (oc (by unfold inR; omega) on))))) (fun w hk hr => ⟨(Sl.rd.fld (s := x.waits) (i := 0) (Rds.kp hx hk) (by omega) 0 1 rfl), trivial⟩) ?_
                            refine h_nil ?_
                            refine l_nil (q_then_normal ?_)
                            cases h24 : decide (((x.waits.at 0).seq + 4) - 1 < (x.waits.at i).seq) with
                            | true =>
                              have h24 := of_decide_eq_true h24
                              refine c_if true rfl ?_
                              refine c_seq ?_
                              refine c_region ?_
                              refine JL_run 1 [] [2] 0 ⟨[(2, vI 9)], []⟩ [] [] (by kernel_rfl) on wn ?_
                              refine l_nil (q_then_normal ?_)
                              refine c_ret ?_
                              refine q_then_ret (q_block_ret (q_then_ret (q_then_ret (q_block_ret (q_then_ret (q_ret (.inl rfl) [vI 9] rfl (fun bs w hS => ?_)))))))
                              refine ⟨?_, hS.kp⟩
                              simp only [retOf, den, List.map_cons, List.map_nil]
                              have hf : custF x.abs i = 9 := by
                                unfold custF
                                simp only [hat, ha1, ha2, ha3, ha4]
                                first | (rw [if_pos (by omega)] <;> first | rfl | (exfalso; omega)) | (rw [if_neg (by omega)] <;> first | rfl | assumption | (exfalso; omega))
                              rw [hI, firstF_here (by omega) hf (by first | assumption | omega)]
                            | false =>
                              have h24 := of_decide_eq_false h24
                              refine c_if false rfl ?_
                              refine c_skip ?_
                              refine q_then_normal ?_
                              refine c_seq ?_
                              refine c_region ?_
                              refine JL_run 2 [] [96, 52, 51, 50, 1] 1 ⟨[(96, .v (.agg #[.int .i64 (x.waits.at i).op.kind, .string (x.waits.at i).op.a, .string (x.waits.at i).op.b, .int .i64 (x.waits.at i).op.n])), (52, vI ((i : Nat) : Int)), (51, vI ((x.waits.n : Nat) : Int)), (50, .v (.slice x.waits.A x.waits.n x.waits.c)), (1, .p 0 0)], [⟨24, [vI x.id, vI x.session, vI x.next, .v (.slice x.waits.A x.waits.n x.waits.c)]⟩]⟩ [] [] (by kernel_rfl) on wn ?_
                              refine l_pure 46 [] [.v (.agg #[.int .i64 (x.waits.at i).op.kind, .string (x.waits.at i).op.a, .string (x.waits.at i).op.b, .int .i64 (x.waits.at i).op.n])] (.int .i64 (mOp (x.waits.at i).op)) Try.call46 rfl rfl rfl rfl (fun bs w hS => command_CheckOp (B := anyB) (x.waits.at i).op w ⟨(And.left (Sl.ok.at (s := x.waits) (i := i) okx (by omega))), (And.right (Sl.ok.at (s := x.waits) (i := i) okx (by omega)))⟩) ?_
                              refine JL_run 1 [] [5, 52, 51, 50, 1] 1 ⟨[(5, vI (mOp (x.waits.at i).op)), (52, vI ((i : Nat) : Int)), (51, vI ((x.waits.n : Nat) : Int)), (50, .v (.slice x.waits.A x.waits.n x.waits.c)), (1, .p 0 0)], [⟨24, [vI x.id, vI x.session, vI x.next, .v (.slice x.waits.A x.waits.n x.waits.c)]⟩]⟩ [] [] (by kernel_rfl) on wn ?_
                              refine l_nil (q_then_normal ?_)
                              refine c_seq ?_
                              refine c_region ?_
                              refine JL_run 2 [] [99, 5, 52, 51, 50, 1] 1 ⟨[(99, vB (!(decide (mOp (x.waits.at i).op = 0)))), (5, vI (mOp (x.waits.at i).op)), (52, vI ((i : Nat) : Int)), (51, vI ((x.waits.n : Nat) : Int)), (50, .v (.slice x.waits.A x.waits.n x.waits.c)), (1, .p 0 0)], [⟨24, [vI x.id, vI x.session, vI x.next, .v (.slice x.waits.A x.waits.n x.waits.c)]⟩]⟩ [] [] (by kernel_rfl) on wn ?_
                              refine l_nil (q_then_normal ?_)
                              cases h25 : decide (mOp (x.waits.at i).op = 0) with
                              | true =>
                                have h25 := of_decide_eq_true h25
                                refine c_if false rfl ?_
                                refine c_skip ?_
                                refine q_block_normal (q_then_normal ?_)
                                refine c_region ?_
                                refine JL_run 2 [] [52, 51, 50, 1] 1 ⟨[(52, vI (((i : Nat) : Int) + 1)), (51, vI ((x.waits.n : Nat) : Int)), (50, .v (.slice x.waits.A x.waits.n x.waits.c)), (1, .p 0 0)], [⟨24, [vI x.id, vI x.session, vI x.next, .v (.slice x.waits.A x.waits.n x.waits.c)]⟩]⟩ [inR (((i : Nat) : Int) + 1)] [] (by kernel_rfl) (oc (by unfold inR; omega) on) wn ?_
                                have hf0 : custF x.abs i = 0 := by
                                  unfold custF
                                  simp only [hat, ha1, ha2, ha3, ha4]
                                  first | (rw [if_pos (by omega)] <;> first | rfl | (exfalso; omega)) | (rw [if_neg (by omega)] <;> first | rfl | assumption | (exfalso; omega))
                                refine l_nil (q_loop (x := (i : Nat)) ((i + 1) : Nat) ⟨by omega, by rw [hI]; exact firstF_step (by omega) hf0, fun _ => by omega⟩ (by omega) (s_start [52, 51, 50, 1] 1 (by kernel_rfl) rfl))
                              | false =>
                                have h25 := of_decide_eq_false h25
                                refine c_if true rfl ?_
                                refine c_seq ?_
                                refine c_region ?_
                                refine JL_run 2 [] [2] 0 ⟨[(2, vI (mOp (x.waits.at i).op))], []⟩ [] [] (by kernel_rfl) on wn ?_
                                refine l_nil (q_then_normal ?_)
                                refine c_ret ?_
                                refine q_block_ret (q_then_ret (q_then_ret (q_block_ret (q_then_ret (q_ret (.inl rfl) [vI (mOp (x.waits.at i).op)] rfl (fun bs w hS => ?_))))))
                                refine ⟨?_, hS.kp⟩
                                simp only [retOf, den, List.map_cons, List.map_nil]
                                have hf : custF x.abs i = mOp (x.waits.at i).op := by
                                  unfold custF
                                  simp only [hat, ha1, ha2, ha3, ha4]
                                  first | (rw [if_pos (by omega)] <;> first | rfl | (exfalso; omega)) | (rw [if_neg (by omega)] <;> first | rfl | assumption | (exfalso; omega))
                                rw [hI, firstF_here (by omega) hf (by first | assumption | omega)]
                        | false =>
                          have h22 := of_decide_eq_false h22
                          refine h_quiet [(31, .idx x.waits.ad 0), (33, .ext [.int .i64 (x.waits.at 0).seq])] 24 [(94, vB (decide (((x.waits.at 0).seq + 4) - 1 < (x.waits.at i).seq))), (93, vB (decide (((x.waits.at 0).seq + 4) - 1 < (x.waits.at i).seq))), (92, vI (((x.waits.at 0).seq + 4) - 1)), (91, vI ((x.waits.at 0).seq + 4)), (90, vI (x.waits.at 0).seq), (89, .v (.pointer (some ((x.waits.ad.add (0 * 5)).add 0)))), (88, .v (.pointer (some (x.waits.ad.add (0 * 5))))), (87, .v (.slice x.waits.A x.waits.n x.waits.c)), (86, .p 0 3), (85, vI (x.waits.at i).seq), (84, .p 1 0), (83, vB false), (82, vB false), (81, vB false), (80, .v (undef)), (79, .v (undef)), (78, .v (undef)), (77, .v (undef)), (76, .v (undef)), (75, .v (undef)), (74, .v (undef)), (73, .v (undef)), (72, .v (undef)), (71, .v (undef)), (70, vB false), (69, vB false), (68, vI ((i : Nat) : Int)), (67, vB false), (66, vB false), (65, vB false), (64, vI x.next), (63, .p 0 2), (62, vI (x.waits.at i).seq), (61, .p 1 0), (60, vB false), (59, vB false), (58, vI (x.waits.at i).seq), (57, .p 1 0), (3, vI ((i : Nat) : Int)), (4, .p 1 0), (52, vI ((i : Nat) : Int)), (51, vI ((x.waits.n : Nat) : Int)), (50, .v (.slice x.waits.A x.waits.n x.waits.c)), (1, .p 0 0)] [x.waits.A = some x.waits.ad, (0 : Int) = ((0 : Nat) : Int), 0 < x.waits.n, inR ((x.waits.at 0).seq + 4), inR (((x.waits.at 0).seq + 4) - 1)] [((x.waits.ad.add (0 * 5)).add 0, [.int .i64 (x.waits.at 0).seq])] rfl rfl (by kernel_rfl) (oc (Sl.ok.own (s := x.waits) (i := 0) okx (by omega)) (oc rfl (oc (by omega) (oc (by unfold inR; omega) (oc (by unfold inR; omega) on))))) (fun w hk hr => ⟨(Sl.rd.fld (s := x.waits) (i := 0) (Rds.kp hx hk) (by omega) 0 1 rfl), trivial⟩) ?_
                          refine h_nil ?_
                          refine l_nil (q_then_normal ?_)
                          cases h26 : decide (((x.waits.at 0).seq + 4) - 1 < (x.waits.at i).seq) with
                          | true =>
                            have h26 := of_decide_eq_true h26
                            refine c_if true rfl ?_
                            refine c_seq ?_
                            refine c_region ?_
                            refine JL_run 1 [] [2] 0 ⟨[(2, vI 9)], []⟩ [] [] (by kernel_rfl) on wn ?_
                            refine l_nil (q_then_normal ?_)
                            refine c_ret ?_
                            refine q_then_ret (q_block_ret (q_then_ret (q_then_ret (q_block_ret (q_then_ret (q_ret (.inl rfl) [vI 9] rfl (fun bs w hS => ?_)))))))
                            refine ⟨?_, hS.kp⟩
                            simp only [retOf, den, List.map_cons, List.map_nil]
                            have hf : custF x.abs i = 9 := by
                              unfold custF
                              simp only [hat, ha1, ha2, ha3, ha4]
                              first | (rw [if_pos (by omega)] <;> first | rfl | (exfalso; omega)) | (rw [if_neg (by omega)] <;> first | rfl | assumption | (exfalso; omega))
                            rw [hI, firstF_here (by omega) hf (by first | assumption | omega)]
                          | false =>
                            have h26 := of_decide_eq_false h26
                            refine c_if false rfl ?_
                            refine c_skip ?_
                            refine q_then_normal ?_
                            refine c_seq ?_
                            refine c_region ?_
                            refine JL_run 2 [] [96, 52, 51, 50, 1] 1 ⟨[(96, .v (.agg #[.int .i64 (x.waits.at i).op.kind, .string (x.waits.at i).op.a, .string (x.waits.at i).op.b, .int .i64 (x.waits.at i).op.n])), (52, vI ((i : Nat) : Int)), (51, vI ((x.waits.n : Nat) : Int)), (50, .v (.slice x.waits.A x.waits.n x.waits.c)), (1, .p 0 0)], [⟨24, [vI x.id, vI x.session, vI x.next, .v (.slice x.waits.A x.waits.n x.waits.c)]⟩]⟩ [] [] (by kernel_rfl) on wn ?_
                            refine l_pure 46 [] [.v (.agg #[.int .i64 (x.waits.at i).op.kind, .string (x.waits.at i).op.a, .string (x.waits.at i).op.b, .int .i64 (x.waits.at i).op.n])] (.int .i64 (mOp (x.waits.at i).op)) Try.call46 rfl rfl rfl rfl (fun bs w hS => command_CheckOp (B := anyB) (x.waits.at i).op w ⟨(And.left (Sl.ok.at (s := x.waits) (i := i) okx (by omega))), (And.right (Sl.ok.at (s := x.waits) (i := i) okx (by omega)))⟩) ?_
                            refine JL_run 1 [] [5, 52, 51, 50, 1] 1 ⟨[(5, vI (mOp (x.waits.at i).op)), (52, vI ((i : Nat) : Int)), (51, vI ((x.waits.n : Nat) : Int)), (50, .v (.slice x.waits.A x.waits.n x.waits.c)), (1, .p 0 0)], [⟨24, [vI x.id, vI x.session, vI x.next, .v (.slice x.waits.A x.waits.n x.waits.c)]⟩]⟩ [] [] (by kernel_rfl) on wn ?_
                            refine l_nil (q_then_normal ?_)
                            refine c_seq ?_
                            refine c_region ?_
                            refine JL_run 2 [] [99, 5, 52, 51, 50, 1] 1 ⟨[(99, vB (!(decide (mOp (x.waits.at i).op = 0)))), (5, vI (mOp (x.waits.at i).op)), (52, vI ((i : Nat) : Int)), (51, vI ((x.waits.n : Nat) : Int)), (50, .v (.slice x.waits.A x.waits.n x.waits.c)), (1, .p 0 0)], [⟨24, [vI x.id, vI x.session, vI x.next, .v (.slice x.waits.A x.waits.n x.waits.c)]⟩]⟩ [] [] (by kernel_rfl) on wn ?_
                            refine l_nil (q_then_normal ?_)
                            cases h27 : decide (mOp (x.waits.at i).op = 0) with
                            | true =>
                              have h27 := of_decide_eq_true h27
                              refine c_if false rfl ?_
                              refine c_skip ?_
                              refine q_block_normal (q_then_normal ?_)
                              refine c_region ?_
                              refine JL_run 2 [] [52, 51, 50, 1] 1 ⟨[(52, vI (((i : Nat) : Int) + 1)), (51, vI ((x.waits.n : Nat) : Int)), (50, .v (.slice x.waits.A x.waits.n x.waits.c)), (1, .p 0 0)], [⟨24, [vI x.id, vI x.session, vI x.next, .v (.slice x.waits.A x.waits.n x.waits.c)]⟩]⟩ [inR (((i : Nat) : Int) + 1)] [] (by kernel_rfl) (oc (by unfold inR; omega) on) wn ?_
                              have hf0 : custF x.abs i = 0 := by
                                unfold custF
                                simp only [hat, ha1, ha2, ha3, ha4]
                                first | (rw [if_pos (by omega)] <;> first | rfl | (exfalso; omega)) | (rw [if_neg (by omega)] <;> first | rfl | assumption | (exfalso; omega))
                              refine l_nil (q_loop (x := (i : Nat)) ((i + 1) : Nat) ⟨by omega, by rw [hI]; exact firstF_step (by omega) hf0, fun _ => by omega⟩ (by omega) (s_start [52, 51, 50, 1] 1 (by kernel_rfl) rfl))
                            | false =>
                              have h27 := of_decide_eq_false h27
                              refine c_if true rfl ?_
                              refine c_seq ?_
                              refine c_region ?_
                              refine JL_run 2 [] [2] 0 ⟨[(2, vI (mOp (x.waits.at i).op))], []⟩ [] [] (by kernel_rfl) on wn ?_
                              refine l_nil (q_then_normal ?_)
                              refine c_ret ?_
                              refine q_block_ret (q_then_ret (q_then_ret (q_block_ret (q_then_ret (q_ret (.inl rfl) [vI (mOp (x.waits.at i).op)] rfl (fun bs w hS => ?_))))))
                              refine ⟨?_, hS.kp⟩
                              simp only [retOf, den, List.map_cons, List.map_nil]
                              have hf : custF x.abs i = mOp (x.waits.at i).op := by
                                unfold custF
                                simp only [hat, ha1, ha2, ha3, ha4]
                                first | (rw [if_pos (by omega)] <;> first | rfl | (exfalso; omega)) | (rw [if_neg (by omega)] <;> first | rfl | assumption | (exfalso; omega))
                              rw [hI, firstF_here (by omega) hf (by first | assumption | omega)]
                  | false =>
                    have h19 := of_decide_eq_false h19
                    refine c_if false rfl ?_
                    refine c_exit ?_
                    refine q_then_exit (q_then_exit (q_block_hit (q_then_normal ?_)))
                    refine c_seq ?_
                    refine c_region ?_
                    refine JL_run 1 [] [2] 0 ⟨[(2, vI 0)], []⟩ [] [] (by kernel_rfl) on wn ?_
                    refine l_nil (q_then_normal ?_)
                    refine c_ret ?_
                    refine q_ret (.inl rfl) [vI 0] rfl (fun bs w hS => ?_)
                    refine ⟨?_, hS.kp⟩
                    simp only [retOf, den, List.map_cons, List.map_nil]
                    rw [hI, firstF_end (by omega)]

theorem ref_CustomerFault {B : Nat → Prop} (x : CCustomer) (w : World) (hx : Rds.sub B w x) : Calls Try.prog 49 #[.agg #[.int .i64 x.id, .int .i64 x.session, .int .i64 x.next, .slice x.waits.A x.waits.n x.waits.c]] w fun e w' => e = .returned (.int .i64 (mCust x.abs)) ∧ Kp [] w w' := by
  have okx := Rds.okof hx
  have ncx := Sl.ok.nc okx
  have hns : x.waits.n = x.waits.xs.length := rfl
  have hat : ∀ q, x.abs.waits.getD q default = x.waits.at q := fun _ => rfl
  have ha1 : x.abs.id = x.id := rfl
  have ha2 : x.abs.session = x.session := rfl
  have ha3 : x.abs.next = x.next := rfl
  have ha4 : x.abs.waits.length = x.waits.n := rfl
  refine calls_J0 89 Try.func49 rfl rfl [.agg #[.int .i64 x.id, .int .i64 x.session, .int .i64 x.next, .slice x.waits.A x.waits.n x.waits.c]] rfl ?_
  refine c_seq ?_
  refine c_region ?_
  refine JL_run 2 [] [1] 1 ⟨[(1, .p 0 0)], [⟨24, [vI x.id, vI x.session, vI x.next, .v (.slice x.waits.A x.waits.n x.waits.c)]⟩]⟩ [] [] (by kernel_rfl) on wn ?_
  refine l_nil (q_then_normal ?_)
  refine c_seq ?_
  refine c_seq ?_
  refine c_region ?_
  refine JL_run 2 [] [7, 1] 1 ⟨[(7, vI x.id), (1, .p 0 0)], [⟨24, [vI x.id, vI x.session, vI x.next, .v (.slice x.waits.A x.waits.n x.waits.c)]⟩]⟩ [] [] (by kernel_rfl) on wn ?_
  refine l_pure 68 [] [vI x.id, vI 1, vI 9] (.bool (inB x.id 1 9)) Try.call68 rfl rfl rfl rfl (fun bs w hS => ref_In _ _ _ w) ?_
  refine JL_run 2 [] [10, 1] 1 ⟨[(10, vB (!(inB x.id 1 9))), (1, .p 0 0)], [⟨24, [vI x.id, vI x.session, vI x.next, .v (.slice x.waits.A x.waits.n x.waits.c)]⟩]⟩ [] [] (by kernel_rfl) on wn ?_
  cases h1 : inB x.id 1 9 with
  | true =>
    simp only [inB, Bool.and_eq_true, Bool.and_eq_false_iff, decide_eq_true_eq, decide_eq_false_iff_not] at h1
    refine JL_run 2 [] [12, 10, 1] 1 ⟨[(12, vI x.session), (10, vB false), (1, .p 0 0)], [⟨24, [vI x.id, vI x.session, vI x.next, .v (.slice x.waits.A x.waits.n x.waits.c)]⟩]⟩ [] [] (by kernel_rfl) on wn ?_
    refine l_pure 68 [] [vI x.session, vI 0, vI 1073741824] (.bool (inB x.session 0 1073741824)) Try.call68 rfl rfl rfl rfl (fun bs w hS => ref_In _ _ _ w) ?_
    refine JL_run 3 [] [16, 1] 1 ⟨[(16, vB (!(inB x.session 0 1073741824))), (1, .p 0 0)], [⟨24, [vI x.id, vI x.session, vI x.next, .v (.slice x.waits.A x.waits.n x.waits.c)]⟩]⟩ [] [] (by kernel_rfl) on wn ?_
    cases h2 : inB x.session 0 1073741824 with
    | true =>
      simp only [inB, Bool.and_eq_true, Bool.and_eq_false_iff, decide_eq_true_eq, decide_eq_false_iff_not] at h2
      refine JL_run 2 [] [18, 16, 1] 1 ⟨[(18, vI x.next), (16, vB false), (1, .p 0 0)], [⟨24, [vI x.id, vI x.session, vI x.next, .v (.slice x.waits.A x.waits.n x.waits.c)]⟩]⟩ [] [] (by kernel_rfl) on wn ?_
      refine l_pure 68 [] [vI x.next, vI 1, vI 1048577] (.bool (inB x.next 1 1048577)) Try.call68 rfl rfl rfl rfl (fun bs w hS => ref_In _ _ _ w) ?_
      refine JL_run 2 [] [21, 1] 1 ⟨[(21, vB (!(inB x.next 1 1048577))), (1, .p 0 0)], [⟨24, [vI x.id, vI x.session, vI x.next, .v (.slice x.waits.A x.waits.n x.waits.c)]⟩]⟩ [] [] (by kernel_rfl) on wn ?_
      refine l_nil (q_then_normal ?_)
      cases h3 : inB x.next 1 1048577 with
      | true =>
        simp only [inB, Bool.and_eq_true, Bool.and_eq_false_iff, decide_eq_true_eq, decide_eq_false_iff_not] at h3
        refine c_if false rfl ?_
        refine c_skip ?_
        refine q_then_normal ?_
        refine c_seq ?_
        refine c_seq ?_
        refine c_region ?_
        refine JL_run 5 [] [26, 1] 1 ⟨[(26, vB (decide ((4 : Int) < ((x.waits.n : Nat) : Int)))), (1, .p 0 0)], [⟨24, [vI x.id, vI x.session, vI x.next, .v (.slice x.waits.A x.waits.n x.waits.c)]⟩]⟩ [] [] (by kernel_rfl) on wn ?_
        cases h4 : decide ((4 : Int) < ((x.waits.n : Nat) : Int)) with
        | true =>
          have h4 := of_decide_eq_true h4
          refine JL_run 10 [] [36, 1] 1 ⟨[(36, vB true), (1, .p 0 0)], [⟨24, [vI x.id, vI x.session, vI x.next, .v (.slice x.waits.A x.waits.n x.waits.c)]⟩]⟩ [] [] (by kernel_rfl) on wn ?_
          refine l_nil (q_then_normal ?_)
          refine c_if true rfl ?_
          refine c_seq ?_
          refine c_region ?_
          refine JL_run 1 [] [2] 0 ⟨[(2, vI 9)], []⟩ [] [] (by kernel_rfl) on wn ?_
          refine l_nil (q_then_normal ?_)
          refine c_ret ?_
          refine q_then_ret (q_ret (.inl rfl) [vI 9] rfl (fun bs w hS => ?_))
          refine ⟨?_, hS.kp⟩
          simp only [retOf, den, List.map_cons, List.map_nil]
          have hm : mCust x.abs = 9 := by
            unfold mCust; simp only [ha1, ha2, ha3, ha4]; rw [if_neg (by omega), if_pos (by omega)]
          rw [hm]
        | false =>
          have h4 := of_decide_eq_false h4
          refine JL_run 5 [] [31, 26, 1] 1 ⟨[(31, vB (decide ((0 : Int) < ((x.waits.n : Nat) : Int)))), (26, vB false), (1, .p 0 0)], [⟨24, [vI x.id, vI x.session, vI x.next, .v (.slice x.waits.A x.waits.n x.waits.c)]⟩]⟩ [] [] (by kernel_rfl) on wn ?_
          cases h5 : decide ((0 : Int) < ((x.waits.n : Nat) : Int)) with
          | true =>
            have h5 := of_decide_eq_true h5
            refine JL_run 5 [] [36, 1] 1 ⟨[(36, vB (decide (x.session = 0))), (1, .p 0 0)], [⟨24, [vI x.id, vI x.session, vI x.next, .v (.slice x.waits.A x.waits.n x.waits.c)]⟩]⟩ [] [] (by kernel_rfl) on wn ?_
            refine l_nil (q_then_normal ?_)
            cases h6 : decide (x.session = 0) with
            | true =>
              have h6 := of_decide_eq_true h6
              refine c_if true rfl ?_
              refine c_seq ?_
              refine c_region ?_
              refine JL_run 1 [] [2] 0 ⟨[(2, vI 9)], []⟩ [] [] (by kernel_rfl) on wn ?_
              refine l_nil (q_then_normal ?_)
              refine c_ret ?_
              refine q_then_ret (q_ret (.inl rfl) [vI 9] rfl (fun bs w hS => ?_))
              refine ⟨?_, hS.kp⟩
              simp only [retOf, den, List.map_cons, List.map_nil]
              have hm : mCust x.abs = 9 := by
                unfold mCust; simp only [ha1, ha2, ha3, ha4]; rw [if_neg (by omega), if_pos (by omega)]
              rw [hm]
            | false =>
              have h6 := of_decide_eq_false h6
              refine c_if false rfl ?_
              refine c_skip ?_
              refine q_then_normal ?_
              refine c_seq ?_
              refine c_seq ?_
              refine c_region ?_
              refine JL_run 1 [] [3, 1] 1 ⟨[(3, vI 0), (1, .p 0 0)], [⟨24, [vI x.id, vI x.session, vI x.next, .v (.slice x.waits.A x.waits.n x.waits.c)]⟩]⟩ [] [] (by kernel_rfl) on wn ?_
              refine l_nil (q_then_normal ?_)
              refine c_block ?_
              refine c_loop (σ := Nat) (fun i => i ≤ x.waits.n ∧ mCust x.abs = firstF (custF x.abs) (x.waits.n - i) i ∧ (0 < i → 1 ≤ (x.waits.at 0).seq ∧ (x.waits.at 0).seq < x.next)) (fun i => x.waits.n - i) (fun i => []) (fun i => ⟨[(3, vI ((i : Nat) : Int)), (1, .p 0 0)], [⟨24, [vI x.id, vI x.session, vI x.next, .v (.slice x.waits.A x.waits.n x.waits.c)]⟩]⟩) 0 ⟨Nat.zero_le _, by unfold mCust; simp only [ha1, ha2, ha3, ha4]; rw [if_neg (by omega), if_neg (by omega)], fun h => absurd h (by omega)⟩ (s_start [3, 1] 1 (by kernel_rfl) rfl) ?_
              rintro i ⟨hi, hI, h0⟩
              have hz : i = 0 ∨ (0 < i ∧ 1 ≤ (x.waits.at 0).seq ∧ (x.waits.at 0).seq < x.next) := by rcases Nat.eq_zero_or_pos i with h | h; exact .inl h; exact .inr ⟨h, h0 h⟩
              have hz2 : i = 0 → (x.waits.at i).seq = (x.waits.at 0).seq := fun h => by rw [h]
              refine c_seq ?_
              refine c_seq ?_
              refine c_region ?_
              refine JL_run 5 [] [41, 3, 1] 1 ⟨[(41, vB (decide (((i : Nat) : Int) < ((x.waits.n : Nat) : Int)))), (3, vI ((i : Nat) : Int)), (1, .p 0 0)], [⟨24, [vI x.id, vI x.session, vI x.next, .v (.slice x.waits.A x.waits.n x.waits.c)]⟩]⟩ [] [] (by kernel_rfl) on wn ?_
              refine l_nil (q_then_normal ?_)
              cases h7 : decide (((i : Nat) : Int) < ((x.waits.n : Nat) : Int)) with
              | true =>
                have h7 := of_decide_eq_true h7
                refine c_if true rfl ?_
                refine c_skip ?_
                refine q_then_normal ?_
                refine c_seq ?_
                refine c_block ?_
                refine c_seq ?_
                refine c_region ?_
                refine JL_run 7 [(3, .idx x.waits.ad i), (4, .ext [.int .i64 (x.waits.at i).seq, .int .i64 (x.waits.at i).op.kind, .string (x.waits.at i).op.a, .string (x.waits.at i).op.b, .int .i64 (x.waits.at i).op.n])] [4, 3, 1] 2 ⟨[(4, .p 1 0), (3, vI ((i : Nat) : Int)), (1, .p 0 0)], [⟨24, [vI x.id, vI x.session, vI x.next, .v (.slice x.waits.A x.waits.n x.waits.c)]⟩, ⟨83, [vI (x.waits.at i).seq, vI (x.waits.at i).op.kind, vS (x.waits.at i).op.a, vS (x.waits.at i).op.b, vI (x.waits.at i).op.n]⟩]⟩ [x.waits.A = some x.waits.ad, ((i : Nat) : Int) = ((i : Nat) : Int), i < x.waits.n] [(x.waits.ad.add (i * 5), [.int .i64 (x.waits.at i).seq, .int .i64 (x.waits.at i).op.kind, .string (x.waits.at i).op.a, .string (x.waits.at i).op.b, .int .i64 (x.waits.at i).op.n])] (by kernel_rfl) (oc (Sl.ok.own (s := x.waits) (i := i) okx (by omega)) (oc rfl (oc (by omega) on))) (fun w hk hr => ⟨(Sl.rd.all (s := x.waits) (i := i) (Rds.kp hx hk) (by omega) rfl), trivial⟩) ?_
                refine l_nil (q_then_normal ?_)
                refine c_seq ?_
                refine c_seq ?_
                refine c_draw 34 [(0, false), (1, false), (2, false), (3, false), (4, false), (5, true), (6, false), (7, false), (8, false), (9, false), (10, false), (11, false), (12, false), (13, false), (14, false), (15, false), (16, false), (17, false), (18, false), (19, false), (20, false), (21, false), (22, false), (23, false), (24, false), (25, false), (26, false), (27, false), (28, false), (29, false), (30, false), (31, false), (32, false), (33, false)] [] [] Try_mixed (by kernel_rfl) (pq_then (pq_then (pq_block (pq_then (pq_then (pq_block (pq_then pq_body))))))) (List.Sublist.refl _) ?_
                refine h_quiet [] 5 [(53, vI (x.next - 1)), (52, vI x.next), (51, .p 0 2), (50, vI (x.waits.at i).seq), (49, .p 1 0), (4, .p 1 0), (3, vI ((i : Nat) : Int)), (1, .p 0 0)] [inR (x.next - 1)] [] rfl rfl (by kernel_rfl) (oc (by unfold inR; omega) on) wn ?_
                refine h_pure 68 [] [vI (x.waits.at i).seq, vI 1, vI (x.next - 1)] (.bool (inB (x.waits.at i).seq 1 (x.next - 1))) rfl Try.call68 rfl rfl rfl rfl (fun bs w hS => ref_In _ _ _ w) (fun bs0 bs w hp hl hS => hS.down hp hl rfl (le_same (le_same le_nil)) (List.Sublist.refl _)) ?_
                refine h_quiet [] 2 [(56, vB (!(inB (x.waits.at i).seq 1 (x.next - 1)))), (55, vB (!(inB (x.waits.at i).seq 1 (x.next - 1)))), (54, vB (inB (x.waits.at i).seq 1 (x.next - 1))), (53, vI (x.next - 1)), (52, vI x.next), (51, .p 0 2), (50, vI (x.waits.at i).seq), (49, .p 1 0), (4, .p 1 0), (3, vI ((i : Nat) : Int)), (1, .p 0 0)] [] [] rfl rfl (by kernel_rfl) on wn ?_
                cases h8 : inB (x.waits.at i).seq 1 (x.next - 1) with
                | true =>
                  simp only [inB, Bool.and_eq_true, Bool.and_eq_false_iff, decide_eq_true_eq, decide_eq_false_iff_not] at h8
                  refine h_quiet [(12, .idx x.waits.ad 0), (14, .ext [.int .i64 (x.waits.at 0).seq])] 11 [(67, vB (decide ((3 : Int) < (x.waits.at i).seq - (x.waits.at 0).seq))), (66, vB (decide ((3 : Int) < (x.waits.at i).seq - (x.waits.at 0).seq))), (65, vB (decide ((3 : Int) < (x.waits.at i).seq - (x.waits.at 0).seq))), (64, vI ((x.waits.at i).seq - (x.waits.at 0).seq)), (63, vI (x.waits.at 0).seq), (62, .v (.pointer (some ((x.waits.ad.add (0 * 5)).add 0)))), (61, .v (.pointer (some (x.waits.ad.add (0 * 5))))), (60, .v (.slice x.waits.A x.waits.n x.waits.c)), (59, .p 0 3), (58, vI (x.waits.at i).seq), (57, .p 1 0), (56, vB false), (55, vB false), (54, vB true), (53, vI (x.next - 1)), (52, vI x.next), (51, .p 0 2), (50, vI (x.waits.at i).seq), (49, .p 1 0), (4, .p 1 0), (3, vI ((i : Nat) : Int)), (1, .p 0 0)] [x.waits.A = some x.waits.ad, (0 : Int) = ((0 : Nat) : Int), 0 < x.waits.n, inR ((x.waits.at i).seq - (x.waits.at 0).seq)] [((x.waits.ad.add (0 * 5)).add 0, [.int .i64 (x.waits.at 0).seq])] rfl rfl (by kernel_rfl) (oc (Sl.ok.own (s := x.waits) (i := 0) okx (by omega)) (oc rfl (oc (by omega) (oc (by unfold inR; omega) on)))) (fun w hk hr => ⟨(Sl.rd.fld (s := x.waits) (i := 0) (Rds.kp hx hk) (by omega) 0 1 rfl), trivial⟩) ?_
                  cases h9 : decide ((3 : Int) < (x.waits.at i).seq - (x.waits.at 0).seq) with
                  | true =>
                    have h9 := of_decide_eq_true h9
                    refine h_quiet [] 15 [(82, vB true), (81, .v (undef)), (80, .v (undef)), (79, .v (undef)), (78, .v (undef)), (77, .v (undef)), (76, .v (undef)), (75, .v (undef)), (74, .v (undef)), (73, .v (undef)), (72, .v (undef)), (71, .v (undef)), (70, .v (undef)), (69, .v (undef)), (68, .v (undef)), (67, vB true), (66, vB true), (65, vB true), (64, vI ((x.waits.at i).seq - (x.waits.at 0).seq)), (63, vI (x.waits.at 0).seq), (62, .v (.pointer (some ((x.waits.ad.add (0 * 5)).add 0)))), (61, .v (.pointer (some (x.waits.ad.add (0 * 5))))), (60, .v (.slice x.waits.A x.waits.n x.waits.c)), (59, .p 0 3), (58, vI (x.waits.at i).seq), (57, .p 1 0), (56, vB false), (55, vB false), (54, vB true), (53, vI (x.next - 1)), (52, vI x.next), (51, .p 0 2), (50, vI (x.waits.at i).seq), (49, .p 1 0), (4, .p 1 0), (3, vI ((i : Nat) : Int)), (1, .p 0 0)] [] [] rfl rfl (by kernel_rfl) on wn ?_
                    refine h_nil ?_
                    refine l_nil (q_then_normal ?_)
                    refine c_if true rfl ?_
                    refine c_seq ?_
                    refine c_region ?_
                    refine JL_run 1 [] [2] 0 ⟨[(2, vI 9)], []⟩ [] [] (by kernel_rfl) on wn ?_
                    refine l_nil (q_then_normal ?_)
                    refine c_ret ?_
                    refine q_then_ret (q_block_ret (q_then_ret (q_then_ret (q_block_ret (q_then_ret (q_ret (.inl rfl) [vI 9] rfl (fun bs w hS => ?_)))))))
                    refine ⟨?_, hS.kp⟩
                    simp only [retOf, den, List.map_cons, List.map_nil]
                    have hf : custF x.abs i = 9 := by
                      unfold custF
                      simp only [hat, ha1, ha2, ha3, ha4]
                      first | (rw [if_pos (by omega)] <;> first | rfl | (exfalso; omega)) | (rw [if_neg (by omega)] <;> first | rfl | assumption | (exfalso; omega))
                    rw [hI, firstF_here (by omega) hf (by first | assumption | omega)]
                  | false =>
                    have h9 := of_decide_eq_false h9
                    refine h_quiet [] 3 [(70, vB (decide ((0 : Int) < ((i : Nat) : Int)))), (69, vB (decide ((0 : Int) < ((i : Nat) : Int)))), (68, vI ((i : Nat) : Int)), (67, vB false), (66, vB false), (65, vB false), (64, vI ((x.waits.at i).seq - (x.waits.at 0).seq)), (63, vI (x.waits.at 0).seq), (62, .v (.pointer (some ((x.waits.ad.add (0 * 5)).add 0)))), (61, .v (.pointer (some (x.waits.ad.add (0 * 5))))), (60, .v (.slice x.waits.A x.waits.n x.waits.c)), (59, .p 0 3), (58, vI (x.waits.at i).seq), (57, .p 1 0), (56, vB false), (55, vB false), (54, vB true), (53, vI (x.next - 1)), (52, vI x.next), (51, .p 0 2), (50, vI (x.waits.at i).seq), (49, .p 1 0), (4, .p 1 0), (3, vI ((i : Nat) : Int)), (1, .p 0 0)] [] [] rfl rfl (by kernel_rfl) on wn ?_
                    cases h10 : decide ((0 : Int) < ((i : Nat) : Int)) with
                    | true =>
                      have h10 := of_decide_eq_true h10
                      refine h_quiet [(28, .idx x.waits.ad (i - 1)), (30, .ext [.int .i64 (x.waits.at (i - 1)).seq])] 12 [(82, vB (decide ((x.waits.at i).seq ≤ (x.waits.at (i - 1)).seq))), (81, vB (decide ((x.waits.at i).seq ≤ (x.waits.at (i - 1)).seq))), (80, vB (decide ((x.waits.at i).seq ≤ (x.waits.at (i - 1)).seq))), (79, vI (x.waits.at (i - 1)).seq), (78, .v (.pointer (some ((x.waits.ad.add ((i - 1) * 5)).add 0)))), (77, .v (.pointer (some (x.waits.ad.add ((i - 1) * 5))))), (76, vI (((i : Nat) : Int) - 1)), (75, vI ((i : Nat) : Int)), (74, .v (.slice x.waits.A x.waits.n x.waits.c)), (73, .p 0 3), (72, vI (x.waits.at i).seq), (71, .p 1 0), (70, vB true), (69, vB true), (68, vI ((i : Nat) : Int)), (67, vB false), (66, vB false), (65, vB false), (64, vI ((x.waits.at i).seq - (x.waits.at 0).seq)), (63, vI (x.waits.at 0).seq), (62, .v (.pointer (some ((x.waits.ad.add (0 * 5)).add 0)))), (61, .v (.pointer (some (x.waits.ad.add (0 * 5))))), (60, .v (.slice x.waits.A x.waits.n x.waits.c)), (59, .p 0 3), (58, vI (x.waits.at i).seq), (57, .p 1 0), (56, vB false), (55, vB false), (54, vB true), (53, vI (x.next - 1)), (52, vI x.next), (51, .p 0 2), (50, vI (x.waits.at i).seq), (49, .p 1 0), (4, .p 1 0), (3, vI ((i : Nat) : Int)), (1, .p 0 0)] [inR (((i : Nat) : Int) - 1), x.waits.A = some x.waits.ad, ((i : Nat) : Int) - 1 = (((i - 1) : Nat) : Int), (i - 1) < x.waits.n] [((x.waits.ad.add ((i - 1) * 5)).add 0, [.int .i64 (x.waits.at (i - 1)).seq])] rfl rfl (by kernel_rfl) (oc (by unfold inR; omega) (oc (Sl.ok.own (s := x.waits) (i := (i - 1)) okx (by omega)) (oc (by omega) (oc (by omega) on)))) (fun w hk hr => ⟨(Sl.rd.fld (s := x.waits) (i := (i - 1)) (Rds.kp hx hk) (by omega) 0 1 rfl), trivial⟩) ?_
                      refine h_nil ?_
                      refine l_nil (q_then_normal ?_)
                      cases h11 : decide ((x.waits.at i).seq ≤ (x.waits.at (i - 1)).seq) with
                      | true =>
                        have h11 := of_decide_eq_true h11
                        refine c_if true rfl ?_
                        refine c_seq ?_
                        refine c_region ?_
                        refine JL_run 1 [] [2] 0 ⟨[(2, vI 9)], []⟩ [] [] (by kernel_rfl) on wn ?_
                        refine l_nil (q_then_normal ?_)
                        refine c_ret ?_
                        refine q_then_ret (q_block_ret (q_then_ret (q_then_ret (q_block_ret (q_then_ret (q_ret (.inl rfl) [vI 9] rfl (fun bs w hS => ?_)))))))
                        refine ⟨?_, hS.kp⟩
                        simp only [retOf, den, List.map_cons, List.map_nil]
                        have hf : custF x.abs i = 9 := by
                          unfold custF
                          simp only [hat, ha1, ha2, ha3, ha4]
                          first | (rw [if_pos (by omega)] <;> first | rfl | (exfalso; omega)) | (rw [if_neg (by omega)] <;> first | rfl | assumption | (exfalso; omega))
                        rw [hI, firstF_here (by omega) hf (by first | assumption | omega)]
                      | false =>
                        have h11 := of_decide_eq_false h11
                        refine c_if false rfl ?_
                        refine c_skip ?_
                        refine q_then_normal ?_
                        refine c_seq ?_
                        refine c_region ?_
                        refine JL_run 2 [] [84, 3, 1] 1 ⟨[(84, .v (.agg #[.int .i64 (x.waits.at i).op.kind, .string (x.waits.at i).op.a, .string (x.waits.at i).op.b, .int .i64 (x.waits.at i).op.n])), (3, vI ((i : Nat) : Int)), (1, .p 0 0)], [⟨24, [vI x.id, vI x.session, vI x.next, .v (.slice x.waits.A x.waits.n x.waits.c)]⟩]⟩ [] [] (by kernel_rfl) on wn ?_
                        refine l_pure 50 [] [.v (.agg #[.int .i64 (x.waits.at i).op.kind, .string (x.waits.at i).op.a, .string (x.waits.at i).op.b, .int .i64 (x.waits.at i).op.n])] (.int .i64 (mOp (x.waits.at i).op)) Try.call50 rfl rfl rfl rfl (fun bs w hS => ref_OpFault (B := anyB) (x.waits.at i).op w ⟨(And.left (Sl.ok.at (s := x.waits) (i := i) okx (by omega))), (And.right (Sl.ok.at (s := x.waits) (i := i) okx (by omega)))⟩) ?_
                        refine JL_run 1 [] [5, 3, 1] 1 ⟨[(5, vI (mOp (x.waits.at i).op)), (3, vI ((i : Nat) : Int)), (1, .p 0 0)], [⟨24, [vI x.id, vI x.session, vI x.next, .v (.slice x.waits.A x.waits.n x.waits.c)]⟩]⟩ [] [] (by kernel_rfl) on wn ?_
                        refine l_nil (q_then_normal ?_)
                        refine c_seq ?_
                        refine c_region ?_
                        refine JL_run 2 [] [87, 5, 3, 1] 1 ⟨[(87, vB (!(decide (mOp (x.waits.at i).op = 0)))), (5, vI (mOp (x.waits.at i).op)), (3, vI ((i : Nat) : Int)), (1, .p 0 0)], [⟨24, [vI x.id, vI x.session, vI x.next, .v (.slice x.waits.A x.waits.n x.waits.c)]⟩]⟩ [] [] (by kernel_rfl) on wn ?_
                        refine l_nil (q_then_normal ?_)
                        cases h12 : decide (mOp (x.waits.at i).op = 0) with
                        | true =>
                          have h12 := of_decide_eq_true h12
                          refine c_if false rfl ?_
                          refine c_skip ?_
                          refine q_block_normal (q_then_normal ?_)
                          refine c_region ?_
                          refine JL_run 3 [] [3, 1] 1 ⟨[(3, vI (((i : Nat) : Int) + 1)), (1, .p 0 0)], [⟨24, [vI x.id, vI x.session, vI x.next, .v (.slice x.waits.A x.waits.n x.waits.c)]⟩]⟩ [inR (((i : Nat) : Int) + 1)] [] (by kernel_rfl) (oc (by unfold inR; omega) on) wn ?_
                          have hf0 : custF x.abs i = 0 := by
                            unfold custF
                            simp only [hat, ha1, ha2, ha3, ha4]
                            first | (rw [if_pos (by omega)] <;> first | rfl | (exfalso; omega)) | (rw [if_neg (by omega)] <;> first | rfl | assumption | (exfalso; omega))
                          refine l_nil (q_loop (x := (i : Nat)) ((i + 1) : Nat) ⟨by omega, by rw [hI]; exact firstF_step (by omega) hf0, fun _ => by omega⟩ (by omega) (s_start [3, 1] 1 (by kernel_rfl) rfl))
                        | false =>
                          have h12 := of_decide_eq_false h12
                          refine c_if true rfl ?_
                          refine c_seq ?_
                          refine c_region ?_
                          refine JL_run 2 [] [2] 0 ⟨[(2, vI (mOp (x.waits.at i).op))], []⟩ [] [] (by kernel_rfl) on wn ?_
                          refine l_nil (q_then_normal ?_)
                          refine c_ret ?_
                          refine q_block_ret (q_then_ret (q_then_ret (q_block_ret (q_then_ret (q_ret (.inl rfl) [vI (mOp (x.waits.at i).op)] rfl (fun bs w hS => ?_))))))
                          refine ⟨?_, hS.kp⟩
                          simp only [retOf, den, List.map_cons, List.map_nil]
                          have hf : custF x.abs i = mOp (x.waits.at i).op := by
                            unfold custF
                            simp only [hat, ha1, ha2, ha3, ha4]
                            first | (rw [if_pos (by omega)] <;> first | rfl | (exfalso; omega)) | (rw [if_neg (by omega)] <;> first | rfl | assumption | (exfalso; omega))
                          rw [hI, firstF_here (by omega) hf (by first | assumption | omega)]
                    | false =>
                      have h10 := of_decide_eq_false h10
                      refine h_quiet [] 12 [(82, vB false), (81, vB false), (80, .v (undef)), (79, .v (undef)), (78, .v (undef)), (77, .v (undef)), (76, .v (undef)), (75, .v (undef)), (74, .v (undef)), (73, .v (undef)), (72, .v (undef)), (71, .v (undef)), (70, vB false), (69, vB false), (68, vI ((i : Nat) : Int)), (67, vB false), (66, vB false), (65, vB false), (64, vI ((x.waits.at i).seq - (x.waits.at 0).seq)), (63, vI (x.waits.at 0).seq), (62, .v (.pointer (some ((x.waits.ad.add (0 * 5)).add 0)))), (61, .v (.pointer (some (x.waits.ad.add (0 * 5))))), (60, .v (.slice x.waits.A x.waits.n x.waits.c)), (59, .p 0 3), (58, vI (x.waits.at i).seq), (57, .p 1 0), (56, vB false), (55, vB false), (54, vB true), (53, vI (x.next - 1)), (52, vI x.next), (51, .p 0 2), (50, vI (x.waits.at i).seq), (49, .p 1 0), (4, .p 1 0), (3, vI ((i : Nat) : Int)), (1, .p 0 0)] [] [] rfl rfl (by kernel_rfl) on wn ?_
                      refine h_nil ?_
                      refine l_nil (q_then_normal ?_)
                      refine c_if false rfl ?_
                      refine c_skip ?_
                      refine q_then_normal ?_
                      refine c_seq ?_
                      refine c_region ?_
                      refine JL_run 2 [] [84, 3, 1] 1 ⟨[(84, .v (.agg #[.int .i64 (x.waits.at i).op.kind, .string (x.waits.at i).op.a, .string (x.waits.at i).op.b, .int .i64 (x.waits.at i).op.n])), (3, vI ((i : Nat) : Int)), (1, .p 0 0)], [⟨24, [vI x.id, vI x.session, vI x.next, .v (.slice x.waits.A x.waits.n x.waits.c)]⟩]⟩ [] [] (by kernel_rfl) on wn ?_
                      refine l_pure 50 [] [.v (.agg #[.int .i64 (x.waits.at i).op.kind, .string (x.waits.at i).op.a, .string (x.waits.at i).op.b, .int .i64 (x.waits.at i).op.n])] (.int .i64 (mOp (x.waits.at i).op)) Try.call50 rfl rfl rfl rfl (fun bs w hS => ref_OpFault (B := anyB) (x.waits.at i).op w ⟨(And.left (Sl.ok.at (s := x.waits) (i := i) okx (by omega))), (And.right (Sl.ok.at (s := x.waits) (i := i) okx (by omega)))⟩) ?_
                      refine JL_run 1 [] [5, 3, 1] 1 ⟨[(5, vI (mOp (x.waits.at i).op)), (3, vI ((i : Nat) : Int)), (1, .p 0 0)], [⟨24, [vI x.id, vI x.session, vI x.next, .v (.slice x.waits.A x.waits.n x.waits.c)]⟩]⟩ [] [] (by kernel_rfl) on wn ?_
                      refine l_nil (q_then_normal ?_)
                      refine c_seq ?_
                      refine c_region ?_
                      refine JL_run 2 [] [87, 5, 3, 1] 1 ⟨[(87, vB (!(decide (mOp (x.waits.at i).op = 0)))), (5, vI (mOp (x.waits.at i).op)), (3, vI ((i : Nat) : Int)), (1, .p 0 0)], [⟨24, [vI x.id, vI x.session, vI x.next, .v (.slice x.waits.A x.waits.n x.waits.c)]⟩]⟩ [] [] (by kernel_rfl) on wn ?_
                      refine l_nil (q_then_normal ?_)
                      cases h13 : decide (mOp (x.waits.at i).op = 0) with
                      | true =>
                        have h13 := of_decide_eq_true h13
                        refine c_if false rfl ?_
                        refine c_skip ?_
                        refine q_block_normal (q_then_normal ?_)
                        refine c_region ?_
                        refine JL_run 3 [] [3, 1] 1 ⟨[(3, vI (((i : Nat) : Int) + 1)), (1, .p 0 0)], [⟨24, [vI x.id, vI x.session, vI x.next, .v (.slice x.waits.A x.waits.n x.waits.c)]⟩]⟩ [inR (((i : Nat) : Int) + 1)] [] (by kernel_rfl) (oc (by unfold inR; omega) on) wn ?_
                        have hf0 : custF x.abs i = 0 := by
                          unfold custF
                          simp only [hat, ha1, ha2, ha3, ha4]
                          first | (rw [if_pos (by omega)] <;> first | rfl | (exfalso; omega)) | (rw [if_neg (by omega)] <;> first | rfl | assumption | (exfalso; omega))
                        refine l_nil (q_loop (x := (i : Nat)) ((i + 1) : Nat) ⟨by omega, by rw [hI]; exact firstF_step (by omega) hf0, fun _ => by omega⟩ (by omega) (s_start [3, 1] 1 (by kernel_rfl) rfl))
                      | false =>
                        have h13 := of_decide_eq_false h13
                        refine c_if true rfl ?_
                        refine c_seq ?_
                        refine c_region ?_
                        refine JL_run 2 [] [2] 0 ⟨[(2, vI (mOp (x.waits.at i).op))], []⟩ [] [] (by kernel_rfl) on wn ?_
                        refine l_nil (q_then_normal ?_)
                        refine c_ret ?_
                        refine q_block_ret (q_then_ret (q_then_ret (q_block_ret (q_then_ret (q_ret (.inl rfl) [vI (mOp (x.waits.at i).op)] rfl (fun bs w hS => ?_))))))
                        refine ⟨?_, hS.kp⟩
                        simp only [retOf, den, List.map_cons, List.map_nil]
                        have hf : custF x.abs i = mOp (x.waits.at i).op := by
                          unfold custF
                          simp only [hat, ha1, ha2, ha3, ha4]
                          first | (rw [if_pos (by omega)] <;> first | rfl | (exfalso; omega)) | (rw [if_neg (by omega)] <;> first | rfl | assumption | (exfalso; omega))
                        rw [hI, firstF_here (by omega) hf (by first | assumption | omega)]
                | false =>
                  simp only [inB, Bool.and_eq_true, Bool.and_eq_false_iff, decide_eq_true_eq, decide_eq_false_iff_not] at h8
                  refine h_quiet [] 26 [(82, vB true), (81, .v (undef)), (80, .v (undef)), (79, .v (undef)), (78, .v (undef)), (77, .v (undef)), (76, .v (undef)), (75, .v (undef)), (74, .v (undef)), (73, .v (undef)), (72, .v (undef)), (71, .v (undef)), (70, .v (undef)), (69, .v (undef)), (68, .v (undef)), (67, vB true), (66, vB true), (65, .v (undef)), (64, .v (undef)), (63, .v (undef)), (62, .v (undef)), (61, .v (undef)), (60, .v (undef)), (59, .v (undef)), (58, .v (undef)), (57, .v (undef)), (56, vB true), (55, vB true), (54, vB false), (53, vI (x.next - 1)), (52, vI x.next), (51, .p 0 2), (50, vI (x.waits.at i).seq), (49, .p 1 0), (4, .p 1 0), (3, vI ((i : Nat) : Int)), (1, .p 0 0)] [] [] rfl rfl (by kernel_rfl) on wn ?_
                  refine h_nil ?_
                  refine l_nil (q_then_normal ?_)
                  refine c_if true rfl ?_
                  refine c_seq ?_
                  refine c_region ?_
                  refine JL_run 1 [] [2] 0 ⟨[(2, vI 9)], []⟩ [] [] (by kernel_rfl) on wn ?_
                  refine l_nil (q_then_normal ?_)
                  refine c_ret ?_
                  refine q_then_ret (q_block_ret (q_then_ret (q_then_ret (q_block_ret (q_then_ret (q_ret (.inl rfl) [vI 9] rfl (fun bs w hS => ?_)))))))
                  refine ⟨?_, hS.kp⟩
                  simp only [retOf, den, List.map_cons, List.map_nil]
                  have hf : custF x.abs i = 9 := by
                    unfold custF
                    simp only [hat, ha1, ha2, ha3, ha4]
                    first | (rw [if_pos (by omega)] <;> first | rfl | (exfalso; omega)) | (rw [if_neg (by omega)] <;> first | rfl | assumption | (exfalso; omega))
                  rw [hI, firstF_here (by omega) hf (by first | assumption | omega)]
              | false =>
                have h7 := of_decide_eq_false h7
                refine c_if false rfl ?_
                refine c_exit ?_
                refine q_then_exit (q_then_exit (q_block_hit (q_then_normal ?_)))
                refine c_seq ?_
                refine c_region ?_
                refine JL_run 1 [] [2] 0 ⟨[(2, vI 0)], []⟩ [] [] (by kernel_rfl) on wn ?_
                refine l_nil (q_then_normal ?_)
                refine c_ret ?_
                refine q_ret (.inl rfl) [vI 0] rfl (fun bs w hS => ?_)
                refine ⟨?_, hS.kp⟩
                simp only [retOf, den, List.map_cons, List.map_nil]
                rw [hI, firstF_end (by omega)]
          | false =>
            have h5 := of_decide_eq_false h5
            refine JL_run 5 [] [36, 1] 1 ⟨[(36, vB false), (1, .p 0 0)], [⟨24, [vI x.id, vI x.session, vI x.next, .v (.slice x.waits.A x.waits.n x.waits.c)]⟩]⟩ [] [] (by kernel_rfl) on wn ?_
            refine l_nil (q_then_normal ?_)
            refine c_if false rfl ?_
            refine c_skip ?_
            refine q_then_normal ?_
            refine c_seq ?_
            refine c_seq ?_
            refine c_region ?_
            refine JL_run 1 [] [3, 1] 1 ⟨[(3, vI 0), (1, .p 0 0)], [⟨24, [vI x.id, vI x.session, vI x.next, .v (.slice x.waits.A x.waits.n x.waits.c)]⟩]⟩ [] [] (by kernel_rfl) on wn ?_
            refine l_nil (q_then_normal ?_)
            refine c_block ?_
            refine c_loop (σ := Nat) (fun i => i ≤ x.waits.n ∧ mCust x.abs = firstF (custF x.abs) (x.waits.n - i) i ∧ (0 < i → 1 ≤ (x.waits.at 0).seq ∧ (x.waits.at 0).seq < x.next)) (fun i => x.waits.n - i) (fun i => []) (fun i => ⟨[(3, vI ((i : Nat) : Int)), (1, .p 0 0)], [⟨24, [vI x.id, vI x.session, vI x.next, .v (.slice x.waits.A x.waits.n x.waits.c)]⟩]⟩) 0 ⟨Nat.zero_le _, by unfold mCust; simp only [ha1, ha2, ha3, ha4]; rw [if_neg (by omega), if_neg (by omega)], fun h => absurd h (by omega)⟩ (s_start [3, 1] 1 (by kernel_rfl) rfl) ?_
            rintro i ⟨hi, hI, h0⟩
            have hz : i = 0 ∨ (0 < i ∧ 1 ≤ (x.waits.at 0).seq ∧ (x.waits.at 0).seq < x.next) := by rcases Nat.eq_zero_or_pos i with h | h; exact .inl h; exact .inr ⟨h, h0 h⟩
            have hz2 : i = 0 → (x.waits.at i).seq = (x.waits.at 0).seq := fun h => by rw [h]
            refine c_seq ?_
            refine c_seq ?_
            refine c_region ?_
            refine JL_run 5 [] [41, 3, 1] 1 ⟨[(41, vB (decide (((i : Nat) : Int) < ((x.waits.n : Nat) : Int)))), (3, vI ((i : Nat) : Int)), (1, .p 0 0)], [⟨24, [vI x.id, vI x.session, vI x.next, .v (.slice x.waits.A x.waits.n x.waits.c)]⟩]⟩ [] [] (by kernel_rfl) on wn ?_
            refine l_nil (q_then_normal ?_)
            cases h14 : decide (((i : Nat) : Int) < ((x.waits.n : Nat) : Int)) with
            | true =>
              have h14 := of_decide_eq_true h14
              refine c_if true rfl ?_
              refine c_skip ?_
              refine q_then_normal ?_
              refine c_seq ?_
              refine c_block ?_
              refine c_seq ?_
              refine c_region ?_
              refine JL_run 7 [(3, .idx x.waits.ad i), (4, .ext [.int .i64 (x.waits.at i).seq, .int .i64 (x.waits.at i).op.kind, .string (x.waits.at i).op.a, .string (x.waits.at i).op.b, .int .i64 (x.waits.at i).op.n])] [4, 3, 1] 2 ⟨[(4, .p 1 0), (3, vI ((i : Nat) : Int)), (1, .p 0 0)], [⟨24, [vI x.id, vI x.session, vI x.next, .v (.slice x.waits.A x.waits.n x.waits.c)]⟩, ⟨83, [vI (x.waits.at i).seq, vI (x.waits.at i).op.kind, vS (x.waits.at i).op.a, vS (x.waits.at i).op.b, vI (x.waits.at i).op.n]⟩]⟩ [x.waits.A = some x.waits.ad, ((i : Nat) : Int) = ((i : Nat) : Int), i < x.waits.n] [(x.waits.ad.add (i * 5), [.int .i64 (x.waits.at i).seq, .int .i64 (x.waits.at i).op.kind, .string (x.waits.at i).op.a, .string (x.waits.at i).op.b, .int .i64 (x.waits.at i).op.n])] (by kernel_rfl) (oc (Sl.ok.own (s := x.waits) (i := i) okx (by omega)) (oc rfl (oc (by omega) on))) (fun w hk hr => ⟨(Sl.rd.all (s := x.waits) (i := i) (Rds.kp hx hk) (by omega) rfl), trivial⟩) ?_
              refine l_nil (q_then_normal ?_)
              refine c_seq ?_
              refine c_seq ?_
              refine c_draw 34 [(0, false), (1, false), (2, false), (3, false), (4, false), (5, true), (6, false), (7, false), (8, false), (9, false), (10, false), (11, false), (12, false), (13, false), (14, false), (15, false), (16, false), (17, false), (18, false), (19, false), (20, false), (21, false), (22, false), (23, false), (24, false), (25, false), (26, false), (27, false), (28, false), (29, false), (30, false), (31, false), (32, false), (33, false)] [] [] Try_mixed (by kernel_rfl) (pq_then (pq_then (pq_block (pq_then (pq_then (pq_block (pq_then pq_body))))))) (List.Sublist.refl _) ?_
              refine h_quiet [] 5 [(53, vI (x.next - 1)), (52, vI x.next), (51, .p 0 2), (50, vI (x.waits.at i).seq), (49, .p 1 0), (4, .p 1 0), (3, vI ((i : Nat) : Int)), (1, .p 0 0)] [inR (x.next - 1)] [] rfl rfl (by kernel_rfl) (oc (by unfold inR; omega) on) wn ?_
              refine h_pure 68 [] [vI (x.waits.at i).seq, vI 1, vI (x.next - 1)] (.bool (inB (x.waits.at i).seq 1 (x.next - 1))) rfl Try.call68 rfl rfl rfl rfl (fun bs w hS => ref_In _ _ _ w) (fun bs0 bs w hp hl hS => hS.down hp hl rfl (le_same (le_same le_nil)) (List.Sublist.refl _)) ?_
              refine h_quiet [] 2 [(56, vB (!(inB (x.waits.at i).seq 1 (x.next - 1)))), (55, vB (!(inB (x.waits.at i).seq 1 (x.next - 1)))), (54, vB (inB (x.waits.at i).seq 1 (x.next - 1))), (53, vI (x.next - 1)), (52, vI x.next), (51, .p 0 2), (50, vI (x.waits.at i).seq), (49, .p 1 0), (4, .p 1 0), (3, vI ((i : Nat) : Int)), (1, .p 0 0)] [] [] rfl rfl (by kernel_rfl) on wn ?_
              cases h15 : inB (x.waits.at i).seq 1 (x.next - 1) with
              | true =>
                simp only [inB, Bool.and_eq_true, Bool.and_eq_false_iff, decide_eq_true_eq, decide_eq_false_iff_not] at h15
                refine h_quiet [(12, .idx x.waits.ad 0), (14, .ext [.int .i64 (x.waits.at 0).seq])] 11 [(67, vB (decide ((3 : Int) < (x.waits.at i).seq - (x.waits.at 0).seq))), (66, vB (decide ((3 : Int) < (x.waits.at i).seq - (x.waits.at 0).seq))), (65, vB (decide ((3 : Int) < (x.waits.at i).seq - (x.waits.at 0).seq))), (64, vI ((x.waits.at i).seq - (x.waits.at 0).seq)), (63, vI (x.waits.at 0).seq), (62, .v (.pointer (some ((x.waits.ad.add (0 * 5)).add 0)))), (61, .v (.pointer (some (x.waits.ad.add (0 * 5))))), (60, .v (.slice x.waits.A x.waits.n x.waits.c)), (59, .p 0 3), (58, vI (x.waits.at i).seq), (57, .p 1 0), (56, vB false), (55, vB false), (54, vB true), (53, vI (x.next - 1)), (52, vI x.next), (51, .p 0 2), (50, vI (x.waits.at i).seq), (49, .p 1 0), (4, .p 1 0), (3, vI ((i : Nat) : Int)), (1, .p 0 0)] [x.waits.A = some x.waits.ad, (0 : Int) = ((0 : Nat) : Int), 0 < x.waits.n, inR ((x.waits.at i).seq - (x.waits.at 0).seq)] [((x.waits.ad.add (0 * 5)).add 0, [.int .i64 (x.waits.at 0).seq])] rfl rfl (by kernel_rfl) (oc (Sl.ok.own (s := x.waits) (i := 0) okx (by omega)) (oc rfl (oc (by omega) (oc (by unfold inR; omega) on)))) (fun w hk hr => ⟨(Sl.rd.fld (s := x.waits) (i := 0) (Rds.kp hx hk) (by omega) 0 1 rfl), trivial⟩) ?_
                cases h16 : decide ((3 : Int) < (x.waits.at i).seq - (x.waits.at 0).seq) with
                | true =>
                  have h16 := of_decide_eq_true h16
                  refine h_quiet [] 15 [(82, vB true), (81, .v (undef)), (80, .v (undef)), (79, .v (undef)), (78, .v (undef)), (77, .v (undef)), (76, .v (undef)), (75, .v (undef)), (74, .v (undef)), (73, .v (undef)), (72, .v (undef)), (71, .v (undef)), (70, .v (undef)), (69, .v (undef)), (68, .v (undef)), (67, vB true), (66, vB true), (65, vB true), (64, vI ((x.waits.at i).seq - (x.waits.at 0).seq)), (63, vI (x.waits.at 0).seq), (62, .v (.pointer (some ((x.waits.ad.add (0 * 5)).add 0)))), (61, .v (.pointer (some (x.waits.ad.add (0 * 5))))), (60, .v (.slice x.waits.A x.waits.n x.waits.c)), (59, .p 0 3), (58, vI (x.waits.at i).seq), (57, .p 1 0), (56, vB false), (55, vB false), (54, vB true), (53, vI (x.next - 1)), (52, vI x.next), (51, .p 0 2), (50, vI (x.waits.at i).seq), (49, .p 1 0), (4, .p 1 0), (3, vI ((i : Nat) : Int)), (1, .p 0 0)] [] [] rfl rfl (by kernel_rfl) on wn ?_
                  refine h_nil ?_
                  refine l_nil (q_then_normal ?_)
                  refine c_if true rfl ?_
                  refine c_seq ?_
                  refine c_region ?_
                  refine JL_run 1 [] [2] 0 ⟨[(2, vI 9)], []⟩ [] [] (by kernel_rfl) on wn ?_
                  refine l_nil (q_then_normal ?_)
                  refine c_ret ?_
                  refine q_then_ret (q_block_ret (q_then_ret (q_then_ret (q_block_ret (q_then_ret (q_ret (.inl rfl) [vI 9] rfl (fun bs w hS => ?_)))))))
                  refine ⟨?_, hS.kp⟩
                  simp only [retOf, den, List.map_cons, List.map_nil]
                  have hf : custF x.abs i = 9 := by
                    unfold custF
                    simp only [hat, ha1, ha2, ha3, ha4]
                    first | (rw [if_pos (by omega)] <;> first | rfl | (exfalso; omega)) | (rw [if_neg (by omega)] <;> first | rfl | assumption | (exfalso; omega))
                  rw [hI, firstF_here (by omega) hf (by first | assumption | omega)]
                | false =>
                  have h16 := of_decide_eq_false h16
                  refine h_quiet [] 3 [(70, vB (decide ((0 : Int) < ((i : Nat) : Int)))), (69, vB (decide ((0 : Int) < ((i : Nat) : Int)))), (68, vI ((i : Nat) : Int)), (67, vB false), (66, vB false), (65, vB false), (64, vI ((x.waits.at i).seq - (x.waits.at 0).seq)), (63, vI (x.waits.at 0).seq), (62, .v (.pointer (some ((x.waits.ad.add (0 * 5)).add 0)))), (61, .v (.pointer (some (x.waits.ad.add (0 * 5))))), (60, .v (.slice x.waits.A x.waits.n x.waits.c)), (59, .p 0 3), (58, vI (x.waits.at i).seq), (57, .p 1 0), (56, vB false), (55, vB false), (54, vB true), (53, vI (x.next - 1)), (52, vI x.next), (51, .p 0 2), (50, vI (x.waits.at i).seq), (49, .p 1 0), (4, .p 1 0), (3, vI ((i : Nat) : Int)), (1, .p 0 0)] [] [] rfl rfl (by kernel_rfl) on wn ?_
                  cases h17 : decide ((0 : Int) < ((i : Nat) : Int)) with
                  | true =>
                    have h17 := of_decide_eq_true h17
                    refine h_quiet [(28, .idx x.waits.ad (i - 1)), (30, .ext [.int .i64 (x.waits.at (i - 1)).seq])] 12 [(82, vB (decide ((x.waits.at i).seq ≤ (x.waits.at (i - 1)).seq))), (81, vB (decide ((x.waits.at i).seq ≤ (x.waits.at (i - 1)).seq))), (80, vB (decide ((x.waits.at i).seq ≤ (x.waits.at (i - 1)).seq))), (79, vI (x.waits.at (i - 1)).seq), (78, .v (.pointer (some ((x.waits.ad.add ((i - 1) * 5)).add 0)))), (77, .v (.pointer (some (x.waits.ad.add ((i - 1) * 5))))), (76, vI (((i : Nat) : Int) - 1)), (75, vI ((i : Nat) : Int)), (74, .v (.slice x.waits.A x.waits.n x.waits.c)), (73, .p 0 3), (72, vI (x.waits.at i).seq), (71, .p 1 0), (70, vB true), (69, vB true), (68, vI ((i : Nat) : Int)), (67, vB false), (66, vB false), (65, vB false), (64, vI ((x.waits.at i).seq - (x.waits.at 0).seq)), (63, vI (x.waits.at 0).seq), (62, .v (.pointer (some ((x.waits.ad.add (0 * 5)).add 0)))), (61, .v (.pointer (some (x.waits.ad.add (0 * 5))))), (60, .v (.slice x.waits.A x.waits.n x.waits.c)), (59, .p 0 3), (58, vI (x.waits.at i).seq), (57, .p 1 0), (56, vB false), (55, vB false), (54, vB true), (53, vI (x.next - 1)), (52, vI x.next), (51, .p 0 2), (50, vI (x.waits.at i).seq), (49, .p 1 0), (4, .p 1 0), (3, vI ((i : Nat) : Int)), (1, .p 0 0)] [inR (((i : Nat) : Int) - 1), x.waits.A = some x.waits.ad, ((i : Nat) : Int) - 1 = (((i - 1) : Nat) : Int), (i - 1) < x.waits.n] [((x.waits.ad.add ((i - 1) * 5)).add 0, [.int .i64 (x.waits.at (i - 1)).seq])] rfl rfl (by kernel_rfl) (oc (by unfold inR; omega) (oc (Sl.ok.own (s := x.waits) (i := (i - 1)) okx (by omega)) (oc (by omega) (oc (by omega) on)))) (fun w hk hr => ⟨(Sl.rd.fld (s := x.waits) (i := (i - 1)) (Rds.kp hx hk) (by omega) 0 1 rfl), trivial⟩) ?_
                    refine h_nil ?_
                    refine l_nil (q_then_normal ?_)
                    cases h18 : decide ((x.waits.at i).seq ≤ (x.waits.at (i - 1)).seq) with
                    | true =>
                      have h18 := of_decide_eq_true h18
                      refine c_if true rfl ?_
                      refine c_seq ?_
                      refine c_region ?_
                      refine JL_run 1 [] [2] 0 ⟨[(2, vI 9)], []⟩ [] [] (by kernel_rfl) on wn ?_
                      refine l_nil (q_then_normal ?_)
                      refine c_ret ?_
                      refine q_then_ret (q_block_ret (q_then_ret (q_then_ret (q_block_ret (q_then_ret (q_ret (.inl rfl) [vI 9] rfl (fun bs w hS => ?_)))))))
                      refine ⟨?_, hS.kp⟩
                      simp only [retOf, den, List.map_cons, List.map_nil]
                      have hf : custF x.abs i = 9 := by
                        unfold custF
                        simp only [hat, ha1, ha2, ha3, ha4]
                        first | (rw [if_pos (by omega)] <;> first | rfl | (exfalso; omega)) | (rw [if_neg (by omega)] <;> first | rfl | assumption | (exfalso; omega))
                      rw [hI, firstF_here (by omega) hf (by first | assumption | omega)]
                    | false =>
                      have h18 := of_decide_eq_false h18
                      refine c_if false rfl ?_
                      refine c_skip ?_
                      refine q_then_normal ?_
                      refine c_seq ?_
                      refine c_region ?_
                      refine JL_run 2 [] [84, 3, 1] 1 ⟨[(84, .v (.agg #[.int .i64 (x.waits.at i).op.kind, .string (x.waits.at i).op.a, .string (x.waits.at i).op.b, .int .i64 (x.waits.at i).op.n])), (3, vI ((i : Nat) : Int)), (1, .p 0 0)], [⟨24, [vI x.id, vI x.session, vI x.next, .v (.slice x.waits.A x.waits.n x.waits.c)]⟩]⟩ [] [] (by kernel_rfl) on wn ?_
                      refine l_pure 50 [] [.v (.agg #[.int .i64 (x.waits.at i).op.kind, .string (x.waits.at i).op.a, .string (x.waits.at i).op.b, .int .i64 (x.waits.at i).op.n])] (.int .i64 (mOp (x.waits.at i).op)) Try.call50 rfl rfl rfl rfl (fun bs w hS => ref_OpFault (B := anyB) (x.waits.at i).op w ⟨(And.left (Sl.ok.at (s := x.waits) (i := i) okx (by omega))), (And.right (Sl.ok.at (s := x.waits) (i := i) okx (by omega)))⟩) ?_
                      refine JL_run 1 [] [5, 3, 1] 1 ⟨[(5, vI (mOp (x.waits.at i).op)), (3, vI ((i : Nat) : Int)), (1, .p 0 0)], [⟨24, [vI x.id, vI x.session, vI x.next, .v (.slice x.waits.A x.waits.n x.waits.c)]⟩]⟩ [] [] (by kernel_rfl) on wn ?_
                      refine l_nil (q_then_normal ?_)
                      refine c_seq ?_
                      refine c_region ?_
                      refine JL_run 2 [] [87, 5, 3, 1] 1 ⟨[(87, vB (!(decide (mOp (x.waits.at i).op = 0)))), (5, vI (mOp (x.waits.at i).op)), (3, vI ((i : Nat) : Int)), (1, .p 0 0)], [⟨24, [vI x.id, vI x.session, vI x.next, .v (.slice x.waits.A x.waits.n x.waits.c)]⟩]⟩ [] [] (by kernel_rfl) on wn ?_
                      refine l_nil (q_then_normal ?_)
                      cases h19 : decide (mOp (x.waits.at i).op = 0) with
                      | true =>
                        have h19 := of_decide_eq_true h19
                        refine c_if false rfl ?_
                        refine c_skip ?_
                        refine q_block_normal (q_then_normal ?_)
                        refine c_region ?_
                        refine JL_run 3 [] [3, 1] 1 ⟨[(3, vI (((i : Nat) : Int) + 1)), (1, .p 0 0)], [⟨24, [vI x.id, vI x.session, vI x.next, .v (.slice x.waits.A x.waits.n x.waits.c)]⟩]⟩ [inR (((i : Nat) : Int) + 1)] [] (by kernel_rfl) (oc (by unfold inR; omega) on) wn ?_
                        have hf0 : custF x.abs i = 0 := by
                          unfold custF
                          simp only [hat, ha1, ha2, ha3, ha4]
                          first | (rw [if_pos (by omega)] <;> first | rfl | (exfalso; omega)) | (rw [if_neg (by omega)] <;> first | rfl | assumption | (exfalso; omega))
                        refine l_nil (q_loop (x := (i : Nat)) ((i + 1) : Nat) ⟨by omega, by rw [hI]; exact firstF_step (by omega) hf0, fun _ => by omega⟩ (by omega) (s_start [3, 1] 1 (by kernel_rfl) rfl))
                      | false =>
                        have h19 := of_decide_eq_false h19
                        refine c_if true rfl ?_
                        refine c_seq ?_
                        refine c_region ?_
                        refine JL_run 2 [] [2] 0 ⟨[(2, vI (mOp (x.waits.at i).op))], []⟩ [] [] (by kernel_rfl) on wn ?_
                        refine l_nil (q_then_normal ?_)
                        refine c_ret ?_
                        refine q_block_ret (q_then_ret (q_then_ret (q_block_ret (q_then_ret (q_ret (.inl rfl) [vI (mOp (x.waits.at i).op)] rfl (fun bs w hS => ?_))))))
                        refine ⟨?_, hS.kp⟩
                        simp only [retOf, den, List.map_cons, List.map_nil]
                        have hf : custF x.abs i = mOp (x.waits.at i).op := by
                          unfold custF
                          simp only [hat, ha1, ha2, ha3, ha4]
                          first | (rw [if_pos (by omega)] <;> first | rfl | (exfalso; omega)) | (rw [if_neg (by omega)] <;> first | rfl | assumption | (exfalso; omega))
                        rw [hI, firstF_here (by omega) hf (by first | assumption | omega)]
                  | false =>
                    have h17 := of_decide_eq_false h17
                    refine h_quiet [] 12 [(82, vB false), (81, vB false), (80, .v (undef)), (79, .v (undef)), (78, .v (undef)), (77, .v (undef)), (76, .v (undef)), (75, .v (undef)), (74, .v (undef)), (73, .v (undef)), (72, .v (undef)), (71, .v (undef)), (70, vB false), (69, vB false), (68, vI ((i : Nat) : Int)), (67, vB false), (66, vB false), (65, vB false), (64, vI ((x.waits.at i).seq - (x.waits.at 0).seq)), (63, vI (x.waits.at 0).seq), (62, .v (.pointer (some ((x.waits.ad.add (0 * 5)).add 0)))), (61, .v (.pointer (some (x.waits.ad.add (0 * 5))))), (60, .v (.slice x.waits.A x.waits.n x.waits.c)), (59, .p 0 3), (58, vI (x.waits.at i).seq), (57, .p 1 0), (56, vB false), (55, vB false), (54, vB true), (53, vI (x.next - 1)), (52, vI x.next), (51, .p 0 2), (50, vI (x.waits.at i).seq), (49, .p 1 0), (4, .p 1 0), (3, vI ((i : Nat) : Int)), (1, .p 0 0)] [] [] rfl rfl (by kernel_rfl) on wn ?_
                    refine h_nil ?_
                    refine l_nil (q_then_normal ?_)
                    refine c_if false rfl ?_
                    refine c_skip ?_
                    refine q_then_normal ?_
                    refine c_seq ?_
                    refine c_region ?_
                    refine JL_run 2 [] [84, 3, 1] 1 ⟨[(84, .v (.agg #[.int .i64 (x.waits.at i).op.kind, .string (x.waits.at i).op.a, .string (x.waits.at i).op.b, .int .i64 (x.waits.at i).op.n])), (3, vI ((i : Nat) : Int)), (1, .p 0 0)], [⟨24, [vI x.id, vI x.session, vI x.next, .v (.slice x.waits.A x.waits.n x.waits.c)]⟩]⟩ [] [] (by kernel_rfl) on wn ?_
                    refine l_pure 50 [] [.v (.agg #[.int .i64 (x.waits.at i).op.kind, .string (x.waits.at i).op.a, .string (x.waits.at i).op.b, .int .i64 (x.waits.at i).op.n])] (.int .i64 (mOp (x.waits.at i).op)) Try.call50 rfl rfl rfl rfl (fun bs w hS => ref_OpFault (B := anyB) (x.waits.at i).op w ⟨(And.left (Sl.ok.at (s := x.waits) (i := i) okx (by omega))), (And.right (Sl.ok.at (s := x.waits) (i := i) okx (by omega)))⟩) ?_
                    refine JL_run 1 [] [5, 3, 1] 1 ⟨[(5, vI (mOp (x.waits.at i).op)), (3, vI ((i : Nat) : Int)), (1, .p 0 0)], [⟨24, [vI x.id, vI x.session, vI x.next, .v (.slice x.waits.A x.waits.n x.waits.c)]⟩]⟩ [] [] (by kernel_rfl) on wn ?_
                    refine l_nil (q_then_normal ?_)
                    refine c_seq ?_
                    refine c_region ?_
                    refine JL_run 2 [] [87, 5, 3, 1] 1 ⟨[(87, vB (!(decide (mOp (x.waits.at i).op = 0)))), (5, vI (mOp (x.waits.at i).op)), (3, vI ((i : Nat) : Int)), (1, .p 0 0)], [⟨24, [vI x.id, vI x.session, vI x.next, .v (.slice x.waits.A x.waits.n x.waits.c)]⟩]⟩ [] [] (by kernel_rfl) on wn ?_
                    refine l_nil (q_then_normal ?_)
                    cases h20 : decide (mOp (x.waits.at i).op = 0) with
                    | true =>
                      have h20 := of_decide_eq_true h20
                      refine c_if false rfl ?_
                      refine c_skip ?_
                      refine q_block_normal (q_then_normal ?_)
                      refine c_region ?_
                      refine JL_run 3 [] [3, 1] 1 ⟨[(3, vI (((i : Nat) : Int) + 1)), (1, .p 0 0)], [⟨24, [vI x.id, vI x.session, vI x.next, .v (.slice x.waits.A x.waits.n x.waits.c)]⟩]⟩ [inR (((i : Nat) : Int) + 1)] [] (by kernel_rfl) (oc (by unfold inR; omega) on) wn ?_
                      have hf0 : custF x.abs i = 0 := by
                        unfold custF
                        simp only [hat, ha1, ha2, ha3, ha4]
                        first | (rw [if_pos (by omega)] <;> first | rfl | (exfalso; omega)) | (rw [if_neg (by omega)] <;> first | rfl | assumption | (exfalso; omega))
                      refine l_nil (q_loop (x := (i : Nat)) ((i + 1) : Nat) ⟨by omega, by rw [hI]; exact firstF_step (by omega) hf0, fun _ => by omega⟩ (by omega) (s_start [3, 1] 1 (by kernel_rfl) rfl))
                    | false =>
                      have h20 := of_decide_eq_false h20
                      refine c_if true rfl ?_
                      refine c_seq ?_
                      refine c_region ?_
                      refine JL_run 2 [] [2] 0 ⟨[(2, vI (mOp (x.waits.at i).op))], []⟩ [] [] (by kernel_rfl) on wn ?_
                      refine l_nil (q_then_normal ?_)
                      refine c_ret ?_
                      refine q_block_ret (q_then_ret (q_then_ret (q_block_ret (q_then_ret (q_ret (.inl rfl) [vI (mOp (x.waits.at i).op)] rfl (fun bs w hS => ?_))))))
                      refine ⟨?_, hS.kp⟩
                      simp only [retOf, den, List.map_cons, List.map_nil]
                      have hf : custF x.abs i = mOp (x.waits.at i).op := by
                        unfold custF
                        simp only [hat, ha1, ha2, ha3, ha4]
                        first | (rw [if_pos (by omega)] <;> first | rfl | (exfalso; omega)) | (rw [if_neg (by omega)] <;> first | rfl | assumption | (exfalso; omega))
                      rw [hI, firstF_here (by omega) hf (by first | assumption | omega)]
              | false =>
                simp only [inB, Bool.and_eq_true, Bool.and_eq_false_iff, decide_eq_true_eq, decide_eq_false_iff_not] at h15
                refine h_quiet [] 26 [(82, vB true), (81, .v (undef)), (80, .v (undef)), (79, .v (undef)), (78, .v (undef)), (77, .v (undef)), (76, .v (undef)), (75, .v (undef)), (74, .v (undef)), (73, .v (undef)), (72, .v (undef)), (71, .v (undef)), (70, .v (undef)), (69, .v (undef)), (68, .v (undef)), (67, vB true), (66, vB true), (65, .v (undef)), (64, .v (undef)), (63, .v (undef)), (62, .v (undef)), (61, .v (undef)), (60, .v (undef)), (59, .v (undef)), (58, .v (undef)), (57, .v (undef)), (56, vB true), (55, vB true), (54, vB false), (53, vI (x.next - 1)), (52, vI x.next), (51, .p 0 2), (50, vI (x.waits.at i).seq), (49, .p 1 0), (4, .p 1 0), (3, vI ((i : Nat) : Int)), (1, .p 0 0)] [] [] rfl rfl (by kernel_rfl) on wn ?_
                refine h_nil ?_
                refine l_nil (q_then_normal ?_)
                refine c_if true rfl ?_
                refine c_seq ?_
                refine c_region ?_
                refine JL_run 1 [] [2] 0 ⟨[(2, vI 9)], []⟩ [] [] (by kernel_rfl) on wn ?_
                refine l_nil (q_then_normal ?_)
                refine c_ret ?_
                refine q_then_ret (q_block_ret (q_then_ret (q_then_ret (q_block_ret (q_then_ret (q_ret (.inl rfl) [vI 9] rfl (fun bs w hS => ?_)))))))
                refine ⟨?_, hS.kp⟩
                simp only [retOf, den, List.map_cons, List.map_nil]
                have hf : custF x.abs i = 9 := by
                  unfold custF
                  simp only [hat, ha1, ha2, ha3, ha4]
                  first | (rw [if_pos (by omega)] <;> first | rfl | (exfalso; omega)) | (rw [if_neg (by omega)] <;> first | rfl | assumption | (exfalso; omega))
                rw [hI, firstF_here (by omega) hf (by first | assumption | omega)]
            | false =>
              have h14 := of_decide_eq_false h14
              refine c_if false rfl ?_
              refine c_exit ?_
              refine q_then_exit (q_then_exit (q_block_hit (q_then_normal ?_)))
              refine c_seq ?_
              refine c_region ?_
              refine JL_run 1 [] [2] 0 ⟨[(2, vI 0)], []⟩ [] [] (by kernel_rfl) on wn ?_
              refine l_nil (q_then_normal ?_)
              refine c_ret ?_
              refine q_ret (.inl rfl) [vI 0] rfl (fun bs w hS => ?_)
              refine ⟨?_, hS.kp⟩
              simp only [retOf, den, List.map_cons, List.map_nil]
              rw [hI, firstF_end (by omega)]
      | false =>
        simp only [inB, Bool.and_eq_true, Bool.and_eq_false_iff, decide_eq_true_eq, decide_eq_false_iff_not] at h3
        refine c_if true rfl ?_
        refine c_seq ?_
        refine c_region ?_
        refine JL_run 1 [] [2] 0 ⟨[(2, vI 2)], []⟩ [] [] (by kernel_rfl) on wn ?_
        refine l_nil (q_then_normal ?_)
        refine c_ret ?_
        refine q_then_ret (q_ret (.inl rfl) [vI 2] rfl (fun bs w hS => ?_))
        refine ⟨?_, hS.kp⟩
        simp only [retOf, den, List.map_cons, List.map_nil]
        have hm : mCust x.abs = 2 := by
          unfold mCust; simp only [ha1, ha2, ha3, ha4]; rw [if_pos (by omega)]
        rw [hm]
    | false =>
      simp only [inB, Bool.and_eq_true, Bool.and_eq_false_iff, decide_eq_true_eq, decide_eq_false_iff_not] at h2
      refine JL_run 5 [] [21, 1] 1 ⟨[(21, vB true), (1, .p 0 0)], [⟨24, [vI x.id, vI x.session, vI x.next, .v (.slice x.waits.A x.waits.n x.waits.c)]⟩]⟩ [] [] (by kernel_rfl) on wn ?_
      refine l_nil (q_then_normal ?_)
      refine c_if true rfl ?_
      refine c_seq ?_
      refine c_region ?_
      refine JL_run 1 [] [2] 0 ⟨[(2, vI 2)], []⟩ [] [] (by kernel_rfl) on wn ?_
      refine l_nil (q_then_normal ?_)
      refine c_ret ?_
      refine q_then_ret (q_ret (.inl rfl) [vI 2] rfl (fun bs w hS => ?_))
      refine ⟨?_, hS.kp⟩
      simp only [retOf, den, List.map_cons, List.map_nil]
      have hm : mCust x.abs = 2 := by
        unfold mCust; simp only [ha1, ha2, ha3, ha4]; rw [if_pos (by omega)]
      rw [hm]
  | false =>
    simp only [inB, Bool.and_eq_true, Bool.and_eq_false_iff, decide_eq_true_eq, decide_eq_false_iff_not] at h1
    refine JL_run 11 [] [21, 1] 1 ⟨[(21, vB true), (1, .p 0 0)], [⟨24, [vI x.id, vI x.session, vI x.next, .v (.slice x.waits.A x.waits.n x.waits.c)]⟩]⟩ [] [] (by kernel_rfl) on wn ?_
    refine l_nil (q_then_normal ?_)
    refine c_if true rfl ?_
    refine c_seq ?_
    refine c_region ?_
    refine JL_run 1 [] [2] 0 ⟨[(2, vI 2)], []⟩ [] [] (by kernel_rfl) on wn ?_
    refine l_nil (q_then_normal ?_)
    refine c_ret ?_
    refine q_then_ret (q_ret (.inl rfl) [vI 2] rfl (fun bs w hS => ?_))
    refine ⟨?_, hS.kp⟩
    simp only [retOf, den, List.map_cons, List.map_nil]
    have hm : mCust x.abs = 2 := by
      unfold mCust; simp only [ha1, ha2, ha3, ha4]; rw [if_pos (by omega)]
    rw [hm]

end Go.Proofs.Ytececkgjacccmac.W
