/-
  The functions that the law CustomerHears reaches, walked: each returns what its model says.
  Conditions: those that each theorem states.
-/
import Derived.Test.YtececkgjacccmacMc
import Derived.Test.YtececkgjacccmacChecked
set_option linter.unusedVariables false
set_option linter.unusedSimpArgs false
set_option maxRecDepth 100000
namespace Go.Proofs.Ytececkgjacccmac.W
open Go.Proofs.Ytececkgjacccmac.Fw Go.RowKit

theorem Try_mixed : Try.prog.follows .mixedOrders = true := by kernel_rfl
theorem laid : laidOutB Try.prog = true := by kernel_rfl

theorem ref_In (n lo hi : Int) (w : World) : Calls Try.prog 68 #[.int .i64 n, .int .i64 lo, .int .i64 hi] w fun e w' => e = .returned (.bool (inB n lo hi)) ∧ Kp [] w w' := by
  refine calls_J0 15 Try.func68 rfl rfl [.int .i64 n, .int .i64 lo, .int .i64 hi] rfl ?_
  refine c_seq ?_
  refine c_region ?_
  refine JL_run 1 [] [0, 1, 2] 0 ⟨[(0, vI n), (1, vI lo), (2, vI hi)], []⟩ [] [] (by kernel_rfl) on wn ?_
  refine l_nil (q_then_normal ?_)
  refine c_seq ?_
  refine c_region ?_
  refine JL_run 4 [] [10, 0, 2] 0 ⟨[(10, vB (decide (lo ≤ n))), (0, vI n), (2, vI hi)], []⟩ [] [] (by kernel_rfl) on wn ?_
  cases h1 : decide (lo ≤ n) with
  | true =>
    have h1 := of_decide_eq_true h1
    refine JL_run 5 [] [6] 0 ⟨[(6, vB (decide (n ≤ hi)))], []⟩ [] [] (by kernel_rfl) on wn ?_
    refine l_nil (q_then_normal ?_)
    refine c_ret ?_
    refine q_ret (.inl rfl) [vB (decide (n ≤ hi))] rfl (fun bs w hS => ?_)
    exact ⟨by simp [retOf, den, inB, h1], hS.kp⟩
  | false =>
    have h1 := of_decide_eq_false h1
    refine JL_run 5 [] [6] 0 ⟨[(6, vB false)], []⟩ [] [] (by kernel_rfl) on wn ?_
    refine l_nil (q_then_normal ?_)
    refine c_ret ?_
    refine q_ret (.inl rfl) [vB false] rfl (fun bs w hS => ?_)
    exact ⟨by simp [retOf, den, inB, h1], hS.kp⟩

theorem lock_Name1 (c : UInt8) (w : World) : Calls Try.prog 111 #[.int .u8 (c.toNat : Int)] w fun e w' => e = .returned (.bool (nameBad c)) ∧ Kp [] w w' := by
  refine calls_J0 9 Try.func111 rfl rfl [.int .u8 (c.toNat : Int)] rfl ?_
  refine c_seq ?_
  refine c_region ?_
  refine JL_run 1 [] [0] 0 ⟨[(0, .v (.int .u8 (c.toNat : Int)))], []⟩ [] [] (by kernel_rfl) on wn ?_
  refine l_nil (q_then_normal ?_)
  refine c_seq ?_
  refine c_region ?_
  refine JL_run 3 [] [5, 0] 0 ⟨[(5, vB (decide ((c.toNat : Int) < 97))), (0, .v (.int .u8 (c.toNat : Int)))], []⟩ [] [] (by kernel_rfl) on wn ?_
  cases h1 : decide ((c.toNat : Int) < 97) with
  | true =>
    have h1 := of_decide_eq_true h1
    refine JL_run 4 [] [2] 0 ⟨[(2, vB true)], []⟩ [] [] (by kernel_rfl) on wn ?_
    refine l_nil (q_then_normal ?_)
    refine c_ret ?_
    refine q_ret (.inl rfl) [vB true] rfl (fun bs w hS => ?_)
    exact ⟨by simp [retOf, den, nameBad, h1], hS.kp⟩
  | false =>
    have h1 := of_decide_eq_false h1
    refine JL_run 4 [] [2] 0 ⟨[(2, vB (decide ((122 : Int) < (c.toNat : Int))))], []⟩ [] [] (by kernel_rfl) on wn ?_
    refine l_nil (q_then_normal ?_)
    refine c_ret ?_
    refine q_ret (.inl rfl) [vB (decide ((122 : Int) < (c.toNat : Int)))] rfl (fun bs w hS => ?_)
    exact ⟨by simp [retOf, den, nameBad, h1], hS.kp⟩

theorem idx_bytes {B : Nat → Prop} (s : Sl UInt8) (w : World) (hs : s.rd B w) : Calls Try.prog 114 #[.slice s.A s.n s.c, .func (.func 111) #[] #[]] w fun e w' => e = .returned (.int .i64 (mIdx nameBad s.xs)) ∧ Kp [] w w' := by
  have oks := Sl.rd.ok hs
  have ncs := Sl.ok.nc oks
  have hns : s.n = s.xs.length := rfl
  refine calls_J 19 [] Try.func114 rfl rfl [] [] [] [.v (.slice s.A s.n s.c), .fn 111 []] [.slice s.A s.n s.c, .func (.func 111) #[] #[]] rfl rfl (WS.start w) ?_
  refine c_seq ?_
  refine c_region ?_
  refine JL_run 1 [] [0, 1] 0 ⟨[(0, .v (.slice s.A s.n s.c)), (1, .fn 111 [])], []⟩ [] [] (by kernel_rfl) on wn ?_
  refine l_nil (q_then_normal ?_)
  refine c_seq ?_
  refine c_seq ?_
  refine c_region ?_
  refine JL_run 3 [] [8, 7, 0, 1] 0 ⟨[(8, vI 0), (7, vI ((s.n : Nat) : Int)), (0, .v (.slice s.A s.n s.c)), (1, .fn 111 [])], []⟩ [] [] (by kernel_rfl) on wn ?_
  refine l_nil (q_then_normal ?_)
  refine c_block ?_
  refine c_loop (σ := Nat) (fun i => i ≤ s.n ∧ ∀ j, j < i → nameBad (s.at j) = false) (fun i => s.n - i) (fun i => []) (fun i => ⟨[(8, vI ((i : Nat) : Int)), (7, vI ((s.n : Nat) : Int)), (0, .v (.slice s.A s.n s.c)), (1, .fn 111 [])], []⟩) 0 ⟨Nat.zero_le _, fun j hj => absurd hj (Nat.not_lt_zero _)⟩ (s_start [8, 7, 0, 1] 0 (by kernel_rfl) rfl) ?_
  rintro i ⟨hi, hI⟩
  refine c_seq ?_
  refine c_region ?_
  refine JL_run 1 [] [9, 8, 7, 0, 1] 0 ⟨[(9, vB (decide (((i : Nat) : Int) < ((s.n : Nat) : Int)))), (8, vI ((i : Nat) : Int)), (7, vI ((s.n : Nat) : Int)), (0, .v (.slice s.A s.n s.c)), (1, .fn 111 [])], []⟩ [] [] (by kernel_rfl) on wn ?_
  refine l_nil (q_then_normal ?_)
  refine c_seq ?_
  cases h1 : decide (((i : Nat) : Int) < ((s.n : Nat) : Int)) with
  | true =>
    have h1 := of_decide_eq_true h1
    refine c_if true rfl ?_
    refine c_skip ?_
    refine q_then_normal ?_
    refine c_seq ?_
    refine c_block ?_
    refine c_seq ?_
    refine c_region ?_
    refine JL_run 2 [] [5, 8, 7, 0, 1] 0 ⟨[(5, vI ((i : Nat) : Int)), (8, vI ((i : Nat) : Int)), (7, vI ((s.n : Nat) : Int)), (0, .v (.slice s.A s.n s.c)), (1, .fn 111 [])], []⟩ [] [] (by kernel_rfl) on wn ?_
    refine l_nil (q_then_normal ?_)
    refine c_seq ?_
    refine c_region ?_
    refine JL_run 5 [(3, .idx s.ad i), (4, .ext [.int .u8 ((s.at i).toNat : Int)])] [15, 11, 5, 8, 7, 0, 1] 0 ⟨[(15, .v (.int .u8 ((s.at i).toNat : Int))), (11, .fn 111 []), (5, vI ((i : Nat) : Int)), (8, vI ((i : Nat) : Int)), (7, vI ((s.n : Nat) : Int)), (0, .v (.slice s.A s.n s.c)), (1, .fn 111 [])], []⟩ [s.A = some s.ad, ((i : Nat) : Int) = ((i : Nat) : Int), i < s.n] [(s.ad.add (i * 1), [.int .u8 ((s.at i).toNat : Int)])] (by kernel_rfl) (oc (Sl.ok.own (s := s) (i := i) oks (by omega)) (oc rfl (oc (by omega) on))) (fun w hk hr => ⟨(Sl.rd.all (s := s) (i := i) (Sl.rd.kp hs hk) (by omega) rfl), trivial⟩) ?_
    refine l_pure 111 [] [.v (.int .u8 ((s.at i).toNat : Int))] (.bool (nameBad (s.at i))) Try.call111 rfl rfl rfl rfl (fun bs w hS => lock_Name1 _ w) ?_
    refine l_nil (q_then_normal ?_)
    cases h2 : nameBad (s.at i) with
    | true =>
      refine c_if true rfl ?_
      refine c_seq ?_
      refine c_region ?_
      refine JL_run 2 [] [4] 0 ⟨[(4, vI ((i : Nat) : Int))], []⟩ [] [] (by kernel_rfl) on wn ?_
      refine l_nil (q_then_normal ?_)
      refine c_ret ?_
      refine q_block_ret (q_then_ret (q_then_ret (q_block_ret (q_then_ret (q_ret (.inl rfl) [vI ((i : Nat) : Int)] rfl (fun bs w hS => ?_))))))
      refine ⟨?_, hS.kp⟩
      rw [mIdx_here (by omega) (by assumption) hI]
      rfl
    | false =>
      refine c_if false rfl ?_
      refine c_skip ?_
      refine q_block_normal (q_then_normal ?_)
      refine c_region ?_
      refine JL_run 2 [] [8, 7, 0, 1] 0 ⟨[(8, vI (((i : Nat) : Int) + 1)), (7, vI ((s.n : Nat) : Int)), (0, .v (.slice s.A s.n s.c)), (1, .fn 111 [])], []⟩ [inR (((i : Nat) : Int) + 1)] [] (by kernel_rfl) (oc (by unfold inR; omega) on) wn ?_
      refine l_nil (q_loop (x := (i : Nat)) ((i + 1) : Nat) ⟨by omega, fun j hj => by rcases Nat.lt_succ_iff_lt_or_eq.1 hj with h | h; exact hI j h; subst h; assumption⟩ (by omega) (s_start [8, 7, 0, 1] 0 (by kernel_rfl) rfl))
  | false =>
    have h1 := of_decide_eq_false h1
    refine c_if false rfl ?_
    refine c_exit ?_
    refine q_then_exit (q_then_exit (q_block_hit (q_then_normal ?_)))
    refine c_seq ?_
    refine c_region ?_
    refine JL_run 1 [] [4] 0 ⟨[(4, vI (-1))], []⟩ [] [] (by kernel_rfl) on wn ?_
    refine l_nil (q_then_normal ?_)
    refine c_ret ?_
    refine q_ret (.inl rfl) [vI (-1)] rfl (fun bs w hS => ?_)
    refine ⟨?_, hS.kp⟩
    rw [mIdx_none fun j hj => hI j (by omega)]
    rfl

theorem has_bytes {B : Nat → Prop} (s : Sl UInt8) (w : World) (hs : s.rd B w) : Calls Try.prog 110 #[.slice s.A s.n s.c, .func (.func 111) #[] #[]] w fun e w' => e = .returned (.bool (s.xs.any nameBad)) ∧ Kp [] w w' := by
  have oks := Sl.rd.ok hs
  have ncs := Sl.ok.nc oks
  have hns : s.n = s.xs.length := rfl
  refine calls_J 9 [] Try.func110 rfl rfl [] [] [] [.v (.slice s.A s.n s.c), .fn 111 []] [.slice s.A s.n s.c, .func (.func 111) #[] #[]] rfl rfl (WS.start w) ?_
  refine c_seq ?_
  refine c_region ?_
  refine JL_run 1 [] [0, 1] 0 ⟨[(0, .v (.slice s.A s.n s.c)), (1, .fn 111 [])], []⟩ [] [] (by kernel_rfl) on wn ?_
  refine l_nil (q_then_normal ?_)
  refine c_seq ?_
  refine c_region ?_
  refine JL_run 2 [] [6, 5] 0 ⟨[(6, .fn 111 []), (5, .v (.slice s.A s.n s.c))], []⟩ [] [] (by kernel_rfl) on wn ?_
  refine l_pure 114 [] [.v (.slice s.A s.n s.c), .fn 111 []] (.int .i64 (mIdx nameBad s.xs)) Try.call114 rfl rfl rfl rfl (fun bs w hS => idx_bytes _ w (Sl.rd.kp hs hS.kp)) ?_
  refine JL_run 2 [] [4] 0 ⟨[(4, vB (decide ((0 : Int) ≤ mIdx nameBad s.xs)))], []⟩ [] [] (by kernel_rfl) on wn ?_
  refine l_nil (q_then_normal ?_)
  refine c_ret ?_
  refine q_ret (.inl rfl) [vB (decide ((0 : Int) ≤ mIdx nameBad s.xs))] rfl (fun bs w hS => ?_)
  refine ⟨?_, hS.kp⟩
  simp only [retOf, den, List.map_cons, List.map_nil, mIdx_nonneg]

theorem lock_Name (s : ByteArray) (w : World) (hs : s.size ≤ 9223372036854775807) : Calls Try.prog 92 #[.string s] w fun e w' => e = .returned (.bool (mName s)) ∧ Kp [] w w' := by
  refine calls_J0 16 Try.func92 rfl rfl [.string s] rfl ?_
  refine c_seq ?_
  refine c_region ?_
  refine JL_run 1 [] [0] 0 ⟨[(0, vS s)], []⟩ [] [] (by kernel_rfl) on wn ?_
  refine l_nil (q_then_normal ?_)
  refine c_seq ?_
  refine c_region ?_
  refine JL_run 3 [] [5, 0] 0 ⟨[(5, vB (!(decide (s = emp)))), (0, vS s)], []⟩ [] [] (by kernel_rfl) on wn ?_
  cases h1 : decide (s = emp) with
  | true =>
    have h1 := of_decide_eq_true h1
    refine JL_run 11 [] [2] 0 ⟨[(2, vB false)], []⟩ [] [] (by kernel_rfl) on wn ?_
    refine l_nil (q_then_normal ?_)
    refine c_ret ?_
    refine q_ret (.inl rfl) [vB false] rfl (fun bs w hS => ?_)
    refine ⟨?_, hS.kp⟩
    simp [retOf, den, mName, *]
  | false =>
    have h1 := of_decide_eq_false h1
    refine JL_run 5 [] [10, 0] 0 ⟨[(10, vB (decide ((s.size : Int) ≤ 6))), (0, vS s)], []⟩ [] [] (by kernel_rfl) on wn ?_
    cases h2 : decide ((s.size : Int) ≤ 6) with
    | true =>
      have h2 := of_decide_eq_true h2
      refine JL_run 1 [] [11, 10] 0 ⟨[(11, vS s), (10, vB true)], []⟩ [] [] (by kernel_rfl) on wn ?_
      refine l_strbytes 5 s Try.underlying9 Try.underlying137 Try.underlying5 (by unfold maxLen; omega) rfl rfl rfl ?_
      rintro fp1 y1 hF1 hok1
      refine l_pure 110 [] [.v (.slice y1.A y1.n y1.c), .fn 111 []] (.bool (y1.xs.any nameBad)) Try.call110 rfl rfl rfl rfl (fun bs w hS => has_bytes _ w (hS.res _ (.head _))) ?_
      refine JL_run 3 [] [2] 0 ⟨[(2, vB (!(y1.xs.any nameBad)))], []⟩ [] [] (by kernel_rfl) on wn ?_
      refine l_nil (q_then_normal ?_)
      refine c_ret ?_
      refine q_ret (.inl rfl) [vB (!(y1.xs.any nameBad))] rfl (fun bs w hS => ?_)
      refine ⟨?_, hS.kp⟩
      simp [retOf, den, mName, *]
    | false =>
      have h2 := of_decide_eq_false h2
      refine JL_run 6 [] [2] 0 ⟨[(2, vB false)], []⟩ [] [] (by kernel_rfl) on wn ?_
      refine l_nil (q_then_normal ?_)
      refine c_ret ?_
      refine q_ret (.inl rfl) [vB false] rfl (fun bs w hS => ?_)
      refine ⟨?_, hS.kp⟩
      simp [retOf, den, mName, *]

theorem ref_NameMay (s : ByteArray) (w : World) (hs : s.size ≤ 9223372036854775807) : Calls Try.prog 94 #[.string s] w fun e w' => e = .returned (.bool (mName s)) ∧ Kp [] w w' := by
  refine calls_J0 19 Try.func94 rfl rfl [.string s] rfl ?_
  refine c_seq ?_
  refine c_region ?_
  refine JL_run 1 [] [0] 0 ⟨[(0, vS s)], []⟩ [] [] (by kernel_rfl) on wn ?_
  refine l_nil (q_then_normal ?_)
  refine c_seq ?_
  refine c_seq ?_
  refine c_region ?_
  refine JL_run 1 [] [3, 0] 0 ⟨[(3, vI 0), (0, vS s)], []⟩ [] [] (by kernel_rfl) on wn ?_
  refine l_nil (q_then_normal ?_)
  refine c_block ?_
  refine c_loop (σ := Nat) (fun i => i ≤ s.size ∧ ∀ j, j < i → nameBad (s.data.getD j 0) = false) (fun i => s.size - i) (fun i => []) (fun i => ⟨[(3, vI ((i : Nat) : Int)), (0, vS s)], []⟩) 0 ⟨Nat.zero_le _, fun j hj => absurd hj (Nat.not_lt_zero _)⟩ (s_start [3, 0] 0 (by kernel_rfl) rfl) ?_
  rintro i ⟨hi, hI⟩
  have hu := (s.data.getD i 0).toNat_lt
  refine c_seq ?_
  refine c_seq ?_
  refine c_region ?_
  refine JL_run 4 [] [7, 3, 0] 0 ⟨[(7, vB (decide (((i : Nat) : Int) < (s.size : Int)))), (3, vI ((i : Nat) : Int)), (0, vS s)], []⟩ [] [] (by kernel_rfl) on wn ?_
  refine l_nil (q_then_normal ?_)
  cases h1 : decide (((i : Nat) : Int) < (s.size : Int)) with
  | true =>
    have h1 := of_decide_eq_true h1
    refine c_if true rfl ?_
    refine c_skip ?_
    refine q_then_normal ?_
    refine c_seq ?_
    refine c_block ?_
    refine c_seq ?_
    refine c_region ?_
    refine JL_run 4 [(2, .sidx i)] [13, 3, 0] 0 ⟨[(13, vI ((s.data.getD i 0).toNat : Int)), (3, vI ((i : Nat) : Int)), (0, vS s)], []⟩ [((i : Nat) : Int) = ((i : Nat) : Int), i < s.size, 0 ≤ ((s.data.getD i 0).toNat : Int), ((s.data.getD i 0).toNat : Int) ≤ 255] [] (by kernel_rfl) (oc rfl (oc (by omega) (oc (by omega) (oc (by omega) on)))) wn ?_
    refine l_pure 68 [] [vI ((s.data.getD i 0).toNat : Int), vI 97, vI 122] (.bool (inB ((s.data.getD i 0).toNat : Int) 97 122)) Try.call68 rfl rfl rfl rfl (fun bs w hS => ref_In _ _ _ w) ?_
    refine JL_run 1 [] [15, 3, 0] 0 ⟨[(15, vB (!(inB ((s.data.getD i 0).toNat : Int) 97 122))), (3, vI ((i : Nat) : Int)), (0, vS s)], []⟩ [] [] (by kernel_rfl) on wn ?_
    refine l_nil (q_then_normal ?_)
    cases h2 : inB ((s.data.getD i 0).toNat : Int) 97 122 with
    | true =>
      refine c_if false rfl ?_
      refine c_skip ?_
      refine q_block_normal (q_then_normal ?_)
      refine c_region ?_
      refine JL_run 3 [] [3, 0] 0 ⟨[(3, vI (((i : Nat) : Int) + 1)), (0, vS s)], []⟩ [inR (((i : Nat) : Int) + 1)] [] (by kernel_rfl) (oc (by unfold inR; omega) on) wn ?_
      refine l_nil (q_loop (x := (i : Nat)) ((i + 1) : Nat) ⟨by omega, fun j hj => by rcases Nat.lt_succ_iff_lt_or_eq.1 hj with h | h; exact hI j h; subst h; simp only [inB, nameBad, Bool.and_eq_true, Bool.or_eq_false_iff, decide_eq_true_eq, decide_eq_false_iff_not] at *; omega⟩ (by omega) (s_start [3, 0] 0 (by kernel_rfl) rfl))
    | false =>
      refine c_if true rfl ?_
      refine c_seq ?_
      refine c_region ?_
      refine JL_run 1 [] [2] 0 ⟨[(2, vB false)], []⟩ [] [] (by kernel_rfl) on wn ?_
      refine l_nil (q_then_normal ?_)
      refine c_ret ?_
      refine q_block_ret (q_then_ret (q_then_ret (q_block_ret (q_then_ret (q_ret (.inl rfl) [vB false] rfl (fun bs w hS => ?_))))))
      refine ⟨?_, hS.kp⟩
      rw [mName_bad (i := i) (by omega) (by simp only [inB, nameBad, Bool.and_eq_false_iff, Bool.or_eq_true, decide_eq_true_eq, decide_eq_false_iff_not] at *; omega)]
      rfl
  | false =>
    have h1 := of_decide_eq_false h1
    refine c_if false rfl ?_
    refine c_exit ?_
    refine q_then_exit (q_then_exit (q_block_hit (q_then_normal ?_)))
    refine c_seq ?_
    refine c_region ?_
    refine JL_run 2 [] [17] 0 ⟨[(17, vI (s.size : Int))], []⟩ [] [] (by kernel_rfl) on wn ?_
    refine l_pure 68 [] [vI (s.size : Int), vI 1, vI 6] (.bool (inB (s.size : Int) 1 6)) Try.call68 rfl rfl rfl rfl (fun bs w hS => ref_In _ _ _ w) ?_
    refine JL_run 1 [] [2] 0 ⟨[(2, vB (inB (s.size : Int) 1 6))], []⟩ [] [] (by kernel_rfl) on wn ?_
    refine l_nil (q_then_normal ?_)
    refine c_ret ?_
    refine q_ret (.inl rfl) [vB (inB (s.size : Int) 1 6)] rfl (fun bs w hS => ?_)
    refine ⟨?_, hS.kp⟩
    simp only [retOf, den, List.map_cons, List.map_nil, mName_good fun j hj => hI j (by omega)]

theorem command_CheckOp {B : Nat → Prop} (x : DOp) (w : World) (hx : Rds.sub B w x) : Calls Try.prog 46 #[.agg #[.int .i64 x.kind, .string x.a, .string x.b, .int .i64 x.n]] w fun e w' => e = .returned (.int .i64 (mOp x)) ∧ Kp [] w w' := by
  have okx := Rds.okof hx
  refine calls_J0 52 Try.func46 rfl rfl [.agg #[.int .i64 x.kind, .string x.a, .string x.b, .int .i64 x.n]] rfl ?_
  refine c_seq ?_
  refine c_region ?_
  refine JL_run 2 [] [1] 1 ⟨[(1, .p 0 0)], [⟨26, [vI x.kind, vS x.a, vS x.b, vI x.n]⟩]⟩ [] [] (by kernel_rfl) on wn ?_
  refine l_nil (q_then_normal ?_)
  refine c_seq ?_
  refine c_seq ?_
  refine c_region ?_
  refine JL_run 4 [] [6, 1] 1 ⟨[(6, vB (decide (x.kind < 1))), (1, .p 0 0)], [⟨26, [vI x.kind, vS x.a, vS x.b, vI x.n]⟩]⟩ [] [] (by kernel_rfl) on wn ?_
  cases h1 : decide (x.kind < 1) with
  | true =>
    have h1 := of_decide_eq_true h1
    refine JL_run 4 [] [10, 1] 1 ⟨[(10, vB true), (1, .p 0 0)], [⟨26, [vI x.kind, vS x.a, vS x.b, vI x.n]⟩]⟩ [] [] (by kernel_rfl) on wn ?_
    refine l_nil (q_then_normal ?_)
    refine c_if true rfl ?_
    refine c_seq ?_
    refine c_region ?_
    refine JL_run 1 [] [2] 0 ⟨[(2, vI 3)], []⟩ [] [] (by kernel_rfl) on wn ?_
    refine l_nil (q_then_normal ?_)
    refine c_ret ?_
    refine q_then_ret (q_ret (.inl rfl) [vI 3] rfl (fun bs w hS => ?_))
    refine ⟨?_, hS.kp⟩
    simp only [retOf, den, List.map_cons, List.map_nil]
    unfold mOp
    try simp only [h1, emp_size, ne_eq, not_true_eq_false, not_false_eq_true, true_or, or_true, false_or, or_false, and_true, true_and, and_false, false_and, and_self, or_self, if_true, if_false, Bool.true_eq_false, Bool.false_eq_true, reduceIte, Classical.not_not, Bool.and_eq_true, decide_eq_true_eq]
    repeat (first | rw [if_pos (by omega)] | rw [if_neg (by omega)])
    all_goals first | rfl | (exfalso; omega)
  | false =>
    have h1 := of_decide_eq_false h1
    refine JL_run 4 [] [10, 1] 1 ⟨[(10, vB (decide ((6 : Int) < x.kind))), (1, .p 0 0)], [⟨26, [vI x.kind, vS x.a, vS x.b, vI x.n]⟩]⟩ [] [] (by kernel_rfl) on wn ?_
    refine l_nil (q_then_normal ?_)
    cases h2 : decide ((6 : Int) < x.kind) with
    | true =>
      have h2 := of_decide_eq_true h2
      refine c_if true rfl ?_
      refine c_seq ?_
      refine c_region ?_
      refine JL_run 1 [] [2] 0 ⟨[(2, vI 3)], []⟩ [] [] (by kernel_rfl) on wn ?_
      refine l_nil (q_then_normal ?_)
      refine c_ret ?_
      refine q_then_ret (q_ret (.inl rfl) [vI 3] rfl (fun bs w hS => ?_))
      refine ⟨?_, hS.kp⟩
      simp only [retOf, den, List.map_cons, List.map_nil]
      unfold mOp
      try simp only [h1, h2, emp_size, ne_eq, not_true_eq_false, not_false_eq_true, true_or, or_true, false_or, or_false, and_true, true_and, and_false, false_and, and_self, or_self, if_true, if_false, Bool.true_eq_false, Bool.false_eq_true, reduceIte, Classical.not_not, Bool.and_eq_true, decide_eq_true_eq]
      repeat (first | rw [if_pos (by omega)] | rw [if_neg (by omega)])
      all_goals first | rfl | (exfalso; omega)
    | false =>
      have h2 := of_decide_eq_false h2
      refine c_if false rfl ?_
      refine c_skip ?_
      refine q_then_normal ?_
      refine c_seq ?_
      refine c_seq ?_
      refine c_region ?_
      refine JL_run 2 [] [12, 1] 1 ⟨[(12, vS x.a), (1, .p 0 0)], [⟨26, [vI x.kind, vS x.a, vS x.b, vI x.n]⟩]⟩ [] [] (by kernel_rfl) on wn ?_
      refine l_pure 92 [] [vS x.a] (.bool (mName x.a)) Try.call92 rfl rfl rfl rfl (fun bs w hS => lock_Name _ w (And.left okx)) ?_
      refine JL_run 2 [] [15, 1] 1 ⟨[(15, vB (!(mName x.a))), (1, .p 0 0)], [⟨26, [vI x.kind, vS x.a, vS x.b, vI x.n]⟩]⟩ [] [] (by kernel_rfl) on wn ?_
      cases h3 : mName x.a with
      | true =>
        refine JL_run 4 [] [19, 15, 1] 1 ⟨[(19, vB (!(decide (x.kind = 5)))), (15, vB false), (1, .p 0 0)], [⟨26, [vI x.kind, vS x.a, vS x.b, vI x.n]⟩]⟩ [] [] (by kernel_rfl) on wn ?_
        cases h4 : decide (x.kind = 5) with
        | true =>
          have h4 := of_decide_eq_true h4
          refine JL_run 5 [] [24, 1] 1 ⟨[(24, vB false), (1, .p 0 0)], [⟨26, [vI x.kind, vS x.a, vS x.b, vI x.n]⟩]⟩ [] [] (by kernel_rfl) on wn ?_
          refine l_nil (q_then_normal ?_)
          refine c_if false rfl ?_
          refine c_skip ?_
          refine q_then_normal ?_
          refine c_seq ?_
          refine c_seq ?_
          refine c_region ?_
          refine JL_run 4 [] [28, 1] 1 ⟨[(28, vB (decide ((12 : Int) < (x.b.size : Int)))), (1, .p 0 0)], [⟨26, [vI x.kind, vS x.a, vS x.b, vI x.n]⟩]⟩ [] [] (by kernel_rfl) on wn ?_
          refine l_nil (q_then_normal ?_)
          cases h5 : decide ((12 : Int) < (x.b.size : Int)) with
          | true =>
            have h5 := of_decide_eq_true h5
            refine c_if true rfl ?_
            refine c_seq ?_
            refine c_region ?_
            refine JL_run 1 [] [2] 0 ⟨[(2, vI 1)], []⟩ [] [] (by kernel_rfl) on wn ?_
            refine l_nil (q_then_normal ?_)
            refine c_ret ?_
            refine q_then_ret (q_ret (.inl rfl) [vI 1] rfl (fun bs w hS => ?_))
            refine ⟨?_, hS.kp⟩
            simp only [retOf, den, List.map_cons, List.map_nil]
            unfold mOp
            try simp only [h1, h2, h3, h4, h5, emp_size, ne_eq, not_true_eq_false, not_false_eq_true, true_or, or_true, false_or, or_false, and_true, true_and, and_false, false_and, and_self, or_self, if_true, if_false, Bool.true_eq_false, Bool.false_eq_true, reduceIte, Classical.not_not, Bool.and_eq_true, decide_eq_true_eq]
            repeat (first | rw [if_pos (by omega)] | rw [if_neg (by omega)])
            all_goals first | rfl | (exfalso; omega)
          | false =>
            have h5 := of_decide_eq_false h5
            refine c_if false rfl ?_
            refine c_skip ?_
            refine q_then_normal ?_
            refine c_seq ?_
            refine c_seq ?_
            refine c_region ?_
            refine JL_run 4 [] [32, 1] 1 ⟨[(32, vB (decide (x.kind = 5))), (1, .p 0 0)], [⟨26, [vI x.kind, vS x.a, vS x.b, vI x.n]⟩]⟩ [] [] (by kernel_rfl) on wn ?_
            cases h6 : decide (x.kind = 5) with
            | true =>
              have h6 := of_decide_eq_true h6
              refine JL_run 4 [] [36, 32, 1] 1 ⟨[(36, vB (decide (x.n < 1))), (32, vB true), (1, .p 0 0)], [⟨26, [vI x.kind, vS x.a, vS x.b, vI x.n]⟩]⟩ [] [] (by kernel_rfl) on wn ?_
              cases h7 : decide (x.n < 1) with
              | true =>
                have h7 := of_decide_eq_true h7
                refine JL_run 15 [] [51] 0 ⟨[(51, vB true)], []⟩ [] [] (by kernel_rfl) on wn ?_
                refine l_nil (q_then_normal ?_)
                refine c_if true rfl ?_
                refine c_seq ?_
                refine c_region ?_
                refine JL_run 1 [] [2] 0 ⟨[(2, vI 2)], []⟩ [] [] (by kernel_rfl) on wn ?_
                refine l_nil (q_then_normal ?_)
                refine c_ret ?_
                refine q_then_ret (q_ret (.inl rfl) [vI 2] rfl (fun bs w hS => ?_))
                refine ⟨?_, hS.kp⟩
                simp only [retOf, den, List.map_cons, List.map_nil]
                unfold mOp
                try simp only [h1, h2, h3, h4, h5, h6, h7, emp_size, ne_eq, not_true_eq_false, not_false_eq_true, true_or, or_true, false_or, or_false, and_true, true_and, and_false, false_and, and_self, or_self, if_true, if_false, Bool.true_eq_false, Bool.false_eq_true, reduceIte, Classical.not_not, Bool.and_eq_true, decide_eq_true_eq]
                repeat (first | rw [if_pos (by omega)] | rw [if_neg (by omega)])
                all_goals first | rfl | (exfalso; omega)
              | false =>
                have h7 := of_decide_eq_false h7
                refine JL_run 6 [] [42, 1] 1 ⟨[(42, vB (decide ((1073741824 : Int) < x.n))), (1, .p 0 0)], [⟨26, [vI x.kind, vS x.a, vS x.b, vI x.n]⟩]⟩ [] [] (by kernel_rfl) on wn ?_
                cases h8 : decide ((1073741824 : Int) < x.n) with
                | true =>
                  have h8 := of_decide_eq_true h8
                  refine JL_run 9 [] [51] 0 ⟨[(51, vB true)], []⟩ [] [] (by kernel_rfl) on wn ?_
                  refine l_nil (q_then_normal ?_)
                  refine c_if true rfl ?_
                  refine c_seq ?_
                  refine c_region ?_
                  refine JL_run 1 [] [2] 0 ⟨[(2, vI 2)], []⟩ [] [] (by kernel_rfl) on wn ?_
                  refine l_nil (q_then_normal ?_)
                  refine c_ret ?_
                  refine q_then_ret (q_ret (.inl rfl) [vI 2] rfl (fun bs w hS => ?_))
                  refine ⟨?_, hS.kp⟩
                  simp only [retOf, den, List.map_cons, List.map_nil]
                  unfold mOp
                  try simp only [h1, h2, h3, h4, h5, h6, h7, h8, emp_size, ne_eq, not_true_eq_false, not_false_eq_true, true_or, or_true, false_or, or_false, and_true, true_and, and_false, false_and, and_self, or_self, if_true, if_false, Bool.true_eq_false, Bool.false_eq_true, reduceIte, Classical.not_not, Bool.and_eq_true, decide_eq_true_eq]
                  repeat (first | rw [if_pos (by omega)] | rw [if_neg (by omega)])
                  all_goals first | rfl | (exfalso; omega)
                | false =>
                  have h8 := of_decide_eq_false h8
                  refine JL_run 4 [] [46, 42, 1] 1 ⟨[(46, vB (!(decide (x.kind = 5)))), (42, vB false), (1, .p 0 0)], [⟨26, [vI x.kind, vS x.a, vS x.b, vI x.n]⟩]⟩ [] [] (by kernel_rfl) on wn ?_
                  cases h9 : decide (x.kind = 5) with
                  | true =>
                    have h9 := of_decide_eq_true h9
                    refine JL_run 5 [] [51] 0 ⟨[(51, vB false)], []⟩ [] [] (by kernel_rfl) on wn ?_
                    refine l_nil (q_then_normal ?_)
                    refine c_if false rfl ?_
                    refine c_skip ?_
                    refine q_then_normal ?_
                    refine c_seq ?_
                    refine c_region ?_
                    refine JL_run 1 [] [2] 0 ⟨[(2, vI 0)], []⟩ [] [] (by kernel_rfl) on wn ?_
                    refine l_nil (q_then_normal ?_)
                    refine c_ret ?_
                    refine q_ret (.inl rfl) [vI 0] rfl (fun bs w hS => ?_)
                    refine ⟨?_, hS.kp⟩
                    simp only [retOf, den, List.map_cons, List.map_nil]
                    unfold mOp
                    try simp only [h1, h2, h3, h4, h5, h6, h7, h8, h9, emp_size, ne_eq, not_true_eq_false, not_false_eq_true, true_or, or_true, false_or, or_false, and_true, true_and, and_false, false_and, and_self, or_self, if_true, if_false, Bool.true_eq_false, Bool.false_eq_true, reduceIte, Classical.not_not, Bool.and_eq_true, decide_eq_true_eq]
                    repeat (first | rw [if_pos (by omega)] | rw [if_neg (by omega)])
                    all_goals first | rfl | (exfalso; omega)
                  | false =>
                    have h9 := of_decide_eq_false h9
                    exact absurd h4 h9
            | false =>
              have h6 := of_decide_eq_false h6
              exact absurd h4 h6
        | false =>
          have h4 := of_decide_eq_false h4
          refine JL_run 5 [] [24, 1] 1 ⟨[(24, vB (!(decide (x.b = emp)))), (1, .p 0 0)], [⟨26, [vI x.kind, vS x.a, vS x.b, vI x.n]⟩]⟩ [] [] (by kernel_rfl) on wn ?_
          refine l_nil (q_then_normal ?_)
          cases h10 : decide (x.b = emp) with
          | true =>
            have h10 := of_decide_eq_true h10
            have hzh10 : x.b.size = 0 := by rw [h10]; rfl
            refine c_if false rfl ?_
            refine c_skip ?_
            refine q_then_normal ?_
            refine c_seq ?_
            refine c_seq ?_
            refine c_region ?_
            refine JL_run 4 [] [28, 1] 1 ⟨[(28, vB (decide ((12 : Int) < (x.b.size : Int)))), (1, .p 0 0)], [⟨26, [vI x.kind, vS x.a, vS x.b, vI x.n]⟩]⟩ [] [] (by kernel_rfl) on wn ?_
            refine l_nil (q_then_normal ?_)
            cases h11 : decide ((12 : Int) < (x.b.size : Int)) with
            | true =>
              have h11 := of_decide_eq_true h11
              refine c_if true rfl ?_
              refine c_seq ?_
              refine c_region ?_
              refine JL_run 1 [] [2] 0 ⟨[(2, vI 1)], []⟩ [] [] (by kernel_rfl) on wn ?_
              refine l_nil (q_then_normal ?_)
              refine c_ret ?_
              refine q_then_ret (q_ret (.inl rfl) [vI 1] rfl (fun bs w hS => ?_))
              refine ⟨?_, hS.kp⟩
              simp only [retOf, den, List.map_cons, List.map_nil]
              unfold mOp
              try simp only [h1, h2, h3, h4, h10, h11, emp_size, ne_eq, not_true_eq_false, not_false_eq_true, true_or, or_true, false_or, or_false, and_true, true_and, and_false, false_and, and_self, or_self, if_true, if_false, Bool.true_eq_false, Bool.false_eq_true, reduceIte, Classical.not_not, Bool.and_eq_true, decide_eq_true_eq]
              repeat (first | rw [if_pos (by omega)] | rw [if_neg (by omega)])
              all_goals first | rfl | (exfalso; omega)
            | false =>
              have h11 := of_decide_eq_false h11
              refine c_if false rfl ?_
              refine c_skip ?_
              refine q_then_normal ?_
              refine c_seq ?_
              refine c_seq ?_
              refine c_region ?_
              refine JL_run 4 [] [32, 1] 1 ⟨[(32, vB (decide (x.kind = 5))), (1, .p 0 0)], [⟨26, [vI x.kind, vS x.a, vS x.b, vI x.n]⟩]⟩ [] [] (by kernel_rfl) on wn ?_
              cases h12 : decide (x.kind = 5) with
              | true =>
                have h12 := of_decide_eq_true h12
                exact absurd h12 h4
              | false =>
                have h12 := of_decide_eq_false h12
                refine JL_run 14 [] [46, 42, 1] 1 ⟨[(46, vB (!(decide (x.kind = 5)))), (42, vB false), (1, .p 0 0)], [⟨26, [vI x.kind, vS x.a, vS x.b, vI x.n]⟩]⟩ [] [] (by kernel_rfl) on wn ?_
                cases h13 : decide (x.kind = 5) with
                | true =>
                  have h13 := of_decide_eq_true h13
                  exact absurd h13 h4
                | false =>
                  have h13 := of_decide_eq_false h13
                  refine JL_run 5 [] [51] 0 ⟨[(51, vB (!(decide (x.n = 0))))], []⟩ [] [] (by kernel_rfl) on wn ?_
                  refine l_nil (q_then_normal ?_)
                  cases h14 : decide (x.n = 0) with
                  | true =>
                    have h14 := of_decide_eq_true h14
                    refine c_if false rfl ?_
                    refine c_skip ?_
                    refine q_then_normal ?_
                    refine c_seq ?_
                    refine c_region ?_
                    refine JL_run 1 [] [2] 0 ⟨[(2, vI 0)], []⟩ [] [] (by kernel_rfl) on wn ?_
                    refine l_nil (q_then_normal ?_)
                    refine c_ret ?_
                    refine q_ret (.inl rfl) [vI 0] rfl (fun bs w hS => ?_)
                    refine ⟨?_, hS.kp⟩
                    simp only [retOf, den, List.map_cons, List.map_nil]
                    unfold mOp
                    try simp only [h1, h2, h3, h4, h10, h11, h12, h13, h14, emp_size, ne_eq, not_true_eq_false, not_false_eq_true, true_or, or_true, false_or, or_false, and_true, true_and, and_false, false_and, and_self, or_self, if_true, if_false, Bool.true_eq_false, Bool.false_eq_true, reduceIte, Classical.not_not, Bool.and_eq_true, decide_eq_true_eq]
                    repeat (first | rw [if_pos (by omega)] | rw [if_neg (by omega)])
                    all_goals first | rfl | (exfalso; omega)
                  | false =>
                    have h14 := of_decide_eq_false h14
                    refine c_if true rfl ?_
                    refine c_seq ?_
                    refine c_region ?_
                    refine JL_run 1 [] [2] 0 ⟨[(2, vI 2)], []⟩ [] [] (by kernel_rfl) on wn ?_
                    refine l_nil (q_then_normal ?_)
                    refine c_ret ?_
                    refine q_then_ret (q_ret (.inl rfl) [vI 2] rfl (fun bs w hS => ?_))
                    refine ⟨?_, hS.kp⟩
                    simp only [retOf, den, List.map_cons, List.map_nil]
                    unfold mOp
                    try simp only [h1, h2, h3, h4, h10, h11, h12, h13, h14, emp_size, ne_eq, not_true_eq_false, not_false_eq_true, true_or, or_true, false_or, or_false, and_true, true_and, and_false, false_and, and_self, or_self, if_true, if_false, Bool.true_eq_false, Bool.false_eq_true, reduceIte, Classical.not_not, Bool.and_eq_true, decide_eq_true_eq]
                    repeat (first | rw [if_pos (by omega)] | rw [if_neg (by omega)])
                    all_goals first | rfl | (exfalso; omega)
          | false =>
            have h10 := of_decide_eq_false h10
            refine c_if true rfl ?_
            refine c_seq ?_
            refine c_region ?_
            refine JL_run 1 [] [2] 0 ⟨[(2, vI 4)], []⟩ [] [] (by kernel_rfl) on wn ?_
            refine l_nil (q_then_normal ?_)
            refine c_ret ?_
            refine q_then_ret (q_ret (.inl rfl) [vI 4] rfl (fun bs w hS => ?_))
            refine ⟨?_, hS.kp⟩
            simp only [retOf, den, List.map_cons, List.map_nil]
            unfold mOp
            try simp only [h1, h2, h3, h4, h10, emp_size, ne_eq, not_true_eq_false, not_false_eq_true, true_or, or_true, false_or, or_false, and_true, true_and, and_false, false_and, and_self, or_self, if_true, if_false, Bool.true_eq_false, Bool.false_eq_true, reduceIte, Classical.not_not, Bool.and_eq_true, decide_eq_true_eq]
            repeat (first | rw [if_pos (by omega)] | rw [if_neg (by omega)])
            all_goals first | rfl | (exfalso; omega)
      | false =>
        refine JL_run 9 [] [24, 1] 1 ⟨[(24, vB true), (1, .p 0 0)], [⟨26, [vI x.kind, vS x.a, vS x.b, vI x.n]⟩]⟩ [] [] (by kernel_rfl) on wn ?_
        refine l_nil (q_then_normal ?_)
        refine c_if true rfl ?_
        refine c_seq ?_
        refine c_region ?_
        refine JL_run 1 [] [2] 0 ⟨[(2, vI 4)], []⟩ [] [] (by kernel_rfl) on wn ?_
        refine l_nil (q_then_normal ?_)
        refine c_ret ?_
        refine q_then_ret (q_ret (.inl rfl) [vI 4] rfl (fun bs w hS => ?_))
        refine ⟨?_, hS.kp⟩
        simp only [retOf, den, List.map_cons, List.map_nil]
        unfold mOp
        try simp only [h1, h2, h3, emp_size, ne_eq, not_true_eq_false, not_false_eq_true, true_or, or_true, false_or, or_false, and_true, true_and, and_false, false_and, and_self, or_self, if_true, if_false, Bool.true_eq_false, Bool.false_eq_true, reduceIte, Classical.not_not, Bool.and_eq_true, decide_eq_true_eq]
        repeat (first | rw [if_pos (by omega)] | rw [if_neg (by omega)])
        all_goals first | rfl | (exfalso; omega)

theorem ref_OpFault {B : Nat → Prop} (x : DOp) (w : World) (hx : Rds.sub B w x) : Calls Try.prog 50 #[.agg #[.int .i64 x.kind, .string x.a, .string x.b, .int .i64 x.n]] w fun e w' => e = .returned (.int .i64 (mOp x)) ∧ Kp [] w w' := by
  have okx := Rds.okof hx
  refine calls_J0 35 Try.func50 rfl rfl [.agg #[.int .i64 x.kind, .string x.a, .string x.b, .int .i64 x.n]] rfl ?_
  refine c_seq ?_
  refine c_region ?_
  refine JL_run 2 [] [1] 1 ⟨[(1, .p 0 0)], [⟨26, [vI x.kind, vS x.a, vS x.b, vI x.n]⟩]⟩ [] [] (by kernel_rfl) on wn ?_
  refine l_nil (q_then_normal ?_)
  refine c_seq ?_
  refine c_seq ?_
  refine c_region ?_
  refine JL_run 2 [] [4, 1] 1 ⟨[(4, vI x.kind), (1, .p 0 0)], [⟨26, [vI x.kind, vS x.a, vS x.b, vI x.n]⟩]⟩ [] [] (by kernel_rfl) on wn ?_
  refine l_pure 68 [] [vI x.kind, vI 1, vI 6] (.bool (inB x.kind 1 6)) Try.call68 rfl rfl rfl rfl (fun bs w hS => ref_In _ _ _ w) ?_
  refine JL_run 1 [] [6, 1] 1 ⟨[(6, vB (!(inB x.kind 1 6))), (1, .p 0 0)], [⟨26, [vI x.kind, vS x.a, vS x.b, vI x.n]⟩]⟩ [] [] (by kernel_rfl) on wn ?_
  refine l_nil (q_then_normal ?_)
  cases h1 : inB x.kind 1 6 with
  | true =>
    simp only [inB, Bool.and_eq_true, Bool.and_eq_false_iff, decide_eq_true_eq, decide_eq_false_iff_not] at h1
    refine c_if false rfl ?_
    refine c_skip ?_
    refine q_then_normal ?_
    refine c_seq ?_
    refine c_seq ?_
    refine c_region ?_
    refine JL_run 2 [] [8, 1] 1 ⟨[(8, vS x.a), (1, .p 0 0)], [⟨26, [vI x.kind, vS x.a, vS x.b, vI x.n]⟩]⟩ [] [] (by kernel_rfl) on wn ?_
    refine l_pure 94 [] [vS x.a] (.bool (mName x.a)) Try.call94 rfl rfl rfl rfl (fun bs w hS => ref_NameMay _ w (And.left okx)) ?_
    refine JL_run 2 [] [11, 1] 1 ⟨[(11, vB (!(mName x.a))), (1, .p 0 0)], [⟨26, [vI x.kind, vS x.a, vS x.b, vI x.n]⟩]⟩ [] [] (by kernel_rfl) on wn ?_
    cases h2 : mName x.a with
    | true =>
      refine JL_run 4 [] [15, 11, 1] 1 ⟨[(15, vB (!(decide (x.b = emp)))), (11, vB false), (1, .p 0 0)], [⟨26, [vI x.kind, vS x.a, vS x.b, vI x.n]⟩]⟩ [] [] (by kernel_rfl) on wn ?_
      cases h3 : decide (x.b = emp) with
      | true =>
        have h3 := of_decide_eq_true h3
        have hzh3 : x.b.size = 0 := by rw [h3]; rfl
        refine JL_run 5 [] [20, 1] 1 ⟨[(20, vB false), (1, .p 0 0)], [⟨26, [vI x.kind, vS x.a, vS x.b, vI x.n]⟩]⟩ [] [] (by kernel_rfl) on wn ?_
        refine l_nil (q_then_normal ?_)
        refine c_if false rfl ?_
        refine c_skip ?_
        refine q_then_normal ?_
        refine c_seq ?_
        refine c_seq ?_
        refine c_region ?_
        refine JL_run 4 [] [24, 1] 1 ⟨[(24, vB (decide ((12 : Int) < (x.b.size : Int)))), (1, .p 0 0)], [⟨26, [vI x.kind, vS x.a, vS x.b, vI x.n]⟩]⟩ [] [] (by kernel_rfl) on wn ?_
        refine l_nil (q_then_normal ?_)
        cases h4 : decide ((12 : Int) < (x.b.size : Int)) with
        | true =>
          have h4 := of_decide_eq_true h4
          refine c_if true rfl ?_
          refine c_seq ?_
          refine c_region ?_
          refine JL_run 1 [] [2] 0 ⟨[(2, vI 1)], []⟩ [] [] (by kernel_rfl) on wn ?_
          refine l_nil (q_then_normal ?_)
          refine c_ret ?_
          refine q_then_ret (q_ret (.inl rfl) [vI 1] rfl (fun bs w hS => ?_))
          refine ⟨?_, hS.kp⟩
          simp only [retOf, den, List.map_cons, List.map_nil]
          unfold mOp
          try simp only [h1, h2, h3, h4, emp_size, ne_eq, not_true_eq_false, not_false_eq_true, true_or, or_true, false_or, or_false, and_true, true_and, and_false, false_and, and_self, or_self, if_true, if_false, Bool.true_eq_false, Bool.false_eq_true, reduceIte, Classical.not_not, Bool.and_eq_true, decide_eq_true_eq]
          repeat (first | rw [if_pos (by omega)] | rw [if_neg (by omega)])
          all_goals first | rfl | (exfalso; omega)
        | false =>
          have h4 := of_decide_eq_false h4
          refine c_if false rfl ?_
          refine c_skip ?_
          refine q_then_normal ?_
          refine c_seq ?_
          refine c_seq ?_
          refine c_region ?_
          refine JL_run 3 [] [27, 1] 1 ⟨[(27, vB (decide (x.kind = 5))), (1, .p 0 0)], [⟨26, [vI x.kind, vS x.a, vS x.b, vI x.n]⟩]⟩ [] [] (by kernel_rfl) on wn ?_
          refine l_nil (q_then_normal ?_)
          cases h5 : decide (x.kind = 5) with
          | true =>
            have h5 := of_decide_eq_true h5
            refine c_if true rfl ?_
            refine c_seq ?_
            refine c_region ?_
            refine JL_run 2 [] [29] 0 ⟨[(29, vI x.n)], []⟩ [] [] (by kernel_rfl) on wn ?_
            refine l_pure 68 [] [vI x.n, vI 1, vI 1073741824] (.bool (inB x.n 1 1073741824)) Try.call68 rfl rfl rfl rfl (fun bs w hS => ref_In _ _ _ w) ?_
            refine JL_run 1 [] [31] 0 ⟨[(31, vB (!(inB x.n 1 1073741824)))], []⟩ [] [] (by kernel_rfl) on wn ?_
            refine l_nil (q_then_normal ?_)
            cases h6 : inB x.n 1 1073741824 with
            | true =>
              simp only [inB, Bool.and_eq_true, Bool.and_eq_false_iff, decide_eq_true_eq, decide_eq_false_iff_not] at h6
              refine c_if false rfl ?_
              refine c_skip ?_
              refine q_then_normal ?_
              refine c_seq ?_
              refine c_region ?_
              refine JL_run 1 [] [2] 0 ⟨[(2, vI 0)], []⟩ [] [] (by kernel_rfl) on wn ?_
              refine l_nil (q_then_normal ?_)
              refine c_ret ?_
              refine q_ret (.inl rfl) [vI 0] rfl (fun bs w hS => ?_)
              refine ⟨?_, hS.kp⟩
              simp only [retOf, den, List.map_cons, List.map_nil]
              unfold mOp
              try simp only [h1, h2, h3, h4, h5, h6, emp_size, ne_eq, not_true_eq_false, not_false_eq_true, true_or, or_true, false_or, or_false, and_true, true_and, and_false, false_and, and_self, or_self, if_true, if_false, Bool.true_eq_false, Bool.false_eq_true, reduceIte, Classical.not_not, Bool.and_eq_true, decide_eq_true_eq]
              repeat (first | rw [if_pos (by omega)] | rw [if_neg (by omega)])
              all_goals first | rfl | (exfalso; omega)
            | false =>
              simp only [inB, Bool.and_eq_true, Bool.and_eq_false_iff, decide_eq_true_eq, decide_eq_false_iff_not] at h6
              refine c_if true rfl ?_
              refine c_seq ?_
              refine c_region ?_
              refine JL_run 1 [] [2] 0 ⟨[(2, vI 2)], []⟩ [] [] (by kernel_rfl) on wn ?_
              refine l_nil (q_then_normal ?_)
              refine c_ret ?_
              refine q_then_ret (q_ret (.inl rfl) [vI 2] rfl (fun bs w hS => ?_))
              refine ⟨?_, hS.kp⟩
              simp only [retOf, den, List.map_cons, List.map_nil]
              unfold mOp
              try simp only [h1, h2, h3, h4, h5, h6, emp_size, ne_eq, not_true_eq_false, not_false_eq_true, true_or, or_true, false_or, or_false, and_true, true_and, and_false, false_and, and_self, or_self, if_true, if_false, Bool.true_eq_false, Bool.false_eq_true, reduceIte, Classical.not_not, Bool.and_eq_true, decide_eq_true_eq]
              repeat (first | rw [if_pos (by omega)] | rw [if_neg (by omega)])
              all_goals first | rfl | (exfalso; omega)
          | false =>
            have h5 := of_decide_eq_false h5
            refine c_if false rfl ?_
            refine c_seq ?_
            refine c_region ?_
            refine JL_run 3 [] [34] 0 ⟨[(34, vB (!(decide (x.n = 0))))], []⟩ [] [] (by kernel_rfl) on wn ?_
            refine l_nil (q_then_normal ?_)
            cases h7 : decide (x.n = 0) with
            | true =>
              have h7 := of_decide_eq_true h7
              refine c_if false rfl ?_
              refine c_skip ?_
              refine q_then_normal ?_
              refine c_seq ?_
              refine c_region ?_
              refine JL_run 1 [] [2] 0 ⟨[(2, vI 0)], []⟩ [] [] (by kernel_rfl) on wn ?_
              refine l_nil (q_then_normal ?_)
              refine c_ret ?_
              refine q_ret (.inl rfl) [vI 0] rfl (fun bs w hS => ?_)
              refine ⟨?_, hS.kp⟩
              simp only [retOf, den, List.map_cons, List.map_nil]
              unfold mOp
              try simp only [h1, h2, h3, h4, h5, h7, emp_size, ne_eq, not_true_eq_false, not_false_eq_true, true_or, or_true, false_or, or_false, and_true, true_and, and_false, false_and, and_self, or_self, if_true, if_false, Bool.true_eq_false, Bool.false_eq_true, reduceIte, Classical.not_not, Bool.and_eq_true, decide_eq_true_eq]
              repeat (first | rw [if_pos (by omega)] | rw [if_neg (by omega)])
              all_goals first | rfl | (exfalso; omega)
            | false =>
              have h7 := of_decide_eq_false h7
              refine c_if true rfl ?_
              refine c_seq ?_
              refine c_region ?_
              refine JL_run 1 [] [2] 0 ⟨[(2, vI 2)], []⟩ [] [] (by kernel_rfl) on wn ?_
              refine l_nil (q_then_normal ?_)
              refine c_ret ?_
              refine q_then_ret (q_ret (.inl rfl) [vI 2] rfl (fun bs w hS => ?_))
              refine ⟨?_, hS.kp⟩
              simp only [retOf, den, List.map_cons, List.map_nil]
              unfold mOp
              try simp only [h1, h2, h3, h4, h5, h7, emp_size, ne_eq, not_true_eq_false, not_false_eq_true, true_or, or_true, false_or, or_false, and_true, true_and, and_false, false_and, and_self, or_self, if_true, if_false, Bool.true_eq_false, Bool.false_eq_true, reduceIte, Classical.not_not, Bool.and_eq_true, decide_eq_true_eq]
              repeat (first | rw [if_pos (by omega)] | rw [if_neg (by omega)])
              all_goals first | rfl | (exfalso; omega)
      | false =>
        have h3 := of_decide_eq_false h3
        refine JL_run 5 [] [20, 1] 1 ⟨[(20, vB (!(decide (x.kind = 5)))), (1, .p 0 0)], [⟨26, [vI x.kind, vS x.a, vS x.b, vI x.n]⟩]⟩ [] [] (by kernel_rfl) on wn ?_
        refine l_nil (q_then_normal ?_)
        cases h8 : decide (x.kind = 5) with
        | true =>
          have h8 := of_decide_eq_true h8
          refine c_if false rfl ?_
          refine c_skip ?_
          refine q_then_normal ?_
          refine c_seq ?_
          refine c_seq ?_
          refine c_region ?_
          refine JL_run 4 [] [24, 1] 1 ⟨[(24, vB (decide ((12 : Int) < (x.b.size : Int)))), (1, .p 0 0)], [⟨26, [vI x.kind, vS x.a, vS x.b, vI x.n]⟩]⟩ [] [] (by kernel_rfl) on wn ?_
          refine l_nil (q_then_normal ?_)
          cases h9 : decide ((12 : Int) < (x.b.size : Int)) with
          | true =>
            have h9 := of_decide_eq_true h9
            refine c_if true rfl ?_
            refine c_seq ?_
            refine c_region ?_
            refine JL_run 1 [] [2] 0 ⟨[(2, vI 1)], []⟩ [] [] (by kernel_rfl) on wn ?_
            refine l_nil (q_then_normal ?_)
            refine c_ret ?_
            refine q_then_ret (q_ret (.inl rfl) [vI 1] rfl (fun bs w hS => ?_))
            refine ⟨?_, hS.kp⟩
            simp only [retOf, den, List.map_cons, List.map_nil]
            unfold mOp
            try simp only [h1, h2, h3, h8, h9, emp_size, ne_eq, not_true_eq_false, not_false_eq_true, true_or, or_true, false_or, or_false, and_true, true_and, and_false, false_and, and_self, or_self, if_true, if_false, Bool.true_eq_false, Bool.false_eq_true, reduceIte, Classical.not_not, Bool.and_eq_true, decide_eq_true_eq]
            repeat (first | rw [if_pos (by omega)] | rw [if_neg (by omega)])
            all_goals first | rfl | (exfalso; omega)
          | false =>
            have h9 := of_decide_eq_false h9
            refine c_if false rfl ?_
            refine c_skip ?_
            refine q_then_normal ?_
            refine c_seq ?_
            refine c_seq ?_
            refine c_region ?_
            refine JL_run 3 [] [27, 1] 1 ⟨[(27, vB (decide (x.kind = 5))), (1, .p 0 0)], [⟨26, [vI x.kind, vS x.a, vS x.b, vI x.n]⟩]⟩ [] [] (by kernel_rfl) on wn ?_
            refine l_nil (q_then_normal ?_)
            cases h10 : decide (x.kind = 5) with
            | true =>
              have h10 := of_decide_eq_true h10
              refine c_if true rfl ?_
              refine c_seq ?_
              refine c_region ?_
              refine JL_run 2 [] [29] 0 ⟨[(29, vI x.n)], []⟩ [] [] (by kernel_rfl) on wn ?_
              refine l_pure 68 [] [vI x.n, vI 1, vI 1073741824] (.bool (inB x.n 1 1073741824)) Try.call68 rfl rfl rfl rfl (fun bs w hS => ref_In _ _ _ w) ?_
              refine JL_run 1 [] [31] 0 ⟨[(31, vB (!(inB x.n 1 1073741824)))], []⟩ [] [] (by kernel_rfl) on wn ?_
              refine l_nil (q_then_normal ?_)
              cases h11 : inB x.n 1 1073741824 with
              | true =>
                simp only [inB, Bool.and_eq_true, Bool.and_eq_false_iff, decide_eq_true_eq, decide_eq_false_iff_not] at h11
                refine c_if false rfl ?_
                refine c_skip ?_
                refine q_then_normal ?_
                refine c_seq ?_
                refine c_region ?_
                refine JL_run 1 [] [2] 0 ⟨[(2, vI 0)], []⟩ [] [] (by kernel_rfl) on wn ?_
                refine l_nil (q_then_normal ?_)
                refine c_ret ?_
                refine q_ret (.inl rfl) [vI 0] rfl (fun bs w hS => ?_)
                refine ⟨?_, hS.kp⟩
                simp only [retOf, den, List.map_cons, List.map_nil]
                unfold mOp
                try simp only [h1, h2, h3, h8, h9, h10, h11, emp_size, ne_eq, not_true_eq_false, not_false_eq_true, true_or, or_true, false_or, or_false, and_true, true_and, and_false, false_and, and_self, or_self, if_true, if_false, Bool.true_eq_false, Bool.false_eq_true, reduceIte, Classical.not_not, Bool.and_eq_true, decide_eq_true_eq]
                repeat (first | rw [if_pos (by omega)] | rw [if_neg (by omega)])
                all_goals first | rfl | (exfalso; omega)
              | false =>
                simp only [inB, Bool.and_eq_true, Bool.and_eq_false_iff, decide_eq_true_eq, decide_eq_false_iff_not] at h11
                refine c_if true rfl ?_
                refine c_seq ?_
                refine c_region ?_
                refine JL_run 1 [] [2] 0 ⟨[(2, vI 2)], []⟩ [] [] (by kernel_rfl) on wn ?_
                refine l_nil (q_then_normal ?_)
                refine c_ret ?_
                refine q_then_ret (q_ret (.inl rfl) [vI 2] rfl (fun bs w hS => ?_))
                refine ⟨?_, hS.kp⟩
                simp only [retOf, den, List.map_cons, List.map_nil]
                unfold mOp
                try simp only [h1, h2, h3, h8, h9, h10, h11, emp_size, ne_eq, not_true_eq_false, not_false_eq_true, true_or, or_true, false_or, or_false, and_true, true_and, and_false, false_and, and_self, or_self, if_true, if_false, Bool.true_eq_false, Bool.false_eq_true, reduceIte, Classical.not_not, Bool.and_eq_true, decide_eq_true_eq]
                repeat (first | rw [if_pos (by omega)] | rw [if_neg (by omega)])
                all_goals first | rfl | (exfalso; omega)
            | false =>
              have h10 := of_decide_eq_false h10
              exact absurd h8 h10
        | false =>
          have h8 := of_decide_eq_false h8
          refine c_if true rfl ?_
          refine c_seq ?_
          refine c_region ?_
          refine JL_run 1 [] [2] 0 ⟨[(2, vI 4)], []⟩ [] [] (by kernel_rfl) on wn ?_
          refine l_nil (q_then_normal ?_)
          refine c_ret ?_
          refine q_then_ret (q_ret (.inl rfl) [vI 4] rfl (fun bs w hS => ?_))
          refine ⟨?_, hS.kp⟩
          simp only [retOf, den, List.map_cons, List.map_nil]
          unfold mOp
          try simp only [h1, h2, h3, h8, emp_size, ne_eq, not_true_eq_false, not_false_eq_true, true_or, or_true, false_or, or_false, and_true, true_and, and_false, false_and, and_self, or_self, if_true, if_false, Bool.true_eq_false, Bool.false_eq_true, reduceIte, Classical.not_not, Bool.and_eq_true, decide_eq_true_eq]
          repeat (first | rw [if_pos (by omega)] | rw [if_neg (by omega)])
          all_goals first | rfl | (exfalso; omega)
    | false =>
      refine JL_run 9 [] [20, 1] 1 ⟨[(20, vB true), (1, .p 0 0)], [⟨26, [vI x.kind, vS x.a, vS x.b, vI x.n]⟩]⟩ [] [] (by kernel_rfl) on wn ?_
      refine l_nil (q_then_normal ?_)
      refine c_if true rfl ?_
      refine c_seq ?_
      refine c_region ?_
      refine JL_run 1 [] [2] 0 ⟨[(2, vI 4)], []⟩ [] [] (by kernel_rfl) on wn ?_
      refine l_nil (q_then_normal ?_)
      refine c_ret ?_
      refine q_then_ret (q_ret (.inl rfl) [vI 4] rfl (fun bs w hS => ?_))
      refine ⟨?_, hS.kp⟩
      simp only [retOf, den, List.map_cons, List.map_nil]
      unfold mOp
      try simp only [h1, h2, emp_size, ne_eq, not_true_eq_false, not_false_eq_true, true_or, or_true, false_or, or_false, and_true, true_and, and_false, false_and, and_self, or_self, if_true, if_false, Bool.true_eq_false, Bool.false_eq_true, reduceIte, Classical.not_not, Bool.and_eq_true, decide_eq_true_eq]
      repeat (first | rw [if_pos (by omega)] | rw [if_neg (by omega)])
      all_goals first | rfl | (exfalso; omega)
  | false =>
    simp only [inB, Bool.and_eq_true, Bool.and_eq_false_iff, decide_eq_true_eq, decide_eq_false_iff_not] at h1
    refine c_if true rfl ?_
    refine c_seq ?_
    refine c_region ?_
    refine JL_run 1 [] [2] 0 ⟨[(2, vI 3)], []⟩ [] [] (by kernel_rfl) on wn ?_
    refine l_nil (q_then_normal ?_)
    refine c_ret ?_
    refine q_then_ret (q_ret (.inl rfl) [vI 3] rfl (fun bs w hS => ?_))
    refine ⟨?_, hS.kp⟩
    simp only [retOf, den, List.map_cons, List.map_nil]
    unfold mOp
    try simp only [h1, emp_size, ne_eq, not_true_eq_false, not_false_eq_true, true_or, or_true, false_or, or_false, and_true, true_and, and_false, false_and, and_self, or_self, if_true, if_false, Bool.true_eq_false, Bool.false_eq_true, reduceIte, Classical.not_not, Bool.and_eq_true, decide_eq_true_eq]
    repeat (first | rw [if_pos (by omega)] | rw [if_neg (by omega)])
    all_goals first | rfl | (exfalso; omega)

theorem customer_Check {B : Nat → Prop} (x : CCustomer) (w : World) (hx : Rds.sub B w x) : Calls Try.prog 45 #[.agg #[.int .i64 x.id, .int .i64 x.session, .int .i64 x.next, .slice x.waits.A x.waits.n x.waits.c]] w fun e w' => e = .returned (.int .i64 (mCust x.abs)) ∧ Kp [] w w' := by
  have okx := Rds.okof hx
  have ncx := Sl.ok.nc okx
  have hns : x.waits.n = x.waits.xs.length := rfl
  have hat : ∀ q, x.abs.waits.getD q default = x.waits.at q := fun _ => rfl
  have ha1 : x.abs.id = x.id := rfl
  have ha2 : x.abs.session = x.session := rfl
  have ha3 : x.abs.next = x.next := rfl
  have ha4 : x.abs.waits.length = x.waits.n := rfl
  refine calls_J0 102 Try.func45 rfl rfl [.agg #[.int .i64 x.id, .int .i64 x.session, .int .i64 x.next, .slice x.waits.A x.waits.n x.waits.c]] rfl ?_
  refine c_seq ?_
  refine c_region ?_
  refine JL_run 2 [] [1] 1 ⟨[(1, .p 0 0)], [⟨24, [vI x.id, vI x.session, vI x.next, .v (.slice x.waits.A x.waits.n x.waits.c)]⟩]⟩ [] [] (by kernel_rfl) on wn ?_
  refine l_nil (q_then_normal ?_)
  refine c_seq ?_
  refine c_seq ?_
  refine c_region ?_
  refine JL_run 4 [] [9, 1] 1 ⟨[(9, vB (decide (x.id < 1))), (1, .p 0 0)], [⟨24, [vI x.id, vI x.session, vI x.next, .v (.slice x.waits.A x.waits.n x.waits.c)]⟩]⟩ [] [] (by kernel_rfl) on wn ?_
  cases h1 : decide (x.id < 1) with
  | true =>
    have h1 := of_decide_eq_true h1
    refine JL_run 24 [] [33, 1] 1 ⟨[(33, vB true), (1, .p 0 0)], [⟨24, [vI x.id, vI x.session, vI x.next, .v (.slice x.waits.A x.waits.n x.waits.c)]⟩]⟩ [] [] (by kernel_rfl) on wn ?_
    refine l_nil (q_then_normal ?_)
    refine c_if true rfl ?_
    refine c_seq ?_
    refine c_region ?_
    refine JL_run 1 [] [2] 0 ⟨[(2, vI 2)], []⟩ [] [] (by kernel_rfl) on wn ?_
    refine l_nil (q_then_normal ?_)
    refine c_ret ?_
    refine q_then_ret (q_ret (.inl rfl) [vI 2] rfl (fun bs w hS => ?_))
    refine ⟨?_, hS.kp⟩
    simp only [retOf, den, List.map_cons, List.map_nil]
    have hm : mCust x.abs = 2 := by
      unfold mCust; simp only [ha1, ha2, ha3, ha4]; rw [if_pos (by omega)]
    rw [hm]
  | false =>
    have h1 := of_decide_eq_false h1
    refine JL_run 5 [] [14, 1] 1 ⟨[(14, vB (decide ((9 : Int) < x.id))), (1, .p 0 0)], [⟨24, [vI x.id, vI x.session, vI x.next, .v (.slice x.waits.A x.waits.n x.waits.c)]⟩]⟩ [] [] (by kernel_rfl) on wn ?_
    cases h2 : decide ((9 : Int) < x.id) with
    | true =>
      have h2 := of_decide_eq_true h2
      refine JL_run 19 [] [33, 1] 1 ⟨[(33, vB true), (1, .p 0 0)], [⟨24, [vI x.id, vI x.session, vI x.next, .v (.slice x.waits.A x.waits.n x.waits.c)]⟩]⟩ [] [] (by kernel_rfl) on wn ?_
      refine l_nil (q_then_normal ?_)
      refine c_if true rfl ?_
      refine c_seq ?_
      refine c_region ?_
      refine JL_run 1 [] [2] 0 ⟨[(2, vI 2)], []⟩ [] [] (by kernel_rfl) on wn ?_
      refine l_nil (q_then_normal ?_)
      refine c_ret ?_
      refine q_then_ret (q_ret (.inl rfl) [vI 2] rfl (fun bs w hS => ?_))
      refine ⟨?_, hS.kp⟩
      simp only [retOf, den, List.map_cons, List.map_nil]
      have hm : mCust x.abs = 2 := by
        unfold mCust; simp only [ha1, ha2, ha3, ha4]; rw [if_pos (by omega)]
      rw [hm]
    | false =>
      have h2 := of_decide_eq_false h2
      refine JL_run 5 [] [19, 1] 1 ⟨[(19, vB (decide (x.session < 0))), (1, .p 0 0)], [⟨24, [vI x.id, vI x.session, vI x.next, .v (.slice x.waits.A x.waits.n x.waits.c)]⟩]⟩ [] [] (by kernel_rfl) on wn ?_
      cases h3 : decide (x.session < 0) with
      | true =>
        have h3 := of_decide_eq_true h3
        refine JL_run 14 [] [33, 1] 1 ⟨[(33, vB true), (1, .p 0 0)], [⟨24, [vI x.id, vI x.session, vI x.next, .v (.slice x.waits.A x.waits.n x.waits.c)]⟩]⟩ [] [] (by kernel_rfl) on wn ?_
        refine l_nil (q_then_normal ?_)
        refine c_if true rfl ?_
        refine c_seq ?_
        refine c_region ?_
        refine JL_run 1 [] [2] 0 ⟨[(2, vI 2)], []⟩ [] [] (by kernel_rfl) on wn ?_
        refine l_nil (q_then_normal ?_)
        refine c_ret ?_
        refine q_then_ret (q_ret (.inl rfl) [vI 2] rfl (fun bs w hS => ?_))
        refine ⟨?_, hS.kp⟩
        simp only [retOf, den, List.map_cons, List.map_nil]
        have hm : mCust x.abs = 2 := by
          unfold mCust; simp only [ha1, ha2, ha3, ha4]; rw [if_pos (by omega)]
        rw [hm]
      | false =>
        have h3 := of_decide_eq_false h3
        refine JL_run 5 [] [24, 1] 1 ⟨[(24, vB (decide ((1073741824 : Int) < x.session))), (1, .p 0 0)], [⟨24, [vI x.id, vI x.session, vI x.next, .v (.slice x.waits.A x.waits.n x.waits.c)]⟩]⟩ [] [] (by kernel_rfl) on wn ?_
        cases h4 : decide ((1073741824 : Int) < x.session) with
        | true =>
          have h4 := of_decide_eq_true h4
          refine JL_run 9 [] [33, 1] 1 ⟨[(33, vB true), (1, .p 0 0)], [⟨24, [vI x.id, vI x.session, vI x.next, .v (.slice x.waits.A x.waits.n x.waits.c)]⟩]⟩ [] [] (by kernel_rfl) on wn ?_
          refine l_nil (q_then_normal ?_)
          refine c_if true rfl ?_
          refine c_seq ?_
          refine c_region ?_
          refine JL_run 1 [] [2] 0 ⟨[(2, vI 2)], []⟩ [] [] (by kernel_rfl) on wn ?_
          refine l_nil (q_then_normal ?_)
          refine c_ret ?_
          refine q_then_ret (q_ret (.inl rfl) [vI 2] rfl (fun bs w hS => ?_))
          refine ⟨?_, hS.kp⟩
          simp only [retOf, den, List.map_cons, List.map_nil]
          have hm : mCust x.abs = 2 := by
            unfold mCust; simp only [ha1, ha2, ha3, ha4]; rw [if_pos (by omega)]
          rw [hm]
        | false =>
          have h4 := of_decide_eq_false h4
          refine JL_run 5 [] [29, 1] 1 ⟨[(29, vB (decide (x.next < 1))), (1, .p 0 0)], [⟨24, [vI x.id, vI x.session, vI x.next, .v (.slice x.waits.A x.waits.n x.waits.c)]⟩]⟩ [] [] (by kernel_rfl) on wn ?_
          cases h5 : decide (x.next < 1) with
          | true =>
            have h5 := of_decide_eq_true h5
            refine JL_run 4 [] [33, 1] 1 ⟨[(33, vB true), (1, .p 0 0)], [⟨24, [vI x.id, vI x.session, vI x.next, .v (.slice x.waits.A x.waits.n x.waits.c)]⟩]⟩ [] [] (by kernel_rfl) on wn ?_
            refine l_nil (q_then_normal ?_)
            refine c_if true rfl ?_
            refine c_seq ?_
            refine c_region ?_
            refine JL_run 1 [] [2] 0 ⟨[(2, vI 2)], []⟩ [] [] (by kernel_rfl) on wn ?_
            refine l_nil (q_then_normal ?_)
            refine c_ret ?_
            refine q_then_ret (q_ret (.inl rfl) [vI 2] rfl (fun bs w hS => ?_))
            refine ⟨?_, hS.kp⟩
            simp only [retOf, den, List.map_cons, List.map_nil]
            have hm : mCust x.abs = 2 := by
              unfold mCust; simp only [ha1, ha2, ha3, ha4]; rw [if_pos (by omega)]
            rw [hm]
          | false =>
            have h5 := of_decide_eq_false h5
            refine JL_run 4 [] [33, 1] 1 ⟨[(33, vB (decide ((1048577 : Int) < x.next))), (1, .p 0 0)], [⟨24, [vI x.id, vI x.session, vI x.next, .v (.slice x.waits.A x.waits.n x.waits.c)]⟩]⟩ [] [] (by kernel_rfl) on wn ?_
            refine l_nil (q_then_normal ?_)
            cases h6 : decide ((1048577 : Int) < x.next) with
            | true =>
              have h6 := of_decide_eq_true h6
              refine c_if true rfl ?_
              refine c_seq ?_
              refine c_region ?_
              refine JL_run 1 [] [2] 0 ⟨[(2, vI 2)], []⟩ [] [] (by kernel_rfl) on wn ?_
              refine l_nil (q_then_normal ?_)
              refine c_ret ?_
              refine q_then_ret (q_ret (.inl rfl) [vI 2] rfl (fun bs w hS => ?_))
              refine ⟨?_, hS.kp⟩
              simp only [retOf, den, List.map_cons, List.map_nil]
              have hm : mCust x.abs = 2 := by
                unfold mCust; simp only [ha1, ha2, ha3, ha4]; rw [if_pos (by omega)]
              rw [hm]
            | false =>
              have h6 := of_decide_eq_false h6
              refine c_if false rfl ?_
              refine c_skip ?_
              refine q_then_normal ?_
              refine c_seq ?_
              refine c_seq ?_
              refine c_region ?_
              refine JL_run 5 [] [38, 1] 1 ⟨[(38, vB (decide ((4 : Int) < ((x.waits.n : Nat) : Int)))), (1, .p 0 0)], [⟨24, [vI x.id, vI x.session, vI x.next, .v (.slice x.waits.A x.waits.n x.waits.c)]⟩]⟩ [] [] (by kernel_rfl) on wn ?_
              cases h7 : decide ((4 : Int) < ((x.waits.n : Nat) : Int)) with
              | true =>
                have h7 := of_decide_eq_true h7
                refine JL_run 10 [] [48, 1] 1 ⟨[(48, vB true), (1, .p 0 0)], [⟨24, [vI x.id, vI x.session, vI x.next, .v (.slice x.waits.A x.waits.n x.waits.c)]⟩]⟩ [] [] (by kernel_rfl) on wn ?_
                refine l_nil (q_then_normal ?_)
                refine c_if true rfl ?_
                refine c_seq ?_
                refine c_region ?_
                refine JL_run 1 [] [2] 0 ⟨[(2, vI 9)], []⟩ [] [] (by kernel_rfl) on wn ?_
                refine l_nil (q_then_normal ?_)
                refine c_ret ?_
                refine q_then_ret (q_ret (.inl rfl) [vI 9] rfl (fun bs w hS => ?_))
                refine ⟨?_, hS.kp⟩
                simp only [retOf, den, List.map_cons, List.map_nil]
                have hm : mCust x.abs = 9 := by
                  unfold mCust; simp only [ha1, ha2, ha3, ha4]; rw [if_neg (by omega), if_pos (by omega)]
                rw [hm]
              | false =>
                have h7 := of_decide_eq_false h7
                refine JL_run 4 [] [42, 38, 1] 1 ⟨[(42, vB (decide (x.session = 0))), (38, vB false), (1, .p 0 0)], [⟨24, [vI x.id, vI x.session, vI x.next, .v (.slice x.waits.A x.waits.n x.waits.c)]⟩]⟩ [] [] (by kernel_rfl) on wn ?_
                cases h8 : decide (x.session = 0) with
                | true =>
                  have h8 := of_decide_eq_true h8
                  refine JL_run 6 [] [48, 1] 1 ⟨[(48, vB (decide ((0 : Int) < ((x.waits.n : Nat) : Int)))), (1, .p 0 0)], [⟨24, [vI x.id, vI x.session, vI x.next, .v (.slice x.waits.A x.waits.n x.waits.c)]⟩]⟩ [] [] (by kernel_rfl) on wn ?_
                  refine l_nil (q_then_normal ?_)
                  cases h9 : decide ((0 : Int) < ((x.waits.n : Nat) : Int)) with
                  | true =>
                    have h9 := of_decide_eq_true h9
                    refine c_if true rfl ?_
                    refine c_seq ?_
                    refine c_region ?_
                    refine JL_run 1 [] [2] 0 ⟨[(2, vI 9)], []⟩ [] [] (by kernel_rfl) on wn ?_
                    refine l_nil (q_then_normal ?_)
                    refine c_ret ?_
                    refine q_then_ret (q_ret (.inl rfl) [vI 9] rfl (fun bs w hS => ?_))
                    refine ⟨?_, hS.kp⟩
                    simp only [retOf, den, List.map_cons, List.map_nil]
                    have hm : mCust x.abs = 9 := by
                      unfold mCust; simp only [ha1, ha2, ha3, ha4]; rw [if_neg (by omega), if_pos (by omega)]
                    rw [hm]
                  | false =>
                    have h9 := of_decide_eq_false h9
                    refine c_if false rfl ?_
                    refine c_skip ?_
                    refine q_then_normal ?_
                    refine c_seq ?_
                    refine c_seq ?_
                    refine c_region ?_
                    refine JL_run 4 [] [52, 51, 50, 1] 1 ⟨[(52, vI 0), (51, vI ((x.waits.n : Nat) : Int)), (50, .v (.slice x.waits.A x.waits.n x.waits.c)), (1, .p 0 0)], [⟨24, [vI x.id, vI x.session, vI x.next, .v (.slice x.waits.A x.waits.n x.waits.c)]⟩]⟩ [] [] (by kernel_rfl) on wn ?_
                    refine l_nil (q_then_normal ?_)
                    refine c_block ?_
                    refine c_loop (σ := Nat) (fun i => i ≤ x.waits.n ∧ mCust x.abs = firstF (custF x.abs) (x.waits.n - i) i ∧ (0 < i → 1 ≤ (x.waits.at 0).seq ∧ (x.waits.at 0).seq < x.next)) (fun i => x.waits.n - i) (fun i => []) (fun i => ⟨[(52, vI ((i : Nat) : Int)), (51, vI ((x.waits.n : Nat) : Int)), (50, .v (.slice x.waits.A x.waits.n x.waits.c)), (1, .p 0 0)], [⟨24, [vI x.id, vI x.session, vI x.next, .v (.slice x.waits.A x.waits.n x.waits.c)]⟩]⟩) 0 ⟨Nat.zero_le _, by unfold mCust; simp only [ha1, ha2, ha3, ha4]; rw [if_neg (by omega), if_neg (by omega)], fun h => absurd h (by omega)⟩ (s_start [52, 51, 50, 1] 1 (by kernel_rfl) rfl) ?_
                    rintro i ⟨hi, hI, h0⟩
                    have hz : i = 0 ∨ (0 < i ∧ 1 ≤ (x.waits.at 0).seq ∧ (x.waits.at 0).seq < x.next) := by rcases Nat.eq_zero_or_pos i with h | h; exact .inl h; exact .inr ⟨h, h0 h⟩
                    have hz2 : i = 0 → (x.waits.at i).seq = (x.waits.at 0).seq := fun h => by rw [h]
                    refine c_seq ?_
                    refine c_region ?_
                    refine JL_run 1 [] [53, 52, 51, 50, 1] 1 ⟨[(53, vB (decide (((i : Nat) : Int) < ((x.waits.n : Nat) : Int)))), (52, vI ((i : Nat) : Int)), (51, vI ((x.waits.n : Nat) : Int)), (50, .v (.slice x.waits.A x.waits.n x.waits.c)), (1, .p 0 0)], [⟨24, [vI x.id, vI x.session, vI x.next, .v (.slice x.waits.A x.waits.n x.waits.c)]⟩]⟩ [] [] (by kernel_rfl) on wn ?_
                    refine l_nil (q_then_normal ?_)
                    refine c_seq ?_
                    cases h10 : decide (((i : Nat) : Int) < ((x.waits.n : Nat) : Int)) with
                    | true =>
                      have h10 := of_decide_eq_true h10
                      refine c_if true rfl ?_
                      refine c_skip ?_
                      refine q_then_normal ?_
                      refine c_seq ?_
                      refine c_block ?_
                      refine c_seq ?_
                      refine c_region ?_
                      refine JL_run 6 [(1, .idx x.waits.ad i), (2, .ext [.int .i64 (x.waits.at i).seq, .int .i64 (x.waits.at i).op.kind, .string (x.waits.at i).op.a, .string (x.waits.at i).op.b, .int .i64 (x.waits.at i).op.n])] [3, 4, 52, 51, 50, 1] 2 ⟨[(3, vI ((i : Nat) : Int)), (4, .p 1 0), (52, vI ((i : Nat) : Int)), (51, vI ((x.waits.n : Nat) : Int)), (50, .v (.slice x.waits.A x.waits.n x.waits.c)), (1, .p 0 0)], [⟨24, [vI x.id, vI x.session, vI x.next, .v (.slice x.waits.A x.waits.n x.waits.c)]⟩, ⟨83, [vI (x.waits.at i).seq, vI (x.waits.at i).op.kind, vS (x.waits.at i).op.a, vS (x.waits.at i).op.b, vI (x.waits.at i).op.n]⟩]⟩ [x.waits.A = some x.waits.ad, ((i : Nat) : Int) = ((i : Nat) : Int), i < x.waits.n] [(x.waits.ad.add (i * 5), [.int .i64 (x.waits.at i).seq, .int .i64 (x.waits.at i).op.kind, .string (x.waits.at i).op.a, .string (x.waits.at i).op.b, .int .i64 (x.waits.at i).op.n])] (by kernel_rfl) (oc (Sl.ok.own (s := x.waits) (i := i) okx (by omega)) (oc rfl (oc (by omega) on))) (fun w hk hr => ⟨(Sl.rd.all (s := x.waits) (i := i) (Rds.kp hx hk) (by omega) rfl), trivial⟩) ?_
                      refine l_nil (q_then_normal ?_)
                      refine c_seq ?_
                      refine c_seq ?_
                      refine c_draw 38 [(0, false), (1, false), (2, false), (3, false), (4, false), (5, false), (6, false), (7, false), (8, false), (9, false), (10, false), (11, false), (12, false), (13, false), (14, false), (15, false), (16, false), (17, false), (18, false), (19, false), (20, false), (21, false), (22, false), (23, false), (24, false), (25, false), (26, false), (27, false), (28, false), (29, false), (30, false), (31, false), (32, false), (33, false), (34, false), (35, false), (36, false), (37, false)] [] [] Try_mixed (by kernel_rfl) (pq_then (pq_then (pq_block (pq_then (pq_then (pq_block (pq_then pq_body))))))) (List.Sublist.refl _) ?_
                      refine h_quiet [] 4 [(60, vB (decide ((x.waits.at i).seq < 1))), (59, vB (decide ((x.waits.at i).seq < 1))), (58, vI (x.waits.at i).seq), (57, .p 1 0), (3, vI ((i : Nat) : Int)), (4, .p 1 0), (52, vI ((i : Nat) : Int)), (51, vI ((x.waits.n : Nat) : Int)), (50, .v (.slice x.waits.A x.waits.n x.waits.c)), (1, .p 0 0)] [] [] rfl rfl (by kernel_rfl) on wn ?_
                      cases h11 : decide ((x.waits.at i).seq < 1) with
                      | true =>
                        have h11 := of_decide_eq_true h11
                        refine h_quiet [] 34 [(94, vB true), (93, .v (undef)), (92, .v (undef)), (91, .v (undef)), (90, .v (undef)), (89, .v (undef)), (88, .v (undef)), (87, .v (undef)), (86, .v (undef)), (85, .v (undef)), (84, .v (undef)), (83, vB true), (82, vB true), (81, .v (undef)), (80, .v (undef)), (79, .v (undef)), (78, .v (undef)), (77, .v (undef)), (76, .v (undef)), (75, .v (undef)), (74, .v (undef)), (73, .v (undef)), (72, .v (undef)), (71, .v (undef)), (70, .v (undef)), (69, .v (undef)), (68, .v (undef)), (67, vB true), (66, vB true), (65, .v (undef)), (64, .v (undef)), (63, .v (undef)), (62, .v (undef)), (61, .v (undef)), (60, vB true), (59, vB true), (58, vI (x.waits.at i).seq), (57, .p 1 0), (3, vI ((i : Nat) : Int)), (4, .p 1 0), (52, vI ((i : Nat) : Int)), (51, vI ((x.waits.n : Nat) : Int)), (50, .v (.slice x.waits.A x.waits.n x.waits.c)), (1, .p 0 0)] [] [] rfl rfl (by kernel_rfl) on wn ?_
                        refine h_nil ?_
                        refine l_nil (q_then_normal ?_)
                        refine c_if true rfl ?_
                        refine c_seq ?_
                        refine c_region ?_
                        refine JL_run 1 [] [2] 0 ⟨[(2, vI 9)], []⟩ [] [] (by kernel_rfl) on wn ?_
                        refine l_nil (q_then_normal ?_)
                        refine c_ret ?_
                        refine q_then_ret (q_block_ret (q_then_ret (q_then_ret (q_block_ret (q_then_ret (q_ret (.inl rfl) [vI 9] rfl (fun bs w hS => ?_)))))))
                        refine ⟨?_, hS.kp⟩
                        simp only [retOf, den, List.map_cons, List.map_nil]
                        have hf : custF x.abs i = 9 := by
                          unfold custF
                          simp only [hat, ha1, ha2, ha3, ha4]
                          first | (rw [if_pos (by omega)] <;> first | rfl | (exfalso; omega)) | (rw [if_neg (by omega)] <;> first | rfl | assumption | (exfalso; omega))
                        rw [hI, firstF_here (by omega) hf (by first | assumption | omega)]
                      | false =>
                        have h11 := of_decide_eq_false h11
                        refine h_quiet [] 7 [(67, vB (decide (x.next ≤ (x.waits.at i).seq))), (66, vB (decide (x.next ≤ (x.waits.at i).seq))), (65, vB (decide (x.next ≤ (x.waits.at i).seq))), (64, vI x.next), (63, .p 0 2), (62, vI (x.waits.at i).seq), (61, .p 1 0), (60, vB false), (59, vB false), (58, vI (x.waits.at i).seq), (57, .p 1 0), (3, vI ((i : Nat) : Int)), (4, .p 1 0), (52, vI ((i : Nat) : Int)), (51, vI ((x.waits.n : Nat) : Int)), (50, .v (.slice x.waits.A x.waits.n x.waits.c)), (1, .p 0 0)] [] [] rfl rfl (by kernel_rfl) on wn ?_
                        cases h12 : decide (x.next ≤ (x.waits.at i).seq) with
                        | true =>
                          have h12 := of_decide_eq_true h12
                          refine h_quiet [] 27 [(94, vB true), (93, .v (undef)), (92, .v (undef)), (91, .v (undef)), (90, .v (undef)), (89, .v (undef)), (88, .v (undef)), (87, .v (undef)), (86, .v (undef)), (85, .v (undef)), (84, .v (undef)), (83, vB true), (82, vB true), (81, .v (undef)), (80, .v (undef)), (79, .v (undef)), (78, .v (undef)), (77, .v (undef)), (76, .v (undef)), (75, .v (undef)), (74, .v (undef)), (73, .v (undef)), (72, .v (undef)), (71, .v (undef)), (70, .v (undef)), (69, .v (undef)), (68, .v (undef)), (67, vB true), (66, vB true), (65, vB true), (64, vI x.next), (63, .p 0 2), (62, vI (x.waits.at i).seq), (61, .p 1 0), (60, vB false), (59, vB false), (58, vI (x.waits.at i).seq), (57, .p 1 0), (3, vI ((i : Nat) : Int)), (4, .p 1 0), (52, vI ((i : Nat) : Int)), (51, vI ((x.waits.n : Nat) : Int)), (50, .v (.slice x.waits.A x.waits.n x.waits.c)), (1, .p 0 0)] [] [] rfl rfl (by kernel_rfl) on wn ?_
                          refine h_nil ?_
                          refine l_nil (q_then_normal ?_)
                          refine c_if true rfl ?_
                          refine c_seq ?_
                          refine c_region ?_
                          refine JL_run 1 [] [2] 0 ⟨[(2, vI 9)], []⟩ [] [] (by kernel_rfl) on wn ?_
                          refine l_nil (q_then_normal ?_)
                          refine c_ret ?_
                          refine q_then_ret (q_block_ret (q_then_ret (q_then_ret (q_block_ret (q_then_ret (q_ret (.inl rfl) [vI 9] rfl (fun bs w hS => ?_)))))))
                          refine ⟨?_, hS.kp⟩
                          simp only [retOf, den, List.map_cons, List.map_nil]
                          have hf : custF x.abs i = 9 := by
                            unfold custF
                            simp only [hat, ha1, ha2, ha3, ha4]
                            first | (rw [if_pos (by omega)] <;> first | rfl | (exfalso; omega)) | (rw [if_neg (by omega)] <;> first | rfl | assumption | (exfalso; omega))
                          rw [hI, firstF_here (by omega) hf (by first | assumption | omega)]
                        | false =>
                          have h12 := of_decide_eq_false h12
                          refine h_quiet [] 3 [(70, vB (decide ((0 : Int) < ((i : Nat) : Int)))), (69, vB (decide ((0 : Int) < ((i : Nat) : Int)))), (68, vI ((i : Nat) : Int)), (67, vB false), (66, vB false), (65, vB false), (64, vI x.next), (63, .p 0 2), (62, vI (x.waits.at i).seq), (61, .p 1 0), (60, vB false), (59, vB false), (58, vI (x.waits.at i).seq), (57, .p 1 0), (3, vI ((i : Nat) : Int)), (4, .p 1 0), (52, vI ((i : Nat) : Int)), (51, vI ((x.waits.n : Nat) : Int)), (50, .v (.slice x.waits.A x.waits.n x.waits.c)), (1, .p 0 0)] [] [] rfl rfl (by kernel_rfl) on wn ?_
                          cases h13 : decide ((0 : Int) < ((i : Nat) : Int)) with
                          | true =>
                            have h13 := of_decide_eq_true h13
                            refine h_quiet [(18, .idx x.waits.ad (i - 1)), (20, .ext [.int .i64 (x.waits.at (i - 1)).seq])] 13 [(83, vB (decide ((x.waits.at i).seq ≤ (x.waits.at (i - 1)).seq))), (82, vB (decide ((x.waits.at i).seq ≤ (x.waits.at (i - 1)).seq))), (81, vB (decide ((x.waits.at i).seq ≤ (x.waits.at (i - 1)).seq))), (80, vB (decide ((x.waits.at i).seq ≤ (x.waits.at (i - 1)).seq))), (79, vI (x.waits.at i).seq), (78, .p 1 0), (77, vI (x.waits.at (i - 1)).seq), (76, .v (.pointer (some ((x.waits.ad.add ((i - 1) * 5)).add 0)))), (75, .v (.pointer (some (x.waits.ad.add ((i - 1) * 5))))), (74, vI (((i : Nat) : Int) - 1)), (73, vI ((i : Nat) : Int)), (72, .v (.slice x.waits.A x.waits.n x.waits.c)), (71, .p 0 3), (70, vB true), (69, vB true), (68, vI ((i : Nat) : Int)), (67, vB false), (66, vB false), (65, vB false), (64, vI x.next), (63, .p 0 2), (62, vI (x.waits.at i).seq), (61, .p 1 0), (60, vB false), (59, vB false), (58, vI (x.waits.at i).seq), (57, .p 1 0), (3, vI ((i : Nat) : Int)), (4, .p 1 0), (52, vI ((i : Nat) : Int)), (51, vI ((x.waits.n : Nat) : Int)), (50, .v (.slice x.waits.A x.waits.n x.waits.c)), (1, .p 0 0)] [inR (((i : Nat) : Int) - 1), x.waits.A = some x.waits.ad, ((i : Nat) : Int) - 1 = (((i - 1) : Nat) : Int), (i - 1) < x.waits.n] [((x.waits.ad.add ((i - 1) * 5)).add 0, [.int .i64 (x.waits.at (i - 1)).seq])] rfl rfl (by kernel_rfl) (oc (by unfold inR; omega) (oc (Sl.ok.own (s := x.waits) (i := (i - 1)) okx (by omega)) (oc (by omega) (oc (by omega) on)))) (fun w hk hr => ⟨(Sl.rd.fld (s := x.waits) (i := (i - 1)) (Rds.kp hx hk) (by omega) 0 1 rfl), trivial⟩) ?_
                            cases h14 : decide ((x.waits.at i).seq ≤ (x.waits.at (i - 1)).seq) with
                            | true =>
                              have h14 := of_decide_eq_true h14
                              refine h_quiet [] 11 [(94, vB true), (93, .v (undef)), (92, .v (undef)), (91, .v (undef)), (90, .v (undef)), (89, .v (undef)), (88, .v (undef)), (87, .v (undef)), (86, .v (undef)), (85, .v (undef)), (84, .v (undef)), (83, vB true), (82, vB true), (81, vB true), (80, vB true), (79, vI (x.waits.at i).seq), (78, .p 1 0), (77, vI (x.waits.at (i - 1)).seq), (76, .v (.pointer (some ((x.waits.ad.add ((i - 1) * 5)).add 0)))), (75, .v (.pointer (some (x.waits.ad.add ((i - 1) * 5))))), (74, vI (((i : Nat) : Int) - 1)), (73, vI ((i : Nat) : Int)), (72, .v (.slice x.waits.A x.waits.n x.waits.c)), (71, .p 0 3), (70, vB true), (69, vB true), (68, vI ((i : Nat) : Int)), (67, vB false), (66, vB false), (65, vB false), (64, vI x.next), (63, .p 0 2), (62, vI (x.waits.at i).seq), (61, .p 1 0), (60, vB false), (59, vB false), (58, vI (x.waits.at i).seq), (57, .p 1 0), (3, vI ((i : Nat) : Int)), (4, .p 1 0), (52, vI ((i : Nat) : Int)), (51, vI ((x.waits.n : Nat) : Int)), (50, .v (.slice x.waits.A x.waits.n x.waits.c)), (1, .p 0 0)] [] [] rfl rfl (by kernel_rfl) on wn ?_
                              refine h_nil ?_
                              refine l_nil (q_then_normal ?_)
                              refine c_if true rfl ?_
                              refine c_seq ?_
                              refine c_region ?_
                              refine JL_run 1 [] [2] 0 ⟨[(2, vI 9)], []⟩ [] [] (by kernel_rfl) on wn ?_
                              refine l_nil (q_then_normal ?_)
                              refine c_ret ?_
                              refine q_then_ret (q_block_ret (q_then_ret (q_then_ret (q_block_ret (q_then_ret (q_ret (.inl rfl) [vI 9] rfl (fun bs w hS => ?_)))))))
                              refine ⟨?_, hS.kp⟩
                              simp only [retOf, den, List.map_cons, List.map_nil]
                              have hf : custF x.abs i = 9 := by
                                unfold custF
                                simp only [hat, ha1, ha2, ha3, ha4]
                                first | (rw [if_pos (by omega)] <;> first | rfl | (exfalso; omega)) | (rw [if_neg (by omega)] <;> first | rfl | assumption | (exfalso; omega))
                              rw [hI, firstF_here (by omega) hf (by first | assumption | omega)]
                            | false =>
                              have h14 := of_decide_eq_false h14
                              refine h_quiet [(31, .idx x.waits.ad 0), (33, .ext [.int .i64 (x.waits.at 0).seq])] 11 [(94, vB (decide (((x.waits.at 0).seq + 4) - 1 < (x.waits.at i).seq))), (93, vB (decide (((x.waits.at 0).seq + 4) - 1 < (x.waits.at i).seq))), (92, vI (((x.waits.at 0).seq + 4) - 1)), (91, vI ((x.waits.at 0).seq + 4)), (90, vI (x.waits.at 0).seq), (89, .v (.pointer (some ((x.waits.ad.add (0 * 5)).add 0)))), (88, .v (.pointer (some (x.waits.ad.add (0 * 5))))), (87, .v (.slice x.waits.A x.waits.n x.waits.c)), (86, .p 0 3), (85, vI (x.waits.at i).seq), (84, .p 1 0), (83, vB false), (82, vB false), (81, vB false), (80, vB false), (79, vI (x.waits.at i).seq), (78, .p 1 0), (77, vI (x.waits.at (i - 1)).seq), (76, .v (.pointer (some ((x.waits.ad.add ((i - 1) * 5)).add 0)))), (75, .v (.pointer (some (x.waits.ad.add ((i - 1) * 5))))), (74, vI (((i : Nat) : Int) - 1)), (73, vI ((i : Nat) : Int)), (72, .v (.slice x.waits.A x.waits.n x.waits.c)), (71, .p 0 3), (70, vB true), (69, vB true), (68, vI ((i : Nat) : Int)), (67, vB false), (66, vB false), (65, vB false), (64, vI x.next), (63, .p 0 2), (62, vI (x.waits.at i).seq), (61, .p 1 0), (60, vB false), (59, vB false), (58, vI (x.waits.at i).seq), (57, .p 1 0), (3, vI ((i : Nat) : Int)), (4, .p 1 0), (52, vI ((i : Nat) : Int)), (51, vI ((x.waits.n : Nat) : Int)), (50, .v (.slice x.waits.A x.waits.n x.waits.c)), (1, .p 0 0)] [x.waits.A = some x.waits.ad, (0 : Int) = ((0 : Nat) : Int), 0 < x.waits.n, inR ((x.waits.at 0).seq + 4), inR (((x.waits.at 0).seq + 4) - 1)] [((x.waits.ad.add (0 * 5)).add 0, [.int .i64 (x.waits.at 0).seq])] rfl rfl (by kernel_rfl) (oc (Sl.ok.own (s := x.waits) (i := 0) okx (by omega)) (oc rfl (oc (by omega) (oc (by unfold inR; omega) (oc (by unfold inR; omega) on))))) (fun w hk hr => ⟨(Sl.rd.fld (s := x.waits) (i := 0) (Rds.kp hx hk) (by omega) 0 1 rfl), trivial⟩) ?_
                              refine h_nil ?_
                              refine l_nil (q_then_normal ?_)
                              cases h15 : decide (((x.waits.at 0).seq + 4) - 1 < (x.waits.at i).seq) with
                              | true =>
                                have h15 := of_decide_eq_true h15
                                refine c_if true rfl ?_
                                refine c_seq ?_
                                refine c_region ?_
                                refine JL_run 1 [] [2] 0 ⟨[(2, vI 9)], []⟩ [] [] (by kernel_rfl) on wn ?_
                                refine l_nil (q_then_normal ?_)
                                refine c_ret ?_
                                refine q_then_ret (q_block_ret (q_then_ret (q_then_ret (q_block_ret (q_then_ret (q_ret (.inl rfl) [vI 9] rfl (fun bs w hS => ?_)))))))
                                refine ⟨?_, hS.kp⟩
                                simp only [retOf, den, List.map_cons, List.map_nil]
                                have hf : custF x.abs i = 9 := by
                                  unfold custF
                                  simp only [hat, ha1, ha2, ha3, ha4]
                                  first | (rw [if_pos (by omega)] <;> first | rfl | (exfalso; omega)) | (rw [if_neg (by omega)] <;> first | rfl | assumption | (exfalso; omega))
                                rw [hI, firstF_here (by omega) hf (by first | assumption | omega)]
                              | false =>
                                have h15 := of_decide_eq_false h15
                                refine c_if false rfl ?_
                                refine c_skip ?_
                                refine q_then_normal ?_
                                refine c_seq ?_
                                refine c_region ?_
                                refine JL_run 2 [] [96, 52, 51, 50, 1] 1 ⟨[(96, .v (.agg #[.int .i64 (x.waits.at i).op.kind, .string (x.waits.at i).op.a, .string (x.waits.at i).op.b, .int .i64 (x.waits.at i).op.n])), (52, vI ((i : Nat) : Int)), (51, vI ((x.waits.n : Nat) : Int)), (50, .v (.slice x.waits.A x.waits.n x.waits.c)), (1, .p 0 0)], [⟨24, [vI x.id, vI x.session, vI x.next, .v (.slice x.waits.A x.waits.n x.waits.c)]⟩]⟩ [] [] (by kernel_rfl) on wn ?_
                                refine l_pure 46 [] [.v (.agg #[.int .i64 (x.waits.at i).op.kind, .string (x.waits.at i).op.a, .string (x.waits.at i).op.b, .int .i64 (x.waits.at i).op.n])] (.int .i64 (mOp (x.waits.at i).op)) Try.call46 rfl rfl rfl rfl (fun bs w hS => command_CheckOp (B := anyB) (x.waits.at i).op w ⟨(And.left (Sl.ok.at (s := x.waits) (i := i) okx (by omega))), (And.right (Sl.ok.at (s := x.waits) (i := i) okx (by omega)))⟩) ?_
                                refine JL_run 1 [] [5, 52, 51, 50, 1] 1 ⟨[(5, vI (mOp (x.waits.at i).op)), (52, vI ((i : Nat) : Int)), (51, vI ((x.waits.n : Nat) : Int)), (50, .v (.slice x.waits.A x.waits.n x.waits.c)), (1, .p 0 0)], [⟨24, [vI x.id, vI x.session, vI x.next, .v (.slice x.waits.A x.waits.n x.waits.c)]⟩]⟩ [] [] (by kernel_rfl) on wn ?_
                                refine l_nil (q_then_normal ?_)
                                refine c_seq ?_
                                refine c_region ?_
                                refine JL_run 2 [] [99, 5, 52, 51, 50, 1] 1 ⟨[(99, vB (!(decide (mOp (x.waits.at i).op = 0)))), (5, vI (mOp (x.waits.at i).op)), (52, vI ((i : Nat) : Int)), (51, vI ((x.waits.n : Nat) : Int)), (50, .v (.slice x.waits.A x.waits.n x.waits.c)), (1, .p 0 0)], [⟨24, [vI x.id, vI x.session, vI x.next, .v (.slice x.waits.A x.waits.n x.waits.c)]⟩]⟩ [] [] (by kernel_rfl) on wn ?_
                                refine l_nil (q_then_normal ?_)
                                cases h16 : decide (mOp (x.waits.at i).op = 0) with
                                | true =>
                                  have h16 := of_decide_eq_true h16
                                  refine c_if false rfl ?_
                                  refine c_skip ?_
                                  refine q_block_normal (q_then_normal ?_)
                                  refine c_region ?_
                                  refine JL_run 2 [] [52, 51, 50, 1] 1 ⟨[(52, vI (((i : Nat) : Int) + 1)), (51, vI ((x.waits.n : Nat) : Int)), (50, .v (.slice x.waits.A x.waits.n x.waits.c)), (1, .p 0 0)], [⟨24, [vI x.id, vI x.session, vI x.next, .v (.slice x.waits.A x.waits.n x.waits.c)]⟩]⟩ [inR (((i : Nat) : Int) + 1)] [] (by kernel_rfl) (oc (by unfold inR; omega) on) wn ?_
                                  have hf0 : custF x.abs i = 0 := by
                                    unfold custF
                                    simp only [hat, ha1, ha2, ha3, ha4]
                                    first | (rw [if_pos (by omega)] <;> first | rfl | (exfalso; omega)) | (rw [if_neg (by omega)] <;> first | rfl | assumption | (exfalso; omega))
                                  refine l_nil (q_loop (x := (i : Nat)) ((i + 1) : Nat) ⟨by omega, by rw [hI]; exact firstF_step (by omega) hf0, fun _ => by omega⟩ (by omega) (s_start [52, 51, 50, 1] 1 (by kernel_rfl) rfl))
                                | false =>
                                  have h16 := of_decide_eq_false h16
                                  refine c_if true rfl ?_
                                  refine c_seq ?_
                                  refine c_region ?_
                                  refine JL_run 2 [] [2] 0 ⟨[(2, vI (mOp (x.waits.at i).op))], []⟩ [] [] (by kernel_rfl) on wn ?_
                                  refine l_nil (q_then_normal ?_)
                                  refine c_ret ?_
                                  refine q_block_ret (q_then_ret (q_then_ret (q_block_ret (q_then_ret (q_ret (.inl rfl) [vI (mOp (x.waits.at i).op)] rfl (fun bs w hS => ?_))))))
                                  refine ⟨?_, hS.kp⟩
                                  simp only [retOf, den, List.map_cons, List.map_nil]
                                  have hf : custF x.abs i = mOp (x.waits.at i).op := by
                                    unfold custF
                                    simp only [hat, ha1, ha2, ha3, ha4]
                                    first | (rw [if_pos (by omega)] <;> first | rfl | (exfalso; omega)) | (rw [if_neg (by omega)] <;> first | rfl | assumption | (exfalso; omega))
                                  rw [hI, firstF_here (by omega) hf (by first | assumption | omega)]
                          | false =>
                            have h13 := of_decide_eq_false h13
                            refine h_quiet [(31, .idx x.waits.ad 0), (33, .ext [.int .i64 (x.waits.at 0).seq])] 24 [(94, vB (decide (((x.waits.at 0).seq + 4) - 1 < (x.waits.at i).seq))), (93, vB (decide (((x.waits.at 0).seq + 4) - 1 < (x.waits.at i).seq))), (92, vI (((x.waits.at 0).seq + 4) - 1)), (91, vI ((x.waits.at 0).seq + 4)), (90, vI (x.waits.at 0).seq), (89, .v (.pointer (some ((x.waits.ad.add (0 * 5)).add 0)))), (88, .v (.pointer (some (x.waits.ad.add (0 * 5))))), (87, .v (.slice x.waits.A x.waits.n x.waits.c)), (86, .p 0 3), (85, vI (x.waits.at i).seq), (84, .p 1 0), (83, vB false), (82, vB false), (81, vB false), (80, .v (undef)), (79, .v (undef)), (78, .v (undef)), (77, .v (undef)), (76, .v (undef)), (75, .v (undef)), (74, .v (undef)), (73, .v (undef)), (72, .v (undef)), (71, .v (undef)), (70, vB false), (69, vB false), (68, vI ((i : Nat) : Int)), (67, vB false), (66, vB false), (65, vB false), (64, vI x.next), (63, .p 0 2), (62, vI (x.waits.at i).seq), (61, .p 1 0), (60, vB false), (59, vB false), (58, vI (x.waits.at i).seq), (57, .p 1 0), (3, vI ((i : Nat) : Int)), (4, .p 1 0), (52, vI ((i : Nat) : Int)), (51, vI ((x.waits.n : Nat) : Int)), (50, .v (.slice x.waits.A x.waits.n x.waits.c)), (1, .p 0 0)] [x.waits.A = some x.waits.ad, (0 : Int) = ((0 : Nat) : Int), 0 < x.waits.n, inR ((x.waits.at 0).seq + 4), inR (((x.waits.at 0).seq + 4) - 1)] [((x.waits.ad.add (0 * 5)).add 0, [.int .i64 (x.waits.at 0).seq])] rfl rfl (by kernel_rfl) (oc (Sl.ok.own (s := x.waits) (i := 0) okx (by omega)) (oc rfl (oc (by omega) (oc (by unfold inR; omega) (oc (by unfold inR; omega) on))))) (fun w hk hr => ⟨(Sl.rd.fld (s := x.waits) (i := 0) (Rds.kp hx hk) (by omega) 0 1 rfl), trivial⟩) ?_
                            refine h_nil ?_
                            refine l_nil (q_then_normal ?_)
                            cases h17 : decide (((x.waits.at 0).seq + 4) - 1 < (x.waits.at i).seq) with
                            | true =>
                              have h17 := of_decide_eq_true h17
                              refine c_if true rfl ?_
                              refine c_seq ?_
                              refine c_region ?_
                              refine JL_run 1 [] [2] 0 ⟨[(2, vI 9)], []⟩ [] [] (by kernel_rfl) on wn ?_
                              refine l_nil (q_then_normal ?_)
                              refine c_ret ?_
                              refine q_then_ret (q_block_ret (q_then_ret (q_then_ret (q_block_ret (q_then_ret (q_ret (.inl rfl) [vI 9] rfl (fun bs w hS => ?_)))))))
                              refine ⟨?_, hS.kp⟩
                              simp only [retOf, den, List.map_cons, List.map_nil]
                              have hf : custF x.abs i = 9 := by
                                unfold custF
                                simp only [hat, ha1, ha2, ha3, ha4]
                                first | (rw [if_pos (by omega)] <;> first | rfl | (exfalso; omega)) | (rw [if_neg (by omega)] <;> first | rfl | assumption | (exfalso; omega))
                              rw [hI, firstF_here (by omega) hf (by first | assumption | omega)]
                            | false =>
                              have h17 := of_decide_eq_false h17
                              refine c_if false rfl ?_
                              refine c_skip ?_
                              refine q_then_normal ?_
                              refine c_seq ?_
                              refine c_region ?_
                              refine JL_run 2 [] [96, 52, 51, 50, 1] 1 ⟨[(96, .v (.agg #[.int .i64 (x.waits.at i).op.kind, .string (x.waits.at i).op.a, .string (x.waits.at i).op.b, .int .i64 (x.waits.at i).op.n])), (52, vI ((i : Nat) : Int)), (51, vI ((x.waits.n : Nat) : Int)), (50, .v (.slice x.waits.A x.waits.n x.waits.c)), (1, .p 0 0)], [⟨24, [vI x.id, vI x.session, vI x.next, .v (.slice x.waits.A x.waits.n x.waits.c)]⟩]⟩ [] [] (by kernel_rfl) on wn ?_
                              refine l_pure 46 [] [.v (.agg #[.int .i64 (x.waits.at i).op.kind, .string (x.waits.at i).op.a, .string (x.waits.at i).op.b, .int .i64 (x.waits.at i).op.n])] (.int .i64 (mOp (x.waits.at i).op)) Try.call46 rfl rfl rfl rfl (fun bs w hS => command_CheckOp (B := anyB) (x.waits.at i).op w ⟨(And.left (Sl.ok.at (s := x.waits) (i := i) okx (by omega))), (And.right (Sl.ok.at (s := x.waits) (i := i) okx (by omega)))⟩) ?_
                              refine JL_run 1 [] [5, 52, 51, 50, 1] 1 ⟨[(5, vI (mOp (x.waits.at i).op)), (52, vI ((i : Nat) : Int)), (51, vI ((x.waits.n : Nat) : Int)), (50, .v (.slice x.waits.A x.waits.n x.waits.c)), (1, .p 0 0)], [⟨24, [vI x.id, vI x.session, vI x.next, .v (.slice x.waits.A x.waits.n x.waits.c)]⟩]⟩ [] [] (by kernel_rfl) on wn ?_
                              refine l_nil (q_then_normal ?_)
                              refine c_seq ?_
                              refine c_region ?_
                              refine JL_run 2 [] [99, 5, 52, 51, 50, 1] 1 ⟨[(99, vB (!(decide (mOp (x.waits.at i).op = 0)))), (5, vI (mOp (x.waits.at i).op)), (52, vI ((i : Nat) : Int)), (51, vI ((x.waits.n : Nat) : Int)), (50, .v (.slice x.waits.A x.waits.n x.waits.c)), (1, .p 0 0)], [⟨24, [vI x.id, vI x.session, vI x.next, .v (.slice x.waits.A x.waits.n x.waits.c)]⟩]⟩ [] [] (by kernel_rfl) on wn ?_
                              refine l_nil (q_then_normal ?_)
                              cases h18 : decide (mOp (x.waits.at i).op = 0) with
                              | true =>
                                have h18 := of_decide_eq_true h18
                                refine c_if false rfl ?_
                                refine c_skip ?_
                                refine q_block_normal (q_then_normal ?_)
                                refine c_region ?_
                                refine JL_run 2 [] [52, 51, 50, 1] 1 ⟨[(52, vI (((i : Nat) : Int) + 1)), (51, vI ((x.waits.n : Nat) : Int)), (50, .v (.slice x.waits.A x.waits.n x.waits.c)), (1, .p 0 0)], [⟨24, [vI x.id, vI x.session, vI x.next, .v (.slice x.waits.A x.waits.n x.waits.c)]⟩]⟩ [inR (((i : Nat) : Int) + 1)] [] (by kernel_rfl) (oc (by unfold inR; omega) on) wn ?_
                                have hf0 : custF x.abs i = 0 := by
                                  unfold custF
                                  simp only [hat, ha1, ha2, ha3, ha4]
                                  first | (rw [if_pos (by omega)] <;> first | rfl | (exfalso; omega)) | (rw [if_neg (by omega)] <;> first | rfl | assumption | (exfalso; omega))
                                refine l_nil (q_loop (x := (i : Nat)) ((i + 1) : Nat) ⟨by omega, by rw [hI]; exact firstF_step (by omega) hf0, fun _ => by omega⟩ (by omega) (s_start [52, 51, 50, 1] 1 (by kernel_rfl) rfl))
                              | false =>
                                have h18 := of_decide_eq_false h18
                                refine c_if true rfl ?_
                                refine c_seq ?_
                                refine c_region ?_
                                refine JL_run 2 [] [2] 0 ⟨[(2, vI (mOp (x.waits.at i).op))], []⟩ [] [] (by kernel_rfl) on wn ?_
                                refine l_nil (q_then_normal ?_)
                                refine c_ret ?_
                                refine q_block_ret (q_then_ret (q_then_ret (q_block_ret (q_then_ret (q_ret (.inl rfl) [vI (mOp (x.waits.at i).op)] rfl (fun bs w hS => ?_))))))
                                refine ⟨?_, hS.kp⟩
                                simp only [retOf, den, List.map_cons, List.map_nil]
                                have hf : custF x.abs i = mOp (x.waits.at i).op := by
                                  unfold custF
                                  simp only [hat, ha1, ha2, ha3, ha4]
                                  first | (rw [if_pos (by omega)] <;> first | rfl | (exfalso; omega)) | (rw [if_neg (by omega)] <;> first | rfl | assumption | (exfalso; omega))
                                rw [hI, firstF_here (by omega) hf (by first | assumption | omega)]
                    | false =>
                      have h10 := of_decide_eq_false h10
                      refine c_if false rfl ?_
                      refine c_exit ?_
                      refine q_then_exit (q_then_exit (q_block_hit (q_then_normal ?_)))
                      refine c_seq ?_
                      refine c_region ?_
                      refine JL_run 1 [] [2] 0 ⟨[(2, vI 0)], []⟩ [] [] (by kernel_rfl) on wn ?_
                      refine l_nil (q_then_normal ?_)
                      refine c_ret ?_
                      refine q_ret (.inl rfl) [vI 0] rfl (fun bs w hS => ?_)
                      refine ⟨?_, hS.kp⟩
                      simp only [retOf, den, List.map_cons, List.map_nil]
                      rw [hI, firstF_end (by omega)]
                | false =>
                  have h8 := of_decide_eq_false h8
                  refine JL_run 6 [] [48, 1] 1 ⟨[(48, vB false), (1, .p 0 0)], [⟨24, [vI x.id, vI x.session, vI x.next, .v (.slice x.waits.A x.waits.n x.waits.c)]⟩]⟩ [] [] (by kernel_rfl) on wn ?_
                  refine l_nil (q_then_normal ?_)
                  refine c_if false rfl ?_
                  refine c_skip ?_
                  refine q_then_normal ?_
                  refine c_seq ?_
                  refine c_seq ?_
                  refine c_region ?_
                  refine JL_run 4 [] [52, 51, 50, 1] 1 ⟨[(52, vI 0), (51, vI ((x.waits.n : Nat) : Int)), (50, .v (.slice x.waits.A x.waits.n x.waits.c)), (1, .p 0 0)], [⟨24, [vI x.id, vI x.session, vI x.next, .v (.slice x.waits.A x.waits.n x.waits.c)]⟩]⟩ [] [] (by kernel_rfl) on wn ?_
                  refine l_nil (q_then_normal ?_)
                  refine c_block ?_
                  refine c_loop (σ := Nat) (fun i => i ≤ x.waits.n ∧ mCust x.abs = firstF (custF x.abs) (x.waits.n - i) i ∧ (0 < i → 1 ≤ (x.waits.at 0).seq ∧ (x.waits.at 0).seq < x.next)) (fun i => x.waits.n - i) (fun i => []) (fun i => ⟨[(52, vI ((i : Nat) : Int)), (51, vI ((x.waits.n : Nat) : Int)), (50, .v (.slice x.waits.A x.waits.n x.waits.c)), (1, .p 0 0)], [⟨24, [vI x.id, vI x.session, vI x.next, .v (.slice x.waits.A x.waits.n x.waits.c)]⟩]⟩) 0 ⟨Nat.zero_le _, by unfold mCust; simp only [ha1, ha2, ha3, ha4]; rw [if_neg (by omega), if_neg (by omega)], fun h => absurd h (by omega)⟩ (s_start [52, 51, 50, 1] 1 (by kernel_rfl) rfl) ?_
                  rintro i ⟨hi, hI, h0⟩
                  have hz : i = 0 ∨ (0 < i ∧ 1 ≤ (x.waits.at 0).seq ∧ (x.waits.at 0).seq < x.next) := by rcases Nat.eq_zero_or_pos i with h | h; exact .inl h; exact .inr ⟨h, h0 h⟩
                  have hz2 : i = 0 → (x.waits.at i).seq = (x.waits.at 0).seq := fun h => by rw [h]
                  refine c_seq ?_
                  refine c_region ?_
                  refine JL_run 1 [] [53, 52, 51, 50, 1] 1 ⟨[(53, vB (decide (((i : Nat) : Int) < ((x.waits.n : Nat) : Int)))), (52, vI ((i : Nat) : Int)), (51, vI ((x.waits.n : Nat) : Int)), (50, .v (.slice x.waits.A x.waits.n x.waits.c)), (1, .p 0 0)], [⟨24, [vI x.id, vI x.session, vI x.next, .v (.slice x.waits.A x.waits.n x.waits.c)]⟩]⟩ [] [] (by kernel_rfl) on wn ?_
                  refine l_nil (q_then_normal ?_)
                  refine c_seq ?_
                  cases h19 : decide (((i : Nat) : Int) < ((x.waits.n : Nat) : Int)) with
                  | true =>
                    have h19 := of_decide_eq_true h19
                    refine c_if true rfl ?_
                    refine c_skip ?_
                    refine q_then_normal ?_
                    refine c_seq ?_
                    refine c_block ?_
                    refine c_seq ?_
                    refine c_region ?_
                    refine JL_run 6 [(1, .idx x.waits.ad i), (2, .ext [.int .i64 (x.waits.at i).seq, .int .i64 (x.waits.at i).op.kind, .string (x.waits.at i).op.a, .string (x.waits.at i).op.b, .int .i64 (x.waits.at i).op.n])] [3, 4, 52, 51, 50, 1] 2 ⟨[(3, vI ((i : Nat) : Int)), (4, .p 1 0), (52, vI ((i : Nat) : Int)), (51, vI ((x.waits.n : Nat) : Int)), (50, .v (.slice x.waits.A x.waits.n x.waits.c)), (1, .p 0 0)], [⟨24, [vI x.id, vI x.session, vI x.next, .v (.slice x.waits.A x.waits.n x.waits.c)]⟩, ⟨83, [vI (x.waits.at i).seq, vI (x.waits.at i).op.kind, vS (x.waits.at i).op.a, vS (x.waits.at i).op.b, vI (x.waits.at i).op.n]⟩]⟩ [x.waits.A = some x.waits.ad, ((i : Nat) : Int) = ((i : Nat) : Int), i < x.waits.n] [(x.waits.ad.add (i * 5), [.int .i64 (x.waits.at i).seq, .int .i64 (x.waits.at i).op.kind, .string (x.waits.at i).op.a, .string (x.waits.at i).op.b, .int .i64 (x.waits.at i).op.n])] (by kernel_rfl) (oc (Sl.ok.own (s := x.waits) (i := i) okx (by omega)) (oc rfl (oc (by omega) on))) (fun w hk hr => ⟨(Sl.rd.all (s := x.waits) (i := i) (Rds.kp hx hk) (by omega) rfl), trivial⟩) ?_
                    refine l_nil (q_then_normal ?_)
                    refine c_seq ?_
                    refine c_seq ?_
                    refine c_draw 38 [(0, false), (1, false), (2, false), (3, false), (4, false), (5, false), (6, false), (7, false), (8, false), (9, false), (10, false), (11, false), (12, false), (13, false), (14, false), (15, false), (16, false), (17, false), (18, false), (19, false), (20, false), (21, false), (22, false), (23, false), (24, false), (25, false), (26, false), (27, false), (28, false), (29, false), (30, false), (31, false), (32, false), (33, false), (34, false), (35, false), (36, false), (37, false)] [] [] Try_mixed (by kernel_rfl) (pq_then (pq_then (pq_block (pq_then (pq_then (pq_block (pq_then pq_body))))))) (List.Sublist.refl _) ?_
                    refine h_quiet [] 4 [(60, vB (decide ((x.waits.at i).seq < 1))), (59, vB (decide ((x.waits.at i).seq < 1))), (58, vI (x.waits.at i).seq), (57, .p 1 0), (3, vI ((i : Nat) : Int)), (4, .p 1 0), (52, vI ((i : Nat) : Int)), (51, vI ((x.waits.n : Nat) : Int)), (50, .v (.slice x.waits.A x.waits.n x.waits.c)), (1, .p 0 0)] [] [] rfl rfl (by kernel_rfl) on wn ?_
                    cases h20 : decide ((x.waits.at i).seq < 1) with
                    | true =>
                      have h20 := of_decide_eq_true h20
                      refine h_quiet [] 34 [(94, vB true), (93, .v (undef)), (92, .v (undef)), (91, .v (undef)), (90, .v (undef)), (89, .v (undef)), (88, .v (undef)), (87, .v (undef)), (86, .v (undef)), (85, .v (undef)), (84, .v (undef)), (83, vB true), (82, vB true), (81, .v (undef)), (80, .v (undef)), (79, .v (undef)), (78, .v (undef)), (77, .v (undef)), (76, .v (undef)), (75, .v (undef)), (74, .v (undef)), (73, .v (undef)), (72, .v (undef)), (71, .v (undef)), (70, .v (undef)), (69, .v (undef)), (68, .v (undef)), (67, vB true), (66, vB true), (65, .v (undef)), (64, .v (undef)), (63, .v (undef)), (62, .v (undef)), (61, .v (undef)), (60, vB true), (59, vB true), (58, vI (x.waits.at i).seq), (57, .p 1 0), (3, vI ((i : Nat) : Int)), (4, .p 1 0), (52, vI ((i : Nat) : Int)), (51, vI ((x.waits.n : Nat) : Int)), (50, .v (.slice x.waits.A x.waits.n x.waits.c)), (1, .p 0 0)] [] [] rfl rfl (by kernel_rfl) on wn ?_
                      refine h_nil ?_
                      refine l_nil (q_then_normal ?_)
                      refine c_if true rfl ?_
                      refine c_seq ?_
                      refine c_region ?_
                      refine JL_run 1 [] [2] 0 ⟨[(2, vI 9)], []⟩ [] [] (by kernel_rfl) on wn ?_
                      refine l_nil (q_then_normal ?_)
                      refine c_ret ?_
                      refine q_then_ret (q_block_ret (q_then_ret (q_then_ret (q_block_ret (q_then_ret (q_ret (.inl rfl) [vI 9] rfl (fun bs w hS => ?_)))))))
                      refine ⟨?_, hS.kp⟩
                      simp only [retOf, den, List.map_cons, List.map_nil]
                      have hf : custF x.abs i = 9 := by
                        unfold custF
                        simp only [hat, ha1, ha2, ha3, ha4]
                        first | (rw [if_pos (by omega)] <;> first | rfl | (exfalso; omega)) | (rw [if_neg (by omega)] <;> first | rfl | assumption | (exfalso; omega))
                      rw [hI, firstF_here (by omega) hf (by first | assumption | omega)]
                    | false =>
                      have h20 := of_decide_eq_false h20
                      refine h_quiet [] 7 [(67, vB (decide (x.next ≤ (x.waits.at i).seq))), (66, vB (decide (x.next ≤ (x.waits.at i).seq))), (65, vB (decide (x.next ≤ (x.waits.at i).seq))), (64, vI x.next), (63, .p 0 2), (62, vI (x.waits.at i).seq), (61, .p 1 0), (60, vB false), (59, vB false), (58, vI (x.waits.at i).seq), (57, .p 1 0), (3, vI ((i : Nat) : Int)), (4, .p 1 0), (52, vI ((i : Nat) : Int)), (51, vI ((x.waits.n : Nat) : Int)), (50, .v (.slice x.waits.A x.waits.n x.waits.c)), (1, .p 0 0)] [] [] rfl rfl (by kernel_rfl) on wn ?_
                      cases h21 : decide (x.next ≤ (x.waits.at i).seq) with
                      | true =>
                        have h21 := of_decide_eq_true h21
                        refine h_quiet [] 27 [(94, vB true), (93, .v (undef)), (92, .v (undef)), (91, .v (undef)), (90, .v (undef)), (89, .v (undef)), (88, .v (undef)), (87, .v (undef)), (86, .v (undef)), (85, .v (undef)), (84, .v (undef)), (83, vB true), (82, vB true), (81, .v (undef)), (80, .v (undef)), (79, .v (undef)), (78, .v (undef)), (77, .v (undef)), (76, .v (undef)), (75, .v (undef)), (74, .v (undef)), (73, .v (undef)), (72, .v (undef)), (71, .v (undef)), (70, .v (undef)), (69, .v (undef)), (68, .v (undef)), (67, vB true), (66, vB true), (65, vB true), (64, vI x.next), (63, .p 0 2), (62, vI (x.waits.at i).seq), (61, .p 1 0), (60, vB false), (59, vB false), (58, vI (x.waits.at i).seq), (57, .p 1 0), (3, vI ((i : Nat) : Int)), (4, .p 1 0), (52, vI ((i : Nat) : Int)), (51, vI ((x.waits.n : Nat) : Int)), (50, .v (.slice x.waits.A x.waits.n x.waits.c)), (1, .p 0 0)] [] [] rfl rfl (by kernel_rfl) on wn ?_
                        refine h_nil ?_
                        refine l_nil (q_then_normal ?_)
                        refine c_if true rfl ?_
                        refine c_seq ?_
                        refine c_region ?_
                        refine JL_run 1 [] [2] 0 ⟨[(2, vI 9)], []⟩ [] [] (by kernel_rfl) on wn ?_
                        refine l_nil (q_then_normal ?_)
                        refine c_ret ?_
                        refine q_then_ret (q_block_ret (q_then_ret (q_then_ret (q_block_ret (q_then_ret (q_ret (.inl rfl) [vI 9] rfl (fun bs w hS => ?_)))))))
                        refine ⟨?_, hS.kp⟩
                        simp only [retOf, den, List.map_cons, List.map_nil]
                        have hf : custF x.abs i = 9 := by
                          unfold custF
                          simp only [hat, ha1, ha2, ha3, ha4]
                          first | (rw [if_pos (by omega)] <;> first | rfl | (exfalso; omega)) | (rw [if_neg (by omega)] <;> first | rfl | assumption | (exfalso; omega))
                        rw [hI, firstF_here (by omega) hf (by first | assumption | omega)]
                      | false =>
                        have h21 := of_decide_eq_false h21
                        refine h_quiet [] 3 [(70, vB (decide ((0 : Int) < ((i : Nat) : Int)))), (69, vB (decide ((0 : Int) < ((i : Nat) : Int)))), (68, vI ((i : Nat) : Int)), (67, vB false), (66, vB false), (65, vB false), (64, vI x.next), (63, .p 0 2), (62, vI (x.waits.at i).seq), (61, .p 1 0), (60, vB false), (59, vB false), (58, vI (x.waits.at i).seq), (57, .p 1 0), (3, vI ((i : Nat) : Int)), (4, .p 1 0), (52, vI ((i : Nat) : Int)), (51, vI ((x.waits.n : Nat) : Int)), (50, .v (.slice x.waits.A x.waits.n x.waits.c)), (1, .p 0 0)] [] [] rfl rfl (by kernel_rfl) on wn ?_
                        cases h22 : decide ((0 : Int) < ((i : Nat) : Int)) with
                        | true =>
                          have h22 := of_decide_eq_true h22
                          refine h_quiet [(18, .idx x.waits.ad (i - 1)), (20, .ext [.int .i64 (x.waits.at (i - 1)).seq])] 13 [(83, vB (decide ((x.waits.at i).seq ≤ (x.waits.at (i - 1)).seq))), (82, vB (decide ((x.waits.at i).seq ≤ (x.waits.at (i - 1)).seq))), (81, vB (decide ((x.waits.at i).seq ≤ (x.waits.at (i - 1)).seq))), (80, vB (decide ((x.waits.at i).seq ≤ (x.waits.at (i - 1)).seq))), (79, vI (x.waits.at i).seq), (78, .p 1 0), (77, vI (x.waits.at (i - 1)).seq), (76, .v (.pointer (some ((x.waits.ad.add ((i - 1) * 5)).add 0)))), (75, .v (.pointer (some (x.waits.ad.add ((i - 1) * 5))))), (74, vI (((i : Nat) : Int) - 1)), (73, vI ((i : Nat) : Int)), (72, .v (.slice x.waits.A x.waits.n x.waits.c)), (71, .p 0 3), (70, vB true), (69, vB true), (68, vI ((i : Nat) : Int)), (67, vB false), (66, vB false), (65, vB false), (64, vI x.next), (63, .p 0 2), (62, vI (x.waits.at i).seq), (61, .p 1 0), (60, vB false), (59, vB false), (58, vI (x.waits.at i).seq), (57, .p 1 0), (3, vI ((i : Nat) : Int)), (4, .p 1 0), (52, vI ((i : Nat) : Int)), (51, vI ((x.waits.n : Nat) : Int)), (50, .v (.slice x.waits.A x.waits.n x.waits.c)), (1, .p 0 0)] [inR (((i : Nat) : Int) - 1), x.waits.A = some x.waits.ad, ((i : Nat) : Int) - 1 = (((i - 1) : Nat) : Int), (i - 1) < x.waits.n] [((x.waits.ad.add ((i - 1) * 5)).add 0, [.int .i64 (x.waits.at (i - 1)).seq])] rfl rfl (by kernel_rfl) (oc (by unfold inR; omega) (oc (Sl.ok.own (s := x.waits) (i := (i - 1)) okx (by omega)) (oc (by omega) (oc (by omega) on)))) (fun w hk hr => ⟨(Sl.rd.fld (s := x.waits) (i := (i - 1)) (Rds.kp hx hk) (by omega) 0 1 rfl), trivial⟩) ?_
                          cases h23 : decide ((x.waits.at i).seq ≤ (x.waits.at (i - 1)).seq) with
                          | true =>
                            have h23 := of_decide_eq_true h23
                            refine h_quiet [] 11 [(94, vB true), (93, .v (undef)), (92, .v (undef)), (91, .v (undef)), (90, .v (undef)), (89, .v (undef)), (88, .v (undef)), (87, .v (undef)), (86, .v (undef)), (85, .v (undef)), (84, .v (undef)), (83, vB true), (82, vB true), (81, vB true), (80, vB true), (79, vI (x.waits.at i).seq), (78, .p 1 0), (77, vI (x.waits.at (i - 1)).seq), (76, .v (.pointer (some ((x.waits.ad.add ((i - 1) * 5)).add 0)))), (75, .v (.pointer (some (x.waits.ad.add ((i - 1) * 5))))), (74, vI (((i : Nat) : Int) - 1)), (73, vI ((i : Nat) : Int)), (72, .v (.slice x.waits.A x.waits.n x.waits.c)), (71, .p 0 3), (70, vB true), (69, vB true), (68, vI ((i : Nat) : Int)), (67, vB false), (66, vB false), (65, vB false), (64, vI x.next), (63, .p 0 2), (62, vI (x.waits.at i).seq), (61, .p 1 0), (60, vB false), (59, vB false), (58, vI (x.waits.at i).seq), (57, .p 1 0), (3, vI ((i : Nat) : Int)), (4, .p 1 0), (52, vI ((i : Nat) : Int)), (51, vI ((x.waits.n : Nat) : Int)), (50, .v (.slice x.waits.A x.waits.n x.waits.c)), (1, .p 0 0)] [] [] rfl rfl (by kernel_rfl) on wn ?_
                            refine h_nil ?_
                            refine l_nil (q_then_normal ?_)
                            refine c_if true rfl ?_
                            refine c_seq ?_
                            refine c_region ?_
                            refine JL_run 1 [] [2] 0 ⟨[(2, vI 9)], []⟩ [] [] (by kernel_rfl) on wn ?_
                            refine l_nil (q_then_normal ?_)
                            refine c_ret ?_
                            refine q_then_ret (q_block_ret (q_then_ret (q_then_ret (q_block_ret (q_then_ret (q_ret (.inl rfl) [vI 9] rfl (fun bs w hS => ?_)))))))
                            refine ⟨?_, hS.kp⟩
                            simp only [retOf, den, List.map_cons, List.map_nil]
                            have hf : custF x.abs i = 9 := by
                              unfold custF
                              simp only [hat, ha1, ha2, ha3, ha4]
                              first | (rw [if_pos (by omega)] <;> first | rfl | (exfalso; omega)) | (rw [if_neg (by omega)] <;> first | rfl | assumption | (exfalso; omega))
                            rw [hI, firstF_here (by omega) hf (by first | assumption | omega)]
                          | false =>
                            have h23 := of_decide_eq_false h23
                            refine h_quiet [(31, .idx x.waits.ad 0), (33, .ext [.int .i64 (x.waits.at 0).seq])] 11 [(94, vB (decide (((x.waits.at 0).seq + 4) - 1 < (x.waits.at i).seq))), (93, vB (decide (((x.waits.at 0).seq + 4) - 1 < (x.waits.at i).seq))), (92, vI (((x.waits.at 0).seq + 4) - 1)), (91, vI ((x.waits.at 0).seq + 4)), (90, vI (x.waits.at 0).seq), (89, .v (.pointer (some ((x.waits.ad.add (0 * 5)).add 0)))), (88, .v (.pointer (some (x.waits.ad.add (0 * 5))))), (87, .v (.slice x.waits.A x.waits.n x.waits.c)), (86, .p 0 3), (85, vI (x.waits.at i).seq), (84, .p 1 0), (83, vB false), (82, vB false), (81, vB false), (80, vB false), (79, vI (x.waits.at i).seq), (78, .p 1 0), (77, vI (x.waits.at (i - 1)).seq), (76, .v (.pointer (some ((x.waits.ad.add ((i - 1) * 5)).add 0)))), (75, .v (.pointer (some (x.waits.ad.add ((i - 1) * 5))))), (74, vI (((i : Nat) : Int) - 1)), (73, vI ((i : Nat) : Int)), (72, .v (.slice x.waits.A x.waits.n x.waits.c)), (71, .p 0 3), (70, vB true), (69, vB true), (68, vI ((i : Nat) : Int)), (67, vB false), (66, vB false), (65, vB false), (64, vI x.next), (63, .p 0 2), (62, vI (x.waits.at i).seq), (61, .p 1 0), (60, vB false), (59, vB false), (58, vI (x.waits.at i).seq), (57, .p 1 0), (3, vI ((i : Nat) : Int)), (4, .p 1 0), (52, vI ((i : Nat) : Int)), (51, vI ((x.waits.n : Nat) : Int)), (50, .v (.slice x.waits.A x.waits.n x.waits.c)), (1, .p 0 0)] [x.waits.A = some x.waits.ad, (0 : Int) = ((0 : Nat) : Int), 0 < x.waits.n, inR ((x.waits.at 0).seq + 4), inR (((x.waits.at 0).seq + 4) - 1)] [((x.waits.ad.add (0 * 5)).add 0, [.int .i64 (x.waits.at 0).seq])] rfl rfl (by kernel_rfl) (oc (Sl.ok.own (s := x.waits) (i := 0) okx (by omega)) (oc rfl (oc (by omega) (oc (by unfold inR; omega) (oc (by unfold inR; omega) on))))) (fun w hk hr => ⟨(Sl.rd.fld (s := x.waits) (i := 0) (Rds.kp hx hk) (by omega) 0 1 rfl), trivial⟩) ?_
                            refine h_nil ?_
                            refine l_nil (q_then_normal ?_)
                            cases h24 : decide (((x.waits.at 0).seq + 4) - 1 < (x.waits.at i).seq) with
                            | true =>
                              have h24 := of_decide_eq_true h24
                              refine c_if true rfl ?_
                              refine c_seq ?_
                              refine c_region ?_
                              refine JL_run 1 [] [2] 0 ⟨[(2, vI 9)], []⟩ [] [] (by kernel_rfl) on wn ?_
                              refine l_nil (q_then_normal ?_)
                              refine c_ret ?_
                              refine q_then_ret (q_block_ret (q_then_ret (q_then_ret (q_block_ret (q_then_ret (q_ret (.inl rfl) [vI 9] rfl (fun bs w hS => ?_)))))))
                              refine ⟨?_, hS.kp⟩
                              simp only [retOf, den, List.map_cons, List.map_nil]
                              have hf : custF x.abs i = 9 := by
                                unfold custF
                                simp only [hat, ha1, ha2, ha3, ha4]
                                first | (rw [if_pos (by omega)] <;> first | rfl | (exfalso; omega)) | (rw [if_neg (by omega)] <;> first | rfl | assumption | (exfalso; omega))
                              rw [hI, firstF_here (by omega) hf (by first | assumption | omega)]
                            | false =>
                              have h24 := of_decide_eq_false h24
                              refine c_if false rfl ?_
                              refine c_skip ?_
                              refine q_then_normal ?_
                              refine c_seq ?_
                              refine c_region ?_
                              refine JL_run 2 [] [96, 52, 51, 50, 1] 1 ⟨[(96, .v (.agg #[.int .i64 (x.waits.at i).op.kind, .string (x.waits.at i).op.a, .string (x.waits.at i).op.b, .int .i64 (x.waits.at i).op.n])), (52, vI ((i : Nat) : Int)), (51, vI ((x.waits.n : Nat) : Int)), (50, .v (.slice x.waits.A x.waits.n x.waits.c)), (1, .p 0 0)], [⟨24, [vI x.id, vI x.session, vI x.next, .v (.slice x.waits.A x.waits.n x.waits.c)]⟩]⟩ [] [] (by kernel_rfl) on wn ?_
                              refine l_pure 46 [] [.v (.agg #[.int .i64 (x.waits.at i).op.kind, .string (x.waits.at i).op.a, .string (x.waits.at i).op.b, .int .i64 (x.waits.at i).op.n])] (.int .i64 (mOp (x.waits.at i).op)) Try.call46 rfl rfl rfl rfl (fun bs w hS => command_CheckOp (B := anyB) (x.waits.at i).op w ⟨(And.left (Sl.ok.at (s := x.waits) (i := i) okx (by omega))), (And.right (Sl.ok.at (s := x.waits) (i := i) okx (by omega)))⟩) ?_
                              refine JL_run 1 [] [5, 52, 51, 50, 1] 1 ⟨[(5, vI (mOp (x.waits.at i).op)), (52, vI ((i : Nat) : Int)), (51, vI ((x.waits.n : Nat) : Int)), (50, .v (.slice x.waits.A x.waits.n x.waits.c)), (1, .p 0 0)], [⟨24, [vI x.id, vI x.session, vI x.next, .v (.slice x.waits.A x.waits.n x.waits.c)]⟩]⟩ [] [] (by kernel_rfl) on wn ?_
                              refine l_nil (q_then_normal ?_)
                              refine c_seq ?_
                              refine c_region ?_
                              refine JL_run 2 [] [99, 5, 52, 51, 50, 1] 1 ⟨[(99, vB (!(decide (mOp (x.waits.at i).op = 0)))), (5, vI (mOp (x.waits.at i).op)), (52, vI ((i : Nat) : Int)), (51, vI ((x.waits.n : Nat) : Int)), (50, .v (.slice x.waits.A x.waits.n x.waits.c)), (1, .p 0 0)], [⟨24, [vI x.id, vI x.session, vI x.next, .v (.slice x.waits.A x.waits.n x.waits.c)]⟩]⟩ [] [] (by kernel_rfl) on wn ?_
                              refine l_nil (q_then_normal ?_)
                              cases h25 : decide (mOp (x.waits.at i).op = 0) with
                              | true =>
                                have h25 := of_decide_eq_true h25
                                refine c_if false rfl ?_
                                refine c_skip ?_
                                refine q_block_normal (q_then_normal ?_)
                                refine c_region ?_
                                refine JL_run 2 [] [52, 51, 50, 1] 1 ⟨[(52, vI (((i : Nat) : Int) + 1)), (51, vI ((x.waits.n : Nat) : Int)), (50, .v (.slice x.waits.A x.waits.n x.waits.c)), (1, .p 0 0)], [⟨24, [vI x.id, vI x.session, vI x.next, .v (.slice x.waits.A x.waits.n x.waits.c)]⟩]⟩ [inR (((i : Nat) : Int) + 1)] [] (by kernel_rfl) (oc (by unfold inR; omega) on) wn ?_
                                have hf0 : custF x.abs i = 0 := by
                                  unfold custF
                                  simp only [hat, ha1, ha2, ha3, ha4]
                                  first | (rw [if_pos (by omega)] <;> first | rfl | (exfalso; omega)) | (rw [if_neg (by omega)] <;> first | rfl | assumption | (exfalso; omega))
                                refine l_nil (q_loop (x := (i : Nat)) ((i + 1) : Nat) ⟨by omega, by rw [hI]; exact firstF_step (by omega) hf0, fun _ => by omega⟩ (by omega) (s_start [52, 51, 50, 1] 1 (by kernel_rfl) rfl))
                              | false =>
                                have h25 := of_decide_eq_false h25
                                refine c_if true rfl ?_
                                refine c_seq ?_
                                refine c_region ?_
                                refine JL_run 2 [] [2] 0 ⟨[(2, vI (mOp (x.waits.at i).op))], []⟩ [] [] (by kernel_rfl) on wn ?_
                                refine l_nil (q_then_normal ?_)
                                refine c_ret ?_
                                refine q_block_ret (q_then_ret (q_then_ret (q_block_ret (q_then_ret (q_ret (.inl rfl) [vI (mOp (x.waits.at i).op)] rfl (fun bs w hS => ?_))))))
                                refine ⟨?_, hS.kp⟩
                                simp only [retOf, den, List.map_cons, List.map_nil]
                                have hf : custF x.abs i = mOp (x.waits.at i).op := by
                                  unfold custF
                                  simp only [hat, ha1, ha2, ha3, ha4]
                                  first | (rw [if_pos (by omega)] <;> first | rfl | (exfalso; omega)) | (rw [if_neg (by omega)] <;> first | rfl | assumption | (exfalso; omega))
                                rw [hI, firstF_here (by omega) hf (by first | assumption | omega)]
                        | false =>
                          have h22 := of_decide_eq_false h22
                          refine h_quiet [(31, .idx x.waits.ad 0), (33, .ext [.int .i64 (x.waits.at 0).seq])] 24 [(94, vB (decide (((x.waits.at 0).seq + 4) - 1 < (x.waits.at i).seq))), (93, vB (decide (((x.waits.at 0).seq + 4) - 1 < (x.waits.at i).seq))), (92, vI (((x.waits.at 0).seq + 4) - 1)), (91, vI ((x.waits.at 0).seq + 4)), (90, vI (x.waits.at 0).seq), (89, .v (.pointer (some ((x.waits.ad.add (0 * 5)).add 0)))), (88, .v (.pointer (some (x.waits.ad.add (0 * 5))))), (87, .v (.slice x.waits.A x.waits.n x.waits.c)), (86, .p 0 3), (85, vI (x.waits.at i).seq), (84, .p 1 0), (83, vB false), (82, vB false), (81, vB false), (80, .v (undef)), (79, .v (undef)), (78, .v (undef)), (77, .v (undef)), (76, .v (undef)), (75, .v (undef)), (74, .v (undef)), (73, .v (undef)), (72, .v (undef)), (71, .v (undef)), (70, vB false), (69, vB false), (68, vI ((i : Nat) : Int)), (67, vB false), (66, vB false), (65, vB false), (64, vI x.next), (63, .p 0 2), (62, vI (x.waits.at i).seq), (61, .p 1 0), (60, vB false), (59, vB false), (58, vI (x.waits.at i).seq), (57, .p 1 0), (3, vI ((i : Nat) : Int)), (4, .p 1 0), (52, vI ((i : Nat) : Int)), (51, vI ((x.waits.n : Nat) : Int)), (50, .v (.slice x.waits.A x.waits.n x.waits.c)), (1, .p 0 0)] [x.waits.A = some x.waits.ad, (0 : Int) = ((0 : Nat) : Int), 0 < x.waits.n, inR ((x.waits.at 0).seq + 4), inR (((x.waits.at 0).seq + 4) - 1)] [((x.waits.ad.add (0 * 5)).add 0, [.int .i64 (x.waits.at 0).seq])] rfl rfl (by kernel_rfl) (oc (Sl.ok.own (s := x.waits) (i := 0) okx (by omega)) (oc rfl (oc (by omega) (oc (by unfold inR; omega) (oc (by unfold inR; omega) on))))) (fun w hk hr => ⟨(Sl.rd.fld (s := x.waits) (i := 0) (Rds.kp hx hk) (by omega) 0 1 rfl), trivial⟩) ?_
                          refine h_nil ?_
                          refine l_nil (q_then_normal ?_)
                          cases h26 : decide (((x.waits.at 0).seq + 4) - 1 < (x.waits.at i).seq) with
                          | true =>
                            have h26 := of_decide_eq_true h26
                            refine c_if true rfl ?_
                            refine c_seq ?_
                            refine c_region ?_
                            refine JL_run 1 [] [2] 0 ⟨[(2, vI 9)], []⟩ [] [] (by kernel_rfl) on wn ?_
                            refine l_nil (q_then_normal ?_)
                            refine c_ret ?_
                            refine q_then_ret (q_block_ret (q_then_ret (q_then_ret (q_block_ret (q_then_ret (q_ret (.inl rfl) [vI 9] rfl (fun bs w hS => ?_)))))))
                            refine ⟨?_, hS.kp⟩
                            simp only [retOf, den, List.map_cons, List.map_nil]
                            have hf : custF x.abs i = 9 := by
                              unfold custF
                              simp only [hat, ha1, ha2, ha3, ha4]
                              first | (rw [if_pos (by omega)] <;> first | rfl | (exfalso; omega)) | (rw [if_neg (by omega)] <;> first | rfl | assumption | (exfalso; omega))
                            rw [hI, firstF_here (by omega) hf (by first | assumption | omega)]
                          | false =>
                            have h26 := of_decide_eq_false h26
                            refine c_if false rfl ?_
                            refine c_skip ?_
                            refine q_then_normal ?_
                            refine c_seq ?_
                            refine c_region ?_
                            refine JL_run 2 [] [96, 52, 51, 50, 1] 1 ⟨[(96, .v (.agg #[.int .i64 (x.waits.at i).op.kind, .string (x.waits.at i).op.a, .string (x.waits.at i).op.b, .int .i64 (x.waits.at i).op.n])), (52, vI ((i : Nat) : Int)), (51, vI ((x.waits.n : Nat) : Int)), (50, .v (.slice x.waits.A x.waits.n x.waits.c)), (1, .p 0 0)], [⟨24, [vI x.id, vI x.session, vI x.next, .v (.slice x.waits.A x.waits.n x.waits.c)]⟩]⟩ [] [] (by kernel_rfl) on wn ?_
                            refine l_pure 46 [] [.v (.agg #[.int .i64 (x.waits.at i).op.kind, .string (x.waits.at i).op.a, .string (x.waits.at i).op.b, .int .i64 (x.waits.at i).op.n])] (.int .i64 (mOp (x.waits.at i).op)) Try.call46 rfl rfl rfl rfl (fun bs w hS => command_CheckOp (B := anyB) (x.waits.at i).op w ⟨(And.left (Sl.ok.at (s := x.waits) (i := i) okx (by omega))), (And.right (Sl.ok.at (s := x.waits) (i := i) okx (by omega)))⟩) ?_
                            refine JL_run 1 [] [5, 52, 51, 50, 1] 1 ⟨[(5, vI (mOp (x.waits.at i).op)), (52, vI ((i : Nat) : Int)), (51, vI ((x.waits.n : Nat) : Int)), (50, .v (.slice x.waits.A x.waits.n x.waits.c)), (1, .p 0 0)], [⟨24, [vI x.id, vI x.session, vI x.next, .v (.slice x.waits.A x.waits.n x.waits.c)]⟩]⟩ [] [] (by kernel_rfl) on wn ?_
                            refine l_nil (q_then_normal ?_)
                            refine c_seq ?_
                            refine c_region ?_
                            refine JL_run 2 [] [99, 5, 52, 51, 50, 1] 1 ⟨[(99, vB (!(decide (mOp (x.waits.at i).op = 0)))), (5, vI (mOp (x.waits.at i).op)), (52, vI ((i : Nat) : Int)), (51, vI ((x.waits.n : Nat) : Int)), (50, .v (.slice x.waits.A x.waits.n x.waits.c)), (1, .p 0 0)], [⟨24, [vI x.id, vI x.session, vI x.next, .v (.slice x.waits.A x.waits.n x.waits.c)]⟩]⟩ [] [] (by kernel_rfl) on wn ?_
                            refine l_nil (q_then_normal ?_)
                            cases h27 : decide (mOp (x.waits.at i).op = 0) with
                            | true =>
                              have h27 := of_decide_eq_true h27
                              refine c_if false rfl ?_
                              refine c_skip ?_
                              refine q_block_normal (q_then_normal ?_)
                              refine c_region ?_
                              refine JL_run 2 [] [52, 51, 50, 1] 1 ⟨[(52, vI (((i : Nat) : Int) + 1)), (51, vI ((x.waits.n : Nat) : Int)), (50, .v (.slice x.waits.A x.waits.n x.waits.c)), (1, .p 0 0)], [⟨24, [vI x.id, vI x.session, vI x.next, .v (.slice x.waits.A x.waits.n x.waits.c)]⟩]⟩ [inR (((i : Nat) : Int) + 1)] [] (by kernel_rfl) (oc (by unfold inR; omega) on) wn ?_
                              have hf0 : custF x.abs i = 0 := by
                                unfold custF
                                simp only [hat, ha1, ha2, ha3, ha4]
                                first | (rw [if_pos (by omega)] <;> first | rfl | (exfalso; omega)) | (rw [if_neg (by omega)] <;> first | rfl | assumption | (exfalso; omega))
                              refine l_nil (q_loop (x := (i : Nat)) ((i + 1) : Nat) ⟨by omega, by rw [hI]; exact firstF_step (by omega) hf0, fun _ => by omega⟩ (by omega) (s_start [52, 51, 50, 1] 1 (by kernel_rfl) rfl))
                            | false =>
                              have h27 := of_decide_eq_false h27
                              refine c_if true rfl ?_
                              refine c_seq ?_
                              refine c_region ?_
                              refine JL_run 2 [] [2] 0 ⟨[(2, vI (mOp (x.waits.at i).op))], []⟩ [] [] (by kernel_rfl) on wn ?_
                              refine l_nil (q_then_normal ?_)
                              refine c_ret ?_
                              refine q_block_ret (q_then_ret (q_then_ret (q_block_ret (q_then_ret (q_ret (.inl rfl) [vI (mOp (x.waits.at i).op)] rfl (fun bs w hS => ?_))))))
                              refine ⟨?_, hS.kp⟩
                              simp only [retOf, den, List.map_cons, List.map_nil]
                              have hf : custF x.abs i = mOp (x.waits.at i).op := by
                                unfold custF
                                simp only [hat, ha1, ha2, ha3, ha4]
                                first | (rw [if_pos (by omega)] <;> first | rfl | (exfalso; omega)) | (rw [if_neg (by omega)] <;> first | rfl | assumption | (exfalso; omega))
                              rw [hI, firstF_here (by omega) hf (by first | assumption | omega)]
                  | false =>
                    have h19 := of_decide_eq_false h19
                    refine c_if false rfl ?_
                    refine c_exit ?_
                    refine q_then_exit (q_then_exit (q_block_hit (q_then_normal ?_)))
                    refine c_seq ?_
                    refine c_region ?_
                    refine JL_run 1 [] [2] 0 ⟨[(2, vI 0)], []⟩ [] [] (by kernel_rfl) on wn ?_
                    refine l_nil (q_then_normal ?_)
                    refine c_ret ?_
                    refine q_ret (.inl rfl) [vI 0] rfl (fun bs w hS => ?_)
                    refine ⟨?_, hS.kp⟩
                    simp only [retOf, den, List.map_cons, List.map_nil]
                    rw [hI, firstF_end (by omega)]

theorem ref_CustomerFault {B : Nat → Prop} (x : CCustomer) (w : World) (hx : Rds.sub B w x) : Calls Try.prog 49 #[.agg #[.int .i64 x.id, .int .i64 x.session, .int .i64 x.next, .slice x.waits.A x.waits.n x.waits.c]] w fun e w' => e = .returned (.int .i64 (mCust x.abs)) ∧ Kp [] w w' := by
  have okx := Rds.okof hx
  have ncx := Sl.ok.nc okx
  have hns : x.waits.n = x.waits.xs.length := rfl
  have hat : ∀ q, x.abs.waits.getD q default = x.waits.at q := fun _ => rfl
  have ha1 : x.abs.id = x.id := rfl
  have ha2 : x.abs.session = x.session := rfl
  have ha3 : x.abs.next = x.next := rfl
  have ha4 : x.abs.waits.length = x.waits.n := rfl
  refine calls_J0 89 Try.func49 rfl rfl [.agg #[.int .i64 x.id, .int .i64 x.session, .int .i64 x.next, .slice x.waits.A x.waits.n x.waits.c]] rfl ?_
  refine c_seq ?_
  refine c_region ?_
  refine JL_run 2 [] [1] 1 ⟨[(1, .p 0 0)], [⟨24, [vI x.id, vI x.session, vI x.next, .v (.slice x.waits.A x.waits.n x.waits.c)]⟩]⟩ [] [] (by kernel_rfl) on wn ?_
  refine l_nil (q_then_normal ?_)
  refine c_seq ?_
  refine c_seq ?_
  refine c_region ?_
  refine JL_run 2 [] [7, 1] 1 ⟨[(7, vI x.id), (1, .p 0 0)], [⟨24, [vI x.id, vI x.session, vI x.next, .v (.slice x.waits.A x.waits.n x.waits.c)]⟩]⟩ [] [] (by kernel_rfl) on wn ?_
  refine l_pure 68 [] [vI x.id, vI 1, vI 9] (.bool (inB x.id 1 9)) Try.call68 rfl rfl rfl rfl (fun bs w hS => ref_In _ _ _ w) ?_
  refine JL_run 2 [] [10, 1] 1 ⟨[(10, vB (!(inB x.id 1 9))), (1, .p 0 0)], [⟨24, [vI x.id, vI x.session, vI x.next, .v (.slice x.waits.A x.waits.n x.waits.c)]⟩]⟩ [] [] (by kernel_rfl) on wn ?_
  cases h1 : inB x.id 1 9 with
  | true =>
    simp only [inB, Bool.and_eq_true, Bool.and_eq_false_iff, decide_eq_true_eq, decide_eq_false_iff_not] at h1
    refine JL_run 2 [] [12, 10, 1] 1 ⟨[(12, vI x.session), (10, vB false), (1, .p 0 0)], [⟨24, [vI x.id, vI x.session, vI x.next, .v (.slice x.waits.A x.waits.n x.waits.c)]⟩]⟩ [] [] (by kernel_rfl) on wn ?_
    refine l_pure 68 [] [vI x.session, vI 0, vI 1073741824] (.bool (inB x.session 0 1073741824)) Try.call68 rfl rfl rfl rfl (fun bs w hS => ref_In _ _ _ w) ?_
    refine JL_run 3 [] [16, 1] 1 ⟨[(16, vB (!(inB x.session 0 1073741824))), (1, .p 0 0)], [⟨24, [vI x.id, vI x.session, vI x.next, .v (.slice x.waits.A x.waits.n x.waits.c)]⟩]⟩ [] [] (by kernel_rfl) on wn ?_
    cases h2 : inB x.session 0 1073741824 with
    | true =>
      simp only [inB, Bool.and_eq_true, Bool.and_eq_false_iff, decide_eq_true_eq, decide_eq_false_iff_not] at h2
      refine JL_run 2 [] [18, 16, 1] 1 ⟨[(18, vI x.next), (16, vB false), (1, .p 0 0)], [⟨24, [vI x.id, vI x.session, vI x.next, .v (.slice x.waits.A x.waits.n x.waits.c)]⟩]⟩ [] [] (by kernel_rfl) on wn ?_
      refine l_pure 68 [] [vI x.next, vI 1, vI 1048577] (.bool (inB x.next 1 1048577)) Try.call68 rfl rfl rfl rfl (fun bs w hS => ref_In _ _ _ w) ?_
      refine JL_run 2 [] [21, 1] 1 ⟨[(21, vB (!(inB x.next 1 1048577))), (1, .p 0 0)], [⟨24, [vI x.id, vI x.session, vI x.next, .v (.slice x.waits.A x.waits.n x.waits.c)]⟩]⟩ [] [] (by kernel_rfl) on wn ?_
      refine l_nil (q_then_normal ?_)
      cases h3 : inB x.next 1 1048577 with
      | true =>
        simp only [inB, Bool.and_eq_true, Bool.and_eq_false_iff, decide_eq_true_eq, decide_eq_false_iff_not] at h3
        refine c_if false rfl ?_
        refine c_skip ?_
        refine q_then_normal ?_
        refine c_seq ?_
        refine c_seq ?_
        refine c_region ?_
        refine JL_run 5 [] [26, 1] 1 ⟨[(26, vB (decide ((4 : Int) < ((x.waits.n : Nat) : Int)))), (1, .p 0 0)], [⟨24, [vI x.id, vI x.session, vI x.next, .v (.slice x.waits.A x.waits.n x.waits.c)]⟩]⟩ [] [] (by kernel_rfl) on wn ?_
        cases h4 : decide ((4 : Int) < ((x.waits.n : Nat) : Int)) with
        | true =>
          have h4 := of_decide_eq_true h4
          refine JL_run 10 [] [36, 1] 1 ⟨[(36, vB true), (1, .p 0 0)], [⟨24, [vI x.id, vI x.session, vI x.next, .v (.slice x.waits.A x.waits.n x.waits.c)]⟩]⟩ [] [] (by kernel_rfl) on wn ?_
          refine l_nil (q_then_normal ?_)
          refine c_if true rfl ?_
          refine c_seq ?_
          refine c_region ?_
          refine JL_run 1 [] [2] 0 ⟨[(2, vI 9)], []⟩ [] [] (by kernel_rfl) on wn ?_
          refine l_nil (q_then_normal ?_)
          refine c_ret ?_
          refine q_then_ret (q_ret (.inl rfl) [vI 9] rfl (fun bs w hS => ?_))
          refine ⟨?_, hS.kp⟩
          simp only [retOf, den, List.map_cons, List.map_nil]
          have hm : mCust x.abs = 9 := by
            unfold mCust; simp only [ha1, ha2, ha3, ha4]; rw [if_neg (by omega), if_pos (by omega)]
          rw [hm]
        | false =>
          have h4 := of_decide_eq_false h4
          refine JL_run 5 [] [31, 26, 1] 1 ⟨[(31, vB (decide ((0 : Int) < ((x.waits.n : Nat) : Int)))), (26, vB false), (1, .p 0 0)], [⟨24, [vI x.id, vI x.session, vI x.next, .v (.slice x.waits.A x.waits.n x.waits.c)]⟩]⟩ [] [] (by kernel_rfl) on wn ?_
          cases h5 : decide ((0 : Int) < ((x.waits.n : Nat) : Int)) with
          | true =>
            have h5 := of_decide_eq_true h5
            refine JL_run 5 [] [36, 1] 1 ⟨[(36, vB (decide (x.session = 0))), (1, .p 0 0)], [⟨24, [vI x.id, vI x.session, vI x.next, .v (.slice x.waits.A x.waits.n x.waits.c)]⟩]⟩ [] [] (by kernel_rfl) on wn ?_
            refine l_nil (q_then_normal ?_)
            cases h6 : decide (x.session = 0) with
            | true =>
              have h6 := of_decide_eq_true h6
              refine c_if true rfl ?_
              refine c_seq ?_
              refine c_region ?_
              refine JL_run 1 [] [2] 0 ⟨[(2, vI 9)], []⟩ [] [] (by kernel_rfl) on wn ?_
              refine l_nil (q_then_normal ?_)
              refine c_ret ?_
              refine q_then_ret (q_ret (.inl rfl) [vI 9] rfl (fun bs w hS => ?_))
              refine ⟨?_, hS.kp⟩
              simp only [retOf, den, List.map_cons, List.map_nil]
              have hm : mCust x.abs = 9 := by
                unfold mCust; simp only [ha1, ha2, ha3, ha4]; rw [if_neg (by omega), if_pos (by omega)]
              rw [hm]
            | false =>
              have h6 := of_decide_eq_false h6
              refine c_if false rfl ?_
              refine c_skip ?_
              refine q_then_normal ?_
              refine c_seq ?_
              refine c_seq ?_
              refine c_region ?_
              refine JL_run 1 [] [3, 1] 1 ⟨[(3, vI 0), (1, .p 0 0)], [⟨24, [vI x.id, vI x.session, vI x.next, .v (.slice x.waits.A x.waits.n x.waits.c)]⟩]⟩ [] [] (by kernel_rfl) on wn ?_
              refine l_nil (q_then_normal ?_)
              refine c_block ?_
              refine c_loop (σ := Nat) (fun i => i ≤ x.waits.n ∧ mCust x.abs = firstF (custF x.abs) (x.waits.n - i) i ∧ (0 < i → 1 ≤ (x.waits.at 0).seq ∧ (x.waits.at 0).seq < x.next)) (fun i => x.waits.n - i) (fun i => []) (fun i => ⟨[(3, vI ((i : Nat) : Int)), (1, .p 0 0)], [⟨24, [vI x.id, vI x.session, vI x.next, .v (.slice x.waits.A x.waits.n x.waits.c)]⟩]⟩) 0 ⟨Nat.zero_le _, by unfold mCust; simp only [ha1, ha2, ha3, ha4]; rw [if_neg (by omega), if_neg (by omega)], fun h => absurd h (by omega)⟩ (s_start [3, 1] 1 (by kernel_rfl) rfl) ?_
              rintro i ⟨hi, hI, h0⟩
              have hz : i = 0 ∨ (0 < i ∧ 1 ≤ (x.waits.at 0).seq ∧ (x.waits.at 0).seq < x.next) := by rcases Nat.eq_zero_or_pos i with h | h; exact .inl h; exact .inr ⟨h, h0 h⟩
              have hz2 : i = 0 → (x.waits.at i).seq = (x.waits.at 0).seq := fun h => by rw [h]
              refine c_seq ?_
              refine c_seq ?_
              refine c_region ?_
              refine JL_run 5 [] [41, 3, 1] 1 ⟨[(41, vB (decide (((i : Nat) : Int) < ((x.waits.n : Nat) : Int)))), (3, vI ((i : Nat) : Int)), (1, .p 0 0)], [⟨24, [vI x.id, vI x.session, vI x.next, .v (.slice x.waits.A x.waits.n x.waits.c)]⟩]⟩ [] [] (by kernel_rfl) on wn ?_
              refine l_nil (q_then_normal ?_)
              cases h7 : decide (((i : Nat) : Int) < ((x.waits.n : Nat) : Int)) with
              | true =>
                have h7 := of_decide_eq_true h7
                refine c_if true rfl ?_
                refine c_skip ?_
                refine q_then_normal ?_
                refine c_seq ?_
                refine c_block ?_
                refine c_seq ?_
                refine c_region ?_
                refine JL_run 7 [(3, .idx x.waits.ad i), (4, .ext [.int .i64 (x.waits.at i).seq, .int .i64 (x.waits.at i).op.kind, .string (x.waits.at i).op.a, .string (x.waits.at i).op.b, .int .i64 (x.waits.at i).op.n])] [4, 3, 1] 2 ⟨[(4, .p 1 0), (3, vI ((i : Nat) : Int)), (1, .p 0 0)], [⟨24, [vI x.id, vI x.session, vI x.next, .v (.slice x.waits.A x.waits.n x.waits.c)]⟩, ⟨83, [vI (x.waits.at i).seq, vI (x.waits.at i).op.kind, vS (x.waits.at i).op.a, vS (x.waits.at i).op.b, vI (x.waits.at i).op.n]⟩]⟩ [x.waits.A = some x.waits.ad, ((i : Nat) : Int) = ((i : Nat) : Int), i < x.waits.n] [(x.waits.ad.add (i * 5), [.int .i64 (x.waits.at i).seq, .int .i64 (x.waits.at i).op.kind, .string (x.waits.at i).op.a, .string (x.waits.at i).op.b, .int .i64 (x.waits.at i).op.n])] (by kernel_rfl) (oc (Sl.ok.own (s := x.waits) (i := i) okx (by omega)) (oc rfl (oc (by omega) on))) (fun w hk hr => ⟨(Sl.rd.all (s := x.waits) (i := i) (Rds.kp hx hk) (by omega) rfl), trivial⟩) ?_
                refine l_nil (q_then_normal ?_)
                refine c_seq ?_
                refine c_seq ?_
                refine c_draw 34 [(0, false), (1, false), (2, false), (3, false), (4, false), (5, true), (6, false), (7, false), (8, false), (9, false), (10, false), (11, false), (12, false), (13, false), (14, false), (15, false), (16, false), (17, false), (18, false), (19, false), (20, false), (21, false), (22, false), (23, false), (24, false), (25, false), (26, false), (27, false), (28, false), (29, false), (30, false), (31, false), (32, false), (33, false)] [] [] Try_mixed (by kernel_rfl) (pq_then (pq_then (pq_block (pq_then (pq_then (pq_block (pq_then pq_body))))))) (List.Sublist.refl _) ?_
                refine h_quiet [] 5 [(53, vI (x.next - 1)), (52, vI x.next), (51, .p 0 2), (50, vI (x.waits.at i).seq), (49, .p 1 0), (4, .p 1 0), (3, vI ((i : Nat) : Int)), (1, .p 0 0)] [inR (x.next - 1)] [] rfl rfl (by kernel_rfl) (oc (by unfold inR; omega) on) wn ?_
                refine h_pure 68 [] [vI (x.waits.at i).seq, vI 1, vI (x.next - 1)] (.bool (inB (x.waits.at i).seq 1 (x.next - 1))) rfl Try.call68 rfl rfl rfl rfl (fun bs w hS => ref_In _ _ _ w) (fun bs0 bs w hp hl hS => hS.down hp hl rfl (le_same (le_same le_nil)) (List.Sublist.refl _)) ?_
                refine h_quiet [] 2 [(56, vB (!(inB (x.waits.at i).seq 1 (x.next - 1)))), (55, vB (!(inB (x.waits.at i).seq 1 (x.next - 1)))), (54, vB (inB (x.waits.at i).seq 1 (x.next - 1))), (53, vI (x.next - 1)), (52, vI x.next), (51, .p 0 2), (50, vI (x.waits.at i).seq), (49, .p 1 0), (4, .p 1 0), (3, vI ((i : Nat) : Int)), (1, .p 0 0)] [] [] rfl rfl (by kernel_rfl) on wn ?_
                cases h8 : inB (x.waits.at i).seq 1 (x.next - 1) with
                | true =>
                  simp only [inB, Bool.and_eq_true, Bool.and_eq_false_iff, decide_eq_true_eq, decide_eq_false_iff_not] at h8
                  refine h_quiet [(12, .idx x.waits.ad 0), (14, .ext [.int .i64 (x.waits.at 0).seq])] 11 [(67, vB (decide ((3 : Int) < (x.waits.at i).seq - (x.waits.at 0).seq))), (66, vB (decide ((3 : Int) < (x.waits.at i).seq - (x.waits.at 0).seq))), (65, vB (decide ((3 : Int) < (x.waits.at i).seq - (x.waits.at 0).seq))), (64, vI ((x.waits.at i).seq - (x.waits.at 0).seq)), (63, vI (x.waits.at 0).seq), (62, .v (.pointer (some ((x.waits.ad.add (0 * 5)).add 0)))), (61, .v (.pointer (some (x.waits.ad.add (0 * 5))))), (60, .v (.slice x.waits.A x.waits.n x.waits.c)), (59, .p 0 3), (58, vI (x.waits.at i).seq), (57, .p 1 0), (56, vB false), (55, vB false), (54, vB true), (53, vI (x.next - 1)), (52, vI x.next), (51, .p 0 2), (50, vI (x.waits.at i).seq), (49, .p 1 0), (4, .p 1 0), (3, vI ((i : Nat) : Int)), (1, .p 0 0)] [x.waits.A = some x.waits.ad, (0 : Int) = ((0 : Nat) : Int), 0 < x.waits.n, inR ((x.waits.at i).seq - (x.waits.at 0).seq)] [((x.waits.ad.add (0 * 5)).add 0, [.int .i64 (x.waits.at 0).seq])] rfl rfl (by kernel_rfl) (oc (Sl.ok.own (s := x.waits) (i := 0) okx (by omega)) (oc rfl (oc (by omega) (oc (by unfold inR; omega) on)))) (fun w hk hr => ⟨(Sl.rd.fld (s := x.waits) (i := 0) (Rds.kp hx hk) (by omega) 0 1 rfl), trivial⟩) ?_
                  cases h9 : decide ((3 : Int) < (x.waits.at i).seq - (x.waits.at 0).seq) with
                  | true =>
                    have h9 := of_decide_eq_true h9
                    refine h_quiet [] 15 [(82, vB true), (81, .v (undef)), (80, .v (undef)), (79, .v (undef)), (78, .v (undef)), (77, .v (undef)), (76, .v (undef)), (75, .v (undef)), (74, .v (undef)), (73, .v (undef)), (72, .v (undef)), (71, .v (undef)), (70, .v (undef)), (69, .v (undef)), (68, .v (undef)), (67, vB true), (66, vB true), (65, vB true), (64, vI ((x.waits.at i).seq - (x.waits.at 0).seq)), (63, vI (x.waits.at 0).seq), (62, .v (.pointer (some ((x.waits.ad.add (0 * 5)).add 0)))), (61, .v (.pointer (some (x.waits.ad.add (0 * 5))))), (60, .v (.slice x.waits.A x.waits.n x.waits.c)), (59, .p 0 3), (58, vI (x.waits.at i).seq), (57, .p 1 0), (56, vB false), (55, vB false), (54, vB true), (53, vI (x.next - 1)), (52, vI x.next), (51, .p 0 2), (50, vI (x.waits.at i).seq), (49, .p 1 0), (4, .p 1 0), (3, vI ((i : Nat) : Int)), (1, .p 0 0)] [] [] rfl rfl (by kernel_rfl) on wn ?_
                    refine h_nil ?_
                    refine l_nil (q_then_normal ?_)
                    refine c_if true rfl ?_
                    refine c_seq ?_
                    refine c_region ?_
                    refine JL_run 1 [] [2] 0 ⟨[(2, vI 9)], []⟩ [] [] (by kernel_rfl) on wn ?_
                    refine l_nil (q_then_normal ?_)
                    refine c_ret ?_
                    refine q_then_ret (q_block_ret (q_then_ret (q_then_ret (q_block_ret (q_then_ret (q_ret (.inl rfl) [vI 9] rfl (fun bs w hS => ?_)))))))
                    refine ⟨?_, hS.kp⟩
                    simp only [retOf, den, List.map_cons, List.map_nil]
                    have hf : custF x.abs i = 9 := by
                      unfold custF
                      simp only [hat, ha1, ha2, ha3, ha4]
                      first | (rw [if_pos (by omega)] <;> first | rfl | (exfalso; omega)) | (rw [if_neg (by omega)] <;> first | rfl | assumption | (exfalso; omega))
                    rw [hI, firstF_here (by omega) hf (by first | assumption | omega)]
                  | false =>
                    have h9 := of_decide_eq_false h9
                    refine h_quiet [] 3 [(70, vB (decide ((0 : Int) < ((i : Nat) : Int)))), (69, vB (decide ((0 : Int) < ((i : Nat) : Int)))), (68, vI ((i : Nat) : Int)), (67, vB false), (66, vB false), (65, vB false), (64, vI ((x.waits.at i).seq - (x.waits.at 0).seq)), (63, vI (x.waits.at 0).seq), (62, .v (.pointer (some ((x.waits.ad.add (0 * 5)).add 0)))), (61, .v (.pointer (some (x.waits.ad.add (0 * 5))))), (60, .v (.slice x.waits.A x.waits.n x.waits.c)), (59, .p 0 3), (58, vI (x.waits.at i).seq), (57, .p 1 0), (56, vB false), (55, vB false), (54, vB true), (53, vI (x.next - 1)), (52, vI x.next), (51, .p 0 2), (50, vI (x.waits.at i).seq), (49, .p 1 0), (4, .p 1 0), (3, vI ((i : Nat) : Int)), (1, .p 0 0)] [] [] rfl rfl (by kernel_rfl) on wn ?_
                    cases h10 : decide ((0 : Int) < ((i : Nat) : Int)) with
                    | true =>
                      have h10 := of_decide_eq_true h10
                      refine h_quiet [(28, .idx x.waits.ad (i - 1)), (30, .ext [.int .i64 (x.waits.at (i - 1)).seq])] 12 [(82, vB (decide ((x.waits.at i).seq ≤ (x.waits.at (i - 1)).seq))), (81, vB (decide ((x.waits.at i).seq ≤ (x.waits.at (i - 1)).seq))), (80, vB (decide ((x.waits.at i).seq ≤ (x.waits.at (i - 1)).seq))), (79, vI (x.waits.at (i - 1)).seq), (78, .v (.pointer (some ((x.waits.ad.add ((i - 1) * 5)).add 0)))), (77, .v (.pointer (some (x.waits.ad.add ((i - 1) * 5))))), (76, vI (((i : Nat) : Int) - 1)), (75, vI ((i : Nat) : Int)), (74, .v (.slice x.waits.A x.waits.n x.waits.c)), (73, .p 0 3), (72, vI (x.waits.at i).seq), (71, .p 1 0), (70, vB true), (69, vB true), (68, vI ((i : Nat) : Int)), (67, vB false), (66, vB false), (65, vB false), (64, vI ((x.waits.at i).seq - (x.waits.at 0).seq)), (63, vI (x.waits.at 0).seq), (62, .v (.pointer (some ((x.waits.ad.add (0 * 5)).add 0)))), (61, .v (.pointer (some (x.waits.ad.add (0 * 5))))), (60, .v (.slice x.waits.A x.waits.n x.waits.c)), (59, .p 0 3), (58, vI (x.waits.at i).seq), (57, .p 1 0), (56, vB false), (55, vB false), (54, vB true), (53, vI (x.next - 1)), (52, vI x.next), (51, .p 0 2), (50, vI (x.waits.at i).seq), (49, .p 1 0), (4, .p 1 0), (3, vI ((i : Nat) : Int)), (1, .p 0 0)] [inR (((i : Nat) : Int) - 1), x.waits.A = some x.waits.ad, ((i : Nat) : Int) - 1 = (((i - 1) : Nat) : Int), (i - 1) < x.waits.n] [((x.waits.ad.add ((i - 1) * 5)).add 0, [.int .i64 (x.waits.at (i - 1)).seq])] rfl rfl (by kernel_rfl) (oc (by unfold inR; omega) (oc (Sl.ok.own (s := x.waits) (i := (i - 1)) okx (by omega)) (oc (by omega) (oc (by omega) on)))) (fun w hk hr => ⟨(Sl.rd.fld (s := x.waits) (i := (i - 1)) (Rds.kp hx hk) (by omega) 0 1 rfl), trivial⟩) ?_
                      refine h_nil ?_
                      refine l_nil (q_then_normal ?_)
                      cases h11 : decide ((x.waits.at i).seq ≤ (x.waits.at (i - 1)).seq) with
                      | true =>
                        have h11 := of_decide_eq_true h11
                        refine c_if true rfl ?_
                        refine c_seq ?_
                        refine c_region ?_
                        refine JL_run 1 [] [2] 0 ⟨[(2, vI 9)], []⟩ [] [] (by kernel_rfl) on wn ?_
                        refine l_nil (q_then_normal ?_)
                        refine c_ret ?_
                        refine q_then_ret (q_block_ret (q_then_ret (q_then_ret (q_block_ret (q_then_ret (q_ret (.inl rfl) [vI 9] rfl (fun bs w hS => ?_)))))))
                        refine ⟨?_, hS.kp⟩
                        simp only [retOf, den, List.map_cons, List.map_nil]
                        have hf : custF x.abs i = 9 := by
                          unfold custF
                          simp only [hat, ha1, ha2, ha3, ha4]
                          first | (rw [if_pos (by omega)] <;> first | rfl | (exfalso; omega)) | (rw [if_neg (by omega)] <;> first | rfl | assumption | (exfalso; omega))
                        rw [hI, firstF_here (by omega) hf (by first | assumption | omega)]
                      | false =>
                        have h11 := of_decide_eq_false h11
                        refine c_if false rfl ?_
                        refine c_skip ?_
                        refine q_then_normal ?_
                        refine c_seq ?_
                        refine c_region ?_
                        refine JL_run 2 [] [84, 3, 1] 1 ⟨[(84, .v (.agg #[.int .i64 (x.waits.at i).op.kind, .string (x.waits.at i).op.a, .string (x.waits.at i).op.b, .int .i64 (x.waits.at i).op.n])), (3, vI ((i : Nat) : Int)), (1, .p 0 0)], [⟨24, [vI x.id, vI x.session, vI x.next, .v (.slice x.waits.A x.waits.n x.waits.c)]⟩]⟩ [] [] (by kernel_rfl) on wn ?_
                        refine l_pure 50 [] [.v (.agg #[.int .i64 (x.waits.at i).op.kind, .string (x.waits.at i).op.a, .string (x.waits.at i).op.b, .int .i64 (x.waits.at i).op.n])] (.int .i64 (mOp (x.waits.at i).op)) Try.call50 rfl rfl rfl rfl (fun bs w hS => ref_OpFault (B := anyB) (x.waits.at i).op w ⟨(And.left (Sl.ok.at (s := x.waits) (i := i) okx (by omega))), (And.right (Sl.ok.at (s := x.waits) (i := i) okx (by omega)))⟩) ?_
                        refine JL_run 1 [] [5, 3, 1] 1 ⟨[(5, vI (mOp (x.waits.at i).op)), (3, vI ((i : Nat) : Int)), (1, .p 0 0)], [⟨24, [vI x.id, vI x.session, vI x.next, .v (.slice x.waits.A x.waits.n x.waits.c)]⟩]⟩ [] [] (by kernel_rfl) on wn ?_
                        refine l_nil (q_then_normal ?_)
                        refine c_seq ?_
                        refine c_region ?_
                        refine JL_run 2 [] [87, 5, 3, 1] 1 ⟨[(87, vB (!(decide (mOp (x.waits.at i).op = 0)))), (5, vI (mOp (x.waits.at i).op)), (3, vI ((i : Nat) : Int)), (1, .p 0 0)], [⟨24, [vI x.id, vI x.session, vI x.next, .v (.slice x.waits.A x.waits.n x.waits.c)]⟩]⟩ [] [] (by kernel_rfl) on wn ?_
                        refine l_nil (q_then_normal ?_)
                        cases h12 : decide (mOp (x.waits.at i).op = 0) with
                        | true =>
                          have h12 := of_decide_eq_true h12
                          refine c_if false rfl ?_
                          refine c_skip ?_
                          refine q_block_normal (q_then_normal ?_)
                          refine c_region ?_
                          refine JL_run 3 [] [3, 1] 1 ⟨[(3, vI (((i : Nat) : Int) + 1)), (1, .p 0 0)], [⟨24, [vI x.id, vI x.session, vI x.next, .v (.slice x.waits.A x.waits.n x.waits.c)]⟩]⟩ [inR (((i : Nat) : Int) + 1)] [] (by kernel_rfl) (oc (by unfold inR; omega) on) wn ?_
                          have hf0 : custF x.abs i = 0 := by
                            unfold custF
                            simp only [hat, ha1, ha2, ha3, ha4]
                            first | (rw [if_pos (by omega)] <;> first | rfl | (exfalso; omega)) | (rw [if_neg (by omega)] <;> first | rfl | assumption | (exfalso; omega))
                          refine l_nil (q_loop (x := (i : Nat)) ((i + 1) : Nat) ⟨by omega, by rw [hI]; exact firstF_step (by omega) hf0, fun _ => by omega⟩ (by omega) (s_start [3, 1] 1 (by kernel_rfl) rfl))
                        | false =>
                          have h12 := of_decide_eq_false h12
                          refine c_if true rfl ?_
                          refine c_seq ?_
                          refine c_region ?_
                          refine JL_run 2 [] [2] 0 ⟨[(2, vI (mOp (x.waits.at i).op))], []⟩ [] [] (by kernel_rfl) on wn ?_
                          refine l_nil (q_then_normal ?_)
                          refine c_ret ?_
                          refine q_block_ret (q_then_ret (q_then_ret (q_block_ret (q_then_ret (q_ret (.inl rfl) [vI (mOp (x.waits.at i).op)] rfl (fun bs w hS => ?_))))))
                          refine ⟨?_, hS.kp⟩
                          simp only [retOf, den, List.map_cons, List.map_nil]
                          have hf : custF x.abs i = mOp (x.waits.at i).op := by
                            unfold custF
                            simp only [hat, ha1, ha2, ha3, ha4]
                            first | (rw [if_pos (by omega)] <;> first | rfl | (exfalso; omega)) | (rw [if_neg (by omega)] <;> first | rfl | assumption | (exfalso; omega))
                          rw [hI, firstF_here (by omega) hf (by first | assumption | omega)]
                    | false =>
                      have h10 := of_decide_eq_false h10
                      refine h_quiet [] 12 [(82, vB false), (81, vB false), (80, .v (undef)), (79, .v (undef)), (78, .v (undef)), (77, .v (undef)), (76, .v (undef)), (75, .v (undef)), (74, .v (undef)), (73, .v (undef)), (72, .v (undef)), (71, .v (undef)), (70, vB false), (69, vB false), (68, vI ((i : Nat) : Int)), (67, vB false), (66, vB false), (65, vB false), (64, vI ((x.waits.at i).seq - (x.waits.at 0).seq)), (63, vI (x.waits.at 0).seq), (62, .v (.pointer (some ((x.waits.ad.add (0 * 5)).add 0)))), (61, .v (.pointer (some (x.waits.ad.add (0 * 5))))), (60, .v (.slice x.waits.A x.waits.n x.waits.c)), (59, .p 0 3), (58, vI (x.waits.at i).seq), (57, .p 1 0), (56, vB false), (55, vB false), (54, vB true), (53, vI (x.next - 1)), (52, vI x.next), (51, .p 0 2), (50, vI (x.waits.at i).seq), (49, .p 1 0), (4, .p 1 0), (3, vI ((i : Nat) : Int)), (1, .p 0 0)] [] [] rfl rfl (by kernel_rfl) on wn ?_
                      refine h_nil ?_
                      refine l_nil (q_then_normal ?_)
                      refine c_if false rfl ?_
                      refine c_skip ?_
                      refine q_then_normal ?_
                      refine c_seq ?_
                      refine c_region ?_
                      refine JL_run 2 [] [84, 3, 1] 1 ⟨[(84, .v (.agg #[.int .i64 (x.waits.at i).op.kind, .string (x.waits.at i).op.a, .string (x.waits.at i).op.b, .int .i64 (x.waits.at i).op.n])), (3, vI ((i : Nat) : Int)), (1, .p 0 0)], [⟨24, [vI x.id, vI x.session, vI x.next, .v (.slice x.waits.A x.waits.n x.waits.c)]⟩]⟩ [] [] (by kernel_rfl) on wn ?_
                      refine l_pure 50 [] [.v (.agg #[.int .i64 (x.waits.at i).op.kind, .string (x.waits.at i).op.a, .string (x.waits.at i).op.b, .int .i64 (x.waits.at i).op.n])] (.int .i64 (mOp (x.waits.at i).op)) Try.call50 rfl rfl rfl rfl (fun bs w hS => ref_OpFault (B := anyB) (x.waits.at i).op w ⟨(And.left (Sl.ok.at (s := x.waits) (i := i) okx (by omega))), (And.right (Sl.ok.at (s := x.waits) (i := i) okx (by omega)))⟩) ?_
                      refine JL_run 1 [] [5, 3, 1] 1 ⟨[(5, vI (mOp (x.waits.at i).op)), (3, vI ((i : Nat) : Int)), (1, .p 0 0)], [⟨24, [vI x.id, vI x.session, vI x.next, .v (.slice x.waits.A x.waits.n x.waits.c)]⟩]⟩ [] [] (by kernel_rfl) on wn ?_
                      refine l_nil (q_then_normal ?_)
                      refine c_seq ?_
                      refine c_region ?_
                      refine JL_run 2 [] [87, 5, 3, 1] 1 ⟨[(87, vB (!(decide (mOp (x.waits.at i).op = 0)))), (5, vI (mOp (x.waits.at i).op)), (3, vI ((i : Nat) : Int)), (1, .p 0 0)], [⟨24, [vI x.id, vI x.session, vI x.next, .v (.slice x.waits.A x.waits.n x.waits.c)]⟩]⟩ [] [] (by kernel_rfl) on wn ?_
                      refine l_nil (q_then_normal ?_)
                      cases h13 : decide (mOp (x.waits.at i).op = 0) with
                      | true =>
                        have h13 := of_decide_eq_true h13
                        refine c_if false rfl ?_
                        refine c_skip ?_
                        refine q_block_normal (q_then_normal ?_)
                        refine c_region ?_
                        refine JL_run 3 [] [3, 1] 1 ⟨[(3, vI (((i : Nat) : Int) + 1)), (1, .p 0 0)], [⟨24, [vI x.id, vI x.session, vI x.next, .v (.slice x.waits.A x.waits.n x.waits.c)]⟩]⟩ [inR (((i : Nat) : Int) + 1)] [] (by kernel_rfl) (oc (by unfold inR; omega) on) wn ?_
                        have hf0 : custF x.abs i = 0 := by
                          unfold custF
                          simp only [hat, ha1, ha2, ha3, ha4]
                          first | (rw [if_pos (by omega)] <;> first | rfl | (exfalso; omega)) | (rw [if_neg (by omega)] <;> first | rfl | assumption | (exfalso; omega))
                        refine l_nil (q_loop (x := (i : Nat)) ((i + 1) : Nat) ⟨by omega, by rw [hI]; exact firstF_step (by omega) hf0, fun _ => by omega⟩ (by omega) (s_start [3, 1] 1 (by kernel_rfl) rfl))
                      | false =>
                        have h13 := of_decide_eq_false h13
                        refine c_if true rfl ?_
                        refine c_seq ?_
                        refine c_region ?_
                        refine JL_run 2 [] [2] 0 ⟨[(2, vI (mOp (x.waits.at i).op))], []⟩ [] [] (by kernel_rfl) on wn ?_
                        refine l_nil (q_then_normal ?_)
                        refine c_ret ?_
                        refine q_block_ret (q_then_ret (q_then_ret (q_block_ret (q_then_ret (q_ret (.inl rfl) [vI (mOp (x.waits.at i).op)] rfl (fun bs w hS => ?_))))))
                        refine ⟨?_, hS.kp⟩
                        simp only [retOf, den, List.map_cons, List.map_nil]
                        have hf : custF x.abs i = mOp (x.waits.at i).op := by
                          unfold custF
                          simp only [hat, ha1, ha2, ha3, ha4]
                          first | (rw [if_pos (by omega)] <;> first | rfl | (exfalso; omega)) | (rw [if_neg (by omega)] <;> first | rfl | assumption | (exfalso; omega))
                        rw [hI, firstF_here (by omega) hf (by first | assumption | omega)]
                | false =>
                  simp only [inB, Bool.and_eq_true, Bool.and_eq_false_iff, decide_eq_true_eq, decide_eq_false_iff_not] at h8
                  refine h_quiet [] 26 [(82, vB true), (81, .v (undef)), (80, .v (undef)), (79, .v (undef)), (78, .v (undef)), (77, .v (undef)), (76, .v (undef)), (75, .v (undef)), (74, .v (undef)), (73, .v (undef)), (72, .v (undef)), (71, .v (undef)), (70, .v (undef)), (69, .v (undef)), (68, .v (undef)), (67, vB true), (66, vB true), (65, .v (undef)), (64, .v (undef)), (63, .v (undef)), (62, .v (undef)), (61, .v (undef)), (60, .v (undef)), (59, .v (undef)), (58, .v (undef)), (57, .v (undef)), (56, vB true), (55, vB true), (54, vB false), (53, vI (x.next - 1)), (52, vI x.next), (51, .p 0 2), (50, vI (x.waits.at i).seq), (49, .p 1 0), (4, .p 1 0), (3, vI ((i : Nat) : Int)), (1, .p 0 0)] [] [] rfl rfl (by kernel_rfl) on wn ?_
                  refine h_nil ?_
                  refine l_nil (q_then_normal ?_)
                  refine c_if true rfl ?_
                  refine c_seq ?_
                  refine c_region ?_
                  refine JL_run 1 [] [2] 0 ⟨[(2, vI 9)], []⟩ [] [] (by kernel_rfl) on wn ?_
                  refine l_nil (q_then_normal ?_)
                  refine c_ret ?_
                  refine q_then_ret (q_block_ret (q_then_ret (q_then_ret (q_block_ret (q_then_ret (q_ret (.inl rfl) [vI 9] rfl (fun bs w hS => ?_)))))))
                  refine ⟨?_, hS.kp⟩
                  simp only [retOf, den, List.map_cons, List.map_nil]
                  have hf : custF x.abs i = 9 := by
                    unfold custF
                    simp only [hat, ha1, ha2, ha3, ha4]
                    first | (rw [if_pos (by omega)] <;> first | rfl | (exfalso; omega)) | (rw [if_neg (by omega)] <;> first | rfl | assumption | (exfalso; omega))
                  rw [hI, firstF_here (by omega) hf (by first | assumption | omega)]
              | false =>
                have h7 := of_decide_eq_false h7
                refine c_if false rfl ?_
                refine c_exit ?_
                refine q_then_exit (q_then_exit (q_block_hit (q_then_normal ?_)))
                refine c_seq ?_
                refine c_region ?_
                refine JL_run 1 [] [2] 0 ⟨[(2, vI 0)], []⟩ [] [] (by kernel_rfl) on wn ?_
                refine l_nil (q_then_normal ?_)
                refine c_ret ?_
                refine q_ret (.inl rfl) [vI 0] rfl (fun bs w hS => ?_)
                refine ⟨?_, hS.kp⟩
                simp only [retOf, den, List.map_cons, List.map_nil]
                rw [hI, firstF_end (by omega)]
          | false =>
            have h5 := of_decide_eq_false h5
            refine JL_run 5 [] [36, 1] 1 ⟨[(36, vB false), (1, .p 0 0)], [⟨24, [vI x.id, vI x.session, vI x.next, .v (.slice x.waits.A x.waits.n x.waits.c)]⟩]⟩ [] [] (by kernel_rfl) on wn ?_
            refine l_nil (q_then_normal ?_)
            refine c_if false rfl ?_
            refine c_skip ?_
            refine q_then_normal ?_
            refine c_seq ?_
            refine c_seq ?_
            refine c_region ?_
            refine JL_run 1 [] [3, 1] 1 ⟨[(3, vI 0), (1, .p 0 0)], [⟨24, [vI x.id, vI x.session, vI x.next, .v (.slice x.waits.A x.waits.n x.waits.c)]⟩]⟩ [] [] (by kernel_rfl) on wn ?_
            refine l_nil (q_then_normal ?_)
            refine c_block ?_
            refine c_loop (σ := Nat) (fun i => i ≤ x.waits.n ∧ mCust x.abs = firstF (custF x.abs) (x.waits.n - i) i ∧ (0 < i → 1 ≤ (x.waits.at 0).seq ∧ (x.waits.at 0).seq < x.next)) (fun i => x.waits.n - i) (fun i => []) (fun i => ⟨[(3, vI ((i : Nat) : Int)), (1, .p 0 0)], [⟨24, [vI x.id, vI x.session, vI x.next, .v (.slice x.waits.A x.waits.n x.waits.c)]⟩]⟩) 0 ⟨Nat.zero_le _, by unfold mCust; simp only [ha1, ha2, ha3, ha4]; rw [if_neg (by omega), if_neg (by omega)], fun h => absurd h (by omega)⟩ (s_start [3, 1] 1 (by kernel_rfl) rfl) ?_
            rintro i ⟨hi, hI, h0⟩
            have hz : i = 0 ∨ (0 < i ∧ 1 ≤ (x.waits.at 0).seq ∧ (x.waits.at 0).seq < x.next) := by rcases Nat.eq_zero_or_pos i with h | h; exact .inl h; exact .inr ⟨h, h0 h⟩
            have hz2 : i = 0 → (x.waits.at i).seq = (x.waits.at 0).seq := fun h => by rw [h]
            refine c_seq ?_
            refine c_seq ?_
            refine c_region ?_
            refine JL_run 5 [] [41, 3, 1] 1 ⟨[(41, vB (decide (((i : Nat) : Int) < ((x.waits.n : Nat) : Int)))), (3, vI ((i : Nat) : Int)), (1, .p 0 0)], [⟨24, [vI x.id, vI x.session, vI x.next, .v (.slice x.waits.A x.waits.n x.waits.c)]⟩]⟩ [] [] (by kernel_rfl) on wn ?_
            refine l_nil (q_then_normal ?_)
            cases h14 : decide (((i : Nat) : Int) < ((x.waits.n : Nat) : Int)) with
            | true =>
              have h14 := of_decide_eq_true h14
              refine c_if true rfl ?_
              refine c_skip ?_
              refine q_then_normal ?_
              refine c_seq ?_
              refine c_block ?_
              refine c_seq ?_
              refine c_region ?_
              refine JL_run 7 [(3, .idx x.waits.ad i), (4, .ext [.int .i64 (x.waits.at i).seq, .int .i64 (x.waits.at i).op.kind, .string (x.waits.at i).op.a, .string (x.waits.at i).op.b, .int .i64 (x.waits.at i).op.n])] [4, 3, 1] 2 ⟨[(4, .p 1 0), (3, vI ((i : Nat) : Int)), (1, .p 0 0)], [⟨24, [vI x.id, vI x.session, vI x.next, .v (.slice x.waits.A x.waits.n x.waits.c)]⟩, ⟨83, [vI (x.waits.at i).seq, vI (x.waits.at i).op.kind, vS (x.waits.at i).op.a, vS (x.waits.at i).op.b, vI (x.waits.at i).op.n]⟩]⟩ [x.waits.A = some x.waits.ad, ((i : Nat) : Int) = ((i : Nat) : Int), i < x.waits.n] [(x.waits.ad.add (i * 5), [.int .i64 (x.waits.at i).seq, .int .i64 (x.waits.at i).op.kind, .string (x.waits.at i).op.a, .string (x.waits.at i).op.b, .int .i64 (x.waits.at i).op.n])] (by kernel_rfl) (oc (Sl.ok.own (s := x.waits) (i := i) okx (by omega)) (oc rfl (oc (by omega) on))) (fun w hk hr => ⟨(Sl.rd.all (s := x.waits) (i := i) (Rds.kp hx hk) (by omega) rfl), trivial⟩) ?_
              refine l_nil (q_then_normal ?_)
              refine c_seq ?_
              refine c_seq ?_
              refine c_draw 34 [(0, false), (1, false), (2, false), (3, false), (4, false), (5, true), (6, false), (7, false), (8, false), (9, false), (10, false), (11, false), (12, false), (13, false), (14, false), (15, false), (16, false), (17, false), (18, false), (19, false), (20, false), (21, false), (22, false), (23, false), (24, false), (25, false), (26, false), (27, false), (28, false), (29, false), (30, false), (31, false), (32, false), (33, false)] [] [] Try_mixed (by kernel_rfl) (pq_then (pq_then (pq_block (pq_then (pq_then (pq_block (pq_then pq_body))))))) (List.Sublist.refl _) ?_
              refine h_quiet [] 5 [(53, vI (x.next - 1)), (52, vI x.next), (51, .p 0 2), (50, vI (x.waits.at i).seq), (49, .p 1 0), (4, .p 1 0), (3, vI ((i : Nat) : Int)), (1, .p 0 0)] [inR (x.next - 1)] [] rfl rfl (by kernel_rfl) (oc (by unfold inR; omega) on) wn ?_
              refine h_pure 68 [] [vI (x.waits.at i).seq, vI 1, vI (x.next - 1)] (.bool (inB (x.waits.at i).seq 1 (x.next - 1))) rfl Try.call68 rfl rfl rfl rfl (fun bs w hS => ref_In _ _ _ w) (fun bs0 bs w hp hl hS => hS.down hp hl rfl (le_same (le_same le_nil)) (List.Sublist.refl _)) ?_
              refine h_quiet [] 2 [(56, vB (!(inB (x.waits.at i).seq 1 (x.next - 1)))), (55, vB (!(inB (x.waits.at i).seq 1 (x.next - 1)))), (54, vB (inB (x.waits.at i).seq 1 (x.next - 1))), (53, vI (x.next - 1)), (52, vI x.next), (51, .p 0 2), (50, vI (x.waits.at i).seq), (49, .p 1 0), (4, .p 1 0), (3, vI ((i : Nat) : Int)), (1, .p 0 0)] [] [] rfl rfl (by kernel_rfl) on wn ?_
              cases h15 : inB (x.waits.at i).seq 1 (x.next - 1) with
              | true =>
                simp only [inB, Bool.and_eq_true, Bool.and_eq_false_iff, decide_eq_true_eq, decide_eq_false_iff_not] at h15
                refine h_quiet [(12, .idx x.waits.ad 0), (14, .ext [.int .i64 (x.waits.at 0).seq])] 11 [(67, vB (decide ((3 : Int) < (x.waits.at i).seq - (x.waits.at 0).seq))), (66, vB (decide ((3 : Int) < (x.waits.at i).seq - (x.waits.at 0).seq))), (65, vB (decide ((3 : Int) < (x.waits.at i).seq - (x.waits.at 0).seq))), (64, vI ((x.waits.at i).seq - (x.waits.at 0).seq)), (63, vI (x.waits.at 0).seq), (62, .v (.pointer (some ((x.waits.ad.add (0 * 5)).add 0)))), (61, .v (.pointer (some (x.waits.ad.add (0 * 5))))), (60, .v (.slice x.waits.A x.waits.n x.waits.c)), (59, .p 0 3), (58, vI (x.waits.at i).seq), (57, .p 1 0), (56, vB false), (55, vB false), (54, vB true), (53, vI (x.next - 1)), (52, vI x.next), (51, .p 0 2), (50, vI (x.waits.at i).seq), (49, .p 1 0), (4, .p 1 0), (3, vI ((i : Nat) : Int)), (1, .p 0 0)] [x.waits.A = some x.waits.ad, (0 : Int) = ((0 : Nat) : Int), 0 < x.waits.n, inR ((x.waits.at i).seq - (x.waits.at 0).seq)] [((x.waits.ad.add (0 * 5)).add 0, [.int .i64 (x.waits.at 0).seq])] rfl rfl (by kernel_rfl) (oc (Sl.ok.own (s := x.waits) (i := 0) okx (by omega)) (oc rfl (oc (by omega) (oc (by unfold inR; omega) on)))) (fun w hk hr => ⟨(Sl.rd.fld (s := x.waits) (i := 0) (Rds.kp hx hk) (by omega) 0 1 rfl), trivial⟩) ?_
                cases h16 : decide ((3 : Int) < (x.waits.at i).seq - (x.waits.at 0).seq) with
                | true =>
                  have h16 := of_decide_eq_true h16
                  refine h_quiet [] 15 [(82, vB true), (81, .v (undef)), (80, .v (undef)), (79, .v (undef)), (78, .v (undef)), (77, .v (undef)), (76, .v (undef)), (75, .v (undef)), (74, .v (undef)), (73, .v (undef)), (72, .v (undef)), (71, .v (undef)), (70, .v (undef)), (69, .v (undef)), (68, .v (undef)), (67, vB true), (66, vB true), (65, vB true), (64, vI ((x.waits.at i).seq - (x.waits.at 0).seq)), (63, vI (x.waits.at 0).seq), (62, .v (.pointer (some ((x.waits.ad.add (0 * 5)).add 0)))), (61, .v (.pointer (some (x.waits.ad.add (0 * 5))))), (60, .v (.slice x.waits.A x.waits.n x.waits.c)), (59, .p 0 3), (58, vI (x.waits.at i).seq), (57, .p 1 0), (56, vB false), (55, vB false), (54, vB true), (53, vI (x.next - 1)), (52, vI x.next), (51, .p 0 2), (50, vI (x.waits.at i).seq), (49, .p 1 0), (4, .p 1 0), (3, vI ((i : Nat) : Int)), (1, .p 0 0)] [] [] rfl rfl (by kernel_rfl) on wn ?_
                  refine h_nil ?_
                  refine l_nil (q_then_normal ?_)
                  refine c_if true rfl ?_
                  refine c_seq ?_
                  refine c_region ?_
                  refine JL_run 1 [] [2] 0 ⟨[(2, vI 9)], []⟩ [] [] (by kernel_rfl) on wn ?_
                  refine l_nil (q_then_normal ?_)
                  refine c_ret ?_
                  refine q_then_ret (q_block_ret (q_then_ret (q_then_ret (q_block_ret (q_then_ret (q_ret (.inl rfl) [vI 9] rfl (fun bs w hS => ?_)))))))
                  refine ⟨?_, hS.kp⟩
                  simp only [retOf, den, List.map_cons, List.map_nil]
                  have hf : custF x.abs i = 9 := by
                    unfold custF
                    simp only [hat, ha1, ha2, ha3, ha4]
                    first | (rw [if_pos (by omega)] <;> first | rfl | (exfalso; omega)) | (rw [if_neg (by omega)] <;> first | rfl | assumption | (exfalso; omega))
                  rw [hI, firstF_here (by omega) hf (by first | assumption | omega)]
                | false =>
                  have h16 := of_decide_eq_false h16
                  refine h_quiet [] 3 [(70, vB (decide ((0 : Int) < ((i : Nat) : Int)))), (69, vB (decide ((0 : Int) < ((i : Nat) : Int)))), (68, vI ((i : Nat) : Int)), (67, vB false), (66, vB false), (65, vB false), (64, vI ((x.waits.at i).seq - (x.waits.at 0).seq)), (63, vI (x.waits.at 0).seq), (62, .v (.pointer (some ((x.waits.ad.add (0 * 5)).add 0)))), (61, .v (.pointer (some (x.waits.ad.add (0 * 5))))), (60, .v (.slice x.waits.A x.waits.n x.waits.c)), (59, .p 0 3), (58, vI (x.waits.at i).seq), (57, .p 1 0), (56, vB false), (55, vB false), (54, vB true), (53, vI (x.next - 1)), (52, vI x.next), (51, .p 0 2), (50, vI (x.waits.at i).seq), (49, .p 1 0), (4, .p 1 0), (3, vI ((i : Nat) : Int)), (1, .p 0 0)] [] [] rfl rfl (by kernel_rfl) on wn ?_
                  cases h17 : decide ((0 : Int) < ((i : Nat) : Int)) with
                  | true =>
                    have h17 := of_decide_eq_true h17
                    refine h_quiet [(28, .idx x.waits.ad (i - 1)), (30, .ext [.int .i64 (x.waits.at (i - 1)).seq])] 12 [(82, vB (decide ((x.waits.at i).seq ≤ (x.waits.at (i - 1)).seq))), (81, vB (decide ((x.waits.at i).seq ≤ (x.waits.at (i - 1)).seq))), (80, vB (decide ((x.waits.at i).seq ≤ (x.waits.at (i - 1)).seq))), (79, vI (x.waits.at (i - 1)).seq), (78, .v (.pointer (some ((x.waits.ad.add ((i - 1) * 5)).add 0)))), (77, .v (.pointer (some (x.waits.ad.add ((i - 1) * 5))))), (76, vI (((i : Nat) : Int) - 1)), (75, vI ((i : Nat) : Int)), (74, .v (.slice x.waits.A x.waits.n x.waits.c)), (73, .p 0 3), (72, vI (x.waits.at i).seq), (71, .p 1 0), (70, vB true), (69, vB true), (68, vI ((i : Nat) : Int)), (67, vB false), (66, vB false), (65, vB false), (64, vI ((x.waits.at i).seq - (x.waits.at 0).seq)), (63, vI (x.waits.at 0).seq), (62, .v (.pointer (some ((x.waits.ad.add (0 * 5)).add 0)))), (61, .v (.pointer (some (x.waits.ad.add (0 * 5))))), (60, .v (.slice x.waits.A x.waits.n x.waits.c)), (59, .p 0 3), (58, vI (x.waits.at i).seq), (57, .p 1 0), (56, vB false), (55, vB false), (54, vB true), (53, vI (x.next - 1)), (52, vI x.next), (51, .p 0 2), (50, vI (x.waits.at i).seq), (49, .p 1 0), (4, .p 1 0), (3, vI ((i : Nat) : Int)), (1, .p 0 0)] [inR (((i : Nat) : Int) - 1), x.waits.A = some x.waits.ad, ((i : Nat) : Int) - 1 = (((i - 1) : Nat) : Int), (i - 1) < x.waits.n] [((x.waits.ad.add ((i - 1) * 5)).add 0, [.int .i64 (x.waits.at (i - 1)).seq])] rfl rfl (by kernel_rfl) (oc (by unfold inR; omega) (oc (Sl.ok.own (s := x.waits) (i := (i - 1)) okx (by omega)) (oc (by omega) (oc (by omega) on)))) (fun w hk hr => ⟨(Sl.rd.fld (s := x.waits) (i := (i - 1)) (Rds.kp hx hk) (by omega) 0 1 rfl), trivial⟩) ?_
                    refine h_nil ?_
                    refine l_nil (q_then_normal ?_)
                    cases h18 : decide ((x.waits.at i).seq ≤ (x.waits.at (i - 1)).seq) with
                    | true =>
                      have h18 := of_decide_eq_true h18
                      refine c_if true rfl ?_
                      refine c_seq ?_
                      refine c_region ?_
                      refine JL_run 1 [] [2] 0 ⟨[(2, vI 9)], []⟩ [] [] (by kernel_rfl) on wn ?_
                      refine l_nil (q_then_normal ?_)
                      refine c_ret ?_
                      refine q_then_ret (q_block_ret (q_then_ret (q_then_ret (q_block_ret (q_then_ret (q_ret (.inl rfl) [vI 9] rfl (fun bs w hS => ?_)))))))
                      refine ⟨?_, hS.kp⟩
                      simp only [retOf, den, List.map_cons, List.map_nil]
                      have hf : custF x.abs i = 9 := by
                        unfold custF
                        simp only [hat, ha1, ha2, ha3, ha4]
                        first | (rw [if_pos (by omega)] <;> first | rfl | (exfalso; omega)) | (rw [if_neg (by omega)] <;> first | rfl | assumption | (exfalso; omega))
                      rw [hI, firstF_here (by omega) hf (by first | assumption | omega)]
                    | false =>
                      have h18 := of_decide_eq_false h18
                      refine c_if false rfl ?_
                      refine c_skip ?_
                      refine q_then_normal ?_
                      refine c_seq ?_
                      refine c_region ?_
                      refine JL_run 2 [] [84, 3, 1] 1 ⟨[(84, .v (.agg #[.int .i64 (x.waits.at i).op.kind, .string (x.waits.at i).op.a, .string (x.waits.at i).op.b, .int .i64 (x.waits.at i).op.n])), (3, vI ((i : Nat) : Int)), (1, .p 0 0)], [⟨24, [vI x.id, vI x.session, vI x.next, .v (.slice x.waits.A x.waits.n x.waits.c)]⟩]⟩ [] [] (by kernel_rfl) on wn ?_
                      refine l_pure 50 [] [.v (.agg #[.int .i64 (x.waits.at i).op.kind, .string (x.waits.at i).op.a, .string (x.waits.at i).op.b, .int .i64 (x.waits.at i).op.n])] (.int .i64 (mOp (x.waits.at i).op)) Try.call50 rfl rfl rfl rfl (fun bs w hS => ref_OpFault (B := anyB) (x.waits.at i).op w ⟨(And.left (Sl.ok.at (s := x.waits) (i := i) okx (by omega))), (And.right (Sl.ok.at (s := x.waits) (i := i) okx (by omega)))⟩) ?_
                      refine JL_run 1 [] [5, 3, 1] 1 ⟨[(5, vI (mOp (x.waits.at i).op)), (3, vI ((i : Nat) : Int)), (1, .p 0 0)], [⟨24, [vI x.id, vI x.session, vI x.next, .v (.slice x.waits.A x.waits.n x.waits.c)]⟩]⟩ [] [] (by kernel_rfl) on wn ?_
                      refine l_nil (q_then_normal ?_)
                      refine c_seq ?_
                      refine c_region ?_
                      refine JL_run 2 [] [87, 5, 3, 1] 1 ⟨[(87, vB (!(decide (mOp (x.waits.at i).op = 0)))), (5, vI (mOp (x.waits.at i).op)), (3, vI ((i : Nat) : Int)), (1, .p 0 0)], [⟨24, [vI x.id, vI x.session, vI x.next, .v (.slice x.waits.A x.waits.n x.waits.c)]⟩]⟩ [] [] (by kernel_rfl) on wn ?_
                      refine l_nil (q_then_normal ?_)
                      cases h19 : decide (mOp (x.waits.at i).op = 0) with
                      | true =>
                        have h19 := of_decide_eq_true h19
                        refine c_if false rfl ?_
                        refine c_skip ?_
                        refine q_block_normal (q_then_normal ?_)
                        refine c_region ?_
                        refine JL_run 3 [] [3, 1] 1 ⟨[(3, vI (((i : Nat) : Int) + 1)), (1, .p 0 0)], [⟨24, [vI x.id, vI x.session, vI x.next, .v (.slice x.waits.A x.waits.n x.waits.c)]⟩]⟩ [inR (((i : Nat) : Int) + 1)] [] (by kernel_rfl) (oc (by unfold inR; omega) on) wn ?_
                        have hf0 : custF x.abs i = 0 := by
                          unfold custF
                          simp only [hat, ha1, ha2, ha3, ha4]
                          first | (rw [if_pos (by omega)] <;> first | rfl | (exfalso; omega)) | (rw [if_neg (by omega)] <;> first | rfl | assumption | (exfalso; omega))
                        refine l_nil (q_loop (x := (i : Nat)) ((i + 1) : Nat) ⟨by omega, by rw [hI]; exact firstF_step (by omega) hf0, fun _ => by omega⟩ (by omega) (s_start [3, 1] 1 (by kernel_rfl) rfl))
                      | false =>
                        have h19 := of_decide_eq_false h19
                        refine c_if true rfl ?_
                        refine c_seq ?_
                        refine c_region ?_
                        refine JL_run 2 [] [2] 0 ⟨[(2, vI (mOp (x.waits.at i).op))], []⟩ [] [] (by kernel_rfl) on wn ?_
                        refine l_nil (q_then_normal ?_)
                        refine c_ret ?_
                        refine q_block_ret (q_then_ret (q_then_ret (q_block_ret (q_then_ret (q_ret (.inl rfl) [vI (mOp (x.waits.at i).op)] rfl (fun bs w hS => ?_))))))
                        refine ⟨?_, hS.kp⟩
                        simp only [retOf, den, List.map_cons, List.map_nil]
                        have hf : custF x.abs i = mOp (x.waits.at i).op := by
                          unfold custF
                          simp only [hat, ha1, ha2, ha3, ha4]
                          first | (rw [if_pos (by omega)] <;> first | rfl | (exfalso; omega)) | (rw [if_neg (by omega)] <;> first | rfl | assumption | (exfalso; omega))
                        rw [hI, firstF_here (by omega) hf (by first | assumption | omega)]
                  | false =>
                    have h17 := of_decide_eq_false h17
                    refine h_quiet [] 12 [(82, vB false), (81, vB false), (80, .v (undef)), (79, .v (undef)), (78, .v (undef)), (77, .v (undef)), (76, .v (undef)), (75, .v (undef)), (74, .v (undef)), (73, .v (undef)), (72, .v (undef)), (71, .v (undef)), (70, vB false), (69, vB false), (68, vI ((i : Nat) : Int)), (67, vB false), (66, vB false), (65, vB false), (64, vI ((x.waits.at i).seq - (x.waits.at 0).seq)), (63, vI (x.waits.at 0).seq), (62, .v (.pointer (some ((x.waits.ad.add (0 * 5)).add 0)))), (61, .v (.pointer (some (x.waits.ad.add (0 * 5))))), (60, .v (.slice x.waits.A x.waits.n x.waits.c)), (59, .p 0 3), (58, vI (x.waits.at i).seq), (57, .p 1 0), (56, vB false), (55, vB false), (54, vB true), (53, vI (x.next - 1)), (52, vI x.next), (51, .p 0 2), (50, vI (x.waits.at i).seq), (49, .p 1 0), (4, .p 1 0), (3, vI ((i : Nat) : Int)), (1, .p 0 0)] [] [] rfl rfl (by kernel_rfl) on wn ?_
                    refine h_nil ?_
                    refine l_nil (q_then_normal ?_)
                    refine c_if false rfl ?_
                    refine c_skip ?_
                    refine q_then_normal ?_
                    refine c_seq ?_
                    refine c_region ?_
                    refine JL_run 2 [] [84, 3, 1] 1 ⟨[(84, .v (.agg #[.int .i64 (x.waits.at i).op.kind, .string (x.waits.at i).op.a, .string (x.waits.at i).op.b, .int .i64 (x.waits.at i).op.n])), (3, vI ((i : Nat) : Int)), (1, .p 0 0)], [⟨24, [vI x.id, vI x.session, vI x.next, .v (.slice x.waits.A x.waits.n x.waits.c)]⟩]⟩ [] [] (by kernel_rfl) on wn ?_
                    refine l_pure 50 [] [.v (.agg #[.int .i64 (x.waits.at i).op.kind, .string (x.waits.at i).op.a, .string (x.waits.at i).op.b, .int .i64 (x.waits.at i).op.n])] (.int .i64 (mOp (x.waits.at i).op)) Try.call50 rfl rfl rfl rfl (fun bs w hS => ref_OpFault (B := anyB) (x.waits.at i).op w ⟨(And.left (Sl.ok.at (s := x.waits) (i := i) okx (by omega))), (And.right (Sl.ok.at (s := x.waits) (i := i) okx (by omega)))⟩) ?_
                    refine JL_run 1 [] [5, 3, 1] 1 ⟨[(5, vI (mOp (x.waits.at i).op)), (3, vI ((i : Nat) : Int)), (1, .p 0 0)], [⟨24, [vI x.id, vI x.session, vI x.next, .v (.slice x.waits.A x.waits.n x.waits.c)]⟩]⟩ [] [] (by kernel_rfl) on wn ?_
                    refine l_nil (q_then_normal ?_)
                    refine c_seq ?_
                    refine c_region ?_
                    refine JL_run 2 [] [87, 5, 3, 1] 1 ⟨[(87, vB (!(decide (mOp (x.waits.at i).op = 0)))), (5, vI (mOp (x.waits.at i).op)), (3, vI ((i : Nat) : Int)), (1, .p 0 0)], [⟨24, [vI x.id, vI x.session, vI x.next, .v (.slice x.waits.A x.waits.n x.waits.c)]⟩]⟩ [] [] (by kernel_rfl) on wn ?_
                    refine l_nil (q_then_normal ?_)
                    cases h20 : decide (mOp (x.waits.at i).op = 0) with
                    | true =>
                      have h20 := of_decide_eq_true h20
                      refine c_if false rfl ?_
                      refine c_skip ?_
                      refine q_block_normal (q_then_normal ?_)
                      refine c_region ?_
                      refine JL_run 3 [] [3, 1] 1 ⟨[(3, vI (((i : Nat) : Int) + 1)), (1, .p 0 0)], [⟨24, [vI x.id, vI x.session, vI x.next, .v (.slice x.waits.A x.waits.n x.waits.c)]⟩]⟩ [inR (((i : Nat) : Int) + 1)] [] (by kernel_rfl) (oc (by unfold inR; omega) on) wn ?_
                      have hf0 : custF x.abs i = 0 := by
                        unfold custF
                        simp only [hat, ha1, ha2, ha3, ha4]
                        first | (rw [if_pos (by omega)] <;> first | rfl | (exfalso; omega)) | (rw [if_neg (by omega)] <;> first | rfl | assumption | (exfalso; omega))
                      refine l_nil (q_loop (x := (i : Nat)) ((i + 1) : Nat) ⟨by omega, by rw [hI]; exact firstF_step (by omega) hf0, fun _ => by omega⟩ (by omega) (s_start [3, 1] 1 (by kernel_rfl) rfl))
                    | false =>
                      have h20 := of_decide_eq_false h20
                      refine c_if true rfl ?_
                      refine c_seq ?_
                      refine c_region ?_
                      refine JL_run 2 [] [2] 0 ⟨[(2, vI (mOp (x.waits.at i).op))], []⟩ [] [] (by kernel_rfl) on wn ?_
                      refine l_nil (q_then_normal ?_)
                      refine c_ret ?_
                      refine q_block_ret (q_then_ret (q_then_ret (q_block_ret (q_then_ret (q_ret (.inl rfl) [vI (mOp (x.waits.at i).op)] rfl (fun bs w hS => ?_))))))
                      refine ⟨?_, hS.kp⟩
                      simp only [retOf, den, List.map_cons, List.map_nil]
                      have hf : custF x.abs i = mOp (x.waits.at i).op := by
                        unfold custF
                        simp only [hat, ha1, ha2, ha3, ha4]
                        first | (rw [if_pos (by omega)] <;> first | rfl | (exfalso; omega)) | (rw [if_neg (by omega)] <;> first | rfl | assumption | (exfalso; omega))
                      rw [hI, firstF_here (by omega) hf (by first | assumption | omega)]
              | false =>
                simp only [inB, Bool.and_eq_true, Bool.and_eq_false_iff, decide_eq_true_eq, decide_eq_false_iff_not] at h15
                refine h_quiet [] 26 [(82, vB true), (81, .v (undef)), (80, .v (undef)), (79, .v (undef)), (78, .v (undef)), (77, .v (undef)), (76, .v (undef)), (75, .v (undef)), (74, .v (undef)), (73, .v (undef)), (72, .v (undef)), (71, .v (undef)), (70, .v (undef)), (69, .v (undef)), (68, .v (undef)), (67, vB true), (66, vB true), (65, .v (undef)), (64, .v (undef)), (63, .v (undef)), (62, .v (undef)), (61, .v (undef)), (60, .v (undef)), (59, .v (undef)), (58, .v (undef)), (57, .v (undef)), (56, vB true), (55, vB true), (54, vB false), (53, vI (x.next - 1)), (52, vI x.next), (51, .p 0 2), (50, vI (x.waits.at i).seq), (49, .p 1 0), (4, .p 1 0), (3, vI ((i : Nat) : Int)), (1, .p 0 0)] [] [] rfl rfl (by kernel_rfl) on wn ?_
                refine h_nil ?_
                refine l_nil (q_then_normal ?_)
                refine c_if true rfl ?_
                refine c_seq ?_
                refine c_region ?_
                refine JL_run 1 [] [2] 0 ⟨[(2, vI 9)], []⟩ [] [] (by kernel_rfl) on wn ?_
                refine l_nil (q_then_normal ?_)
                refine c_ret ?_
                refine q_then_ret (q_block_ret (q_then_ret (q_then_ret (q_block_ret (q_then_ret (q_ret (.inl rfl) [vI 9] rfl (fun bs w hS => ?_)))))))
                refine ⟨?_, hS.kp⟩
                simp only [retOf, den, List.map_cons, List.map_nil]
                have hf : custF x.abs i = 9 := by
                  unfold custF
                  simp only [hat, ha1, ha2, ha3, ha4]
                  first | (rw [if_pos (by omega)] <;> first | rfl | (exfalso; omega)) | (rw [if_neg (by omega)] <;> first | rfl | assumption | (exfalso; omega))
                rw [hI, firstF_here (by omega) hf (by first | assumption | omega)]
            | false =>
              have h14 := of_decide_eq_false h14
              refine c_if false rfl ?_
              refine c_exit ?_
              refine q_then_exit (q_then_exit (q_block_hit (q_then_normal ?_)))
              refine c_seq ?_
              refine c_region ?_
              refine JL_run 1 [] [2] 0 ⟨[(2, vI 0)], []⟩ [] [] (by kernel_rfl) on wn ?_
              refine l_nil (q_then_normal ?_)
              refine c_ret ?_
              refine q_ret (.inl rfl) [vI 0] rfl (fun bs w hS => ?_)
              refine ⟨?_, hS.kp⟩
              simp only [retOf, den, List.map_cons, List.map_nil]
              rw [hI, firstF_end (by omega)]
      | false =>
        simp only [inB, Bool.and_eq_true, Bool.and_eq_false_iff, decide_eq_true_eq, decide_eq_false_iff_not] at h3
        refine c_if true rfl ?_
        refine c_seq ?_
        refine c_region ?_
        refine JL_run 1 [] [2] 0 ⟨[(2, vI 2)], []⟩ [] [] (by kernel_rfl) on wn ?_
        refine l_nil (q_then_normal ?_)
        refine c_ret ?_
        refine q_then_ret (q_ret (.inl rfl) [vI 2] rfl (fun bs w hS => ?_))
        refine ⟨?_, hS.kp⟩
        simp only [retOf, den, List.map_cons, List.map_nil]
        have hm : mCust x.abs = 2 := by
          unfold mCust; simp only [ha1, ha2, ha3, ha4]; rw [if_pos (by omega)]
        rw [hm]
    | false =>
      simp only [inB, Bool.and_eq_true, Bool.and_eq_false_iff, decide_eq_true_eq, decide_eq_false_iff_not] at h2
      refine JL_run 5 [] [21, 1] 1 ⟨[(21, vB true), (1, .p 0 0)], [⟨24, [vI x.id, vI x.session, vI x.next, .v (.slice x.waits.A x.waits.n x.waits.c)]⟩]⟩ [] [] (by kernel_rfl) on wn ?_
      refine l_nil (q_then_normal ?_)
      refine c_if true rfl ?_
      refine c_seq ?_
      refine c_region ?_
      refine JL_run 1 [] [2] 0 ⟨[(2, vI 2)], []⟩ [] [] (by kernel_rfl) on wn ?_
      refine l_nil (q_then_normal ?_)
      refine c_ret ?_
      refine q_then_ret (q_ret (.inl rfl) [vI 2] rfl (fun bs w hS => ?_))
      refine ⟨?_, hS.kp⟩
      simp only [retOf, den, List.map_cons, List.map_nil]
      have hm : mCust x.abs = 2 := by
        unfold mCust; simp only [ha1, ha2, ha3, ha4]; rw [if_pos (by omega)]
      rw [hm]
  | false =>
    simp only [inB, Bool.and_eq_true, Bool.and_eq_false_iff, decide_eq_true_eq, decide_eq_false_iff_not] at h1
    refine JL_run 11 [] [21, 1] 1 ⟨[(21, vB true), (1, .p 0 0)], [⟨24, [vI x.id, vI x.session, vI x.next, .v (.slice x.waits.A x.waits.n x.waits.c)]⟩]⟩ [] [] (by kernel_rfl) on wn ?_
    refine l_nil (q_then_normal ?_)
    refine c_if true rfl ?_
    refine c_seq ?_
    refine c_region ?_
    refine JL_run 1 [] [2] 0 ⟨[(2, vI 2)], []⟩ [] [] (by kernel_rfl) on wn ?_
    refine l_nil (q_then_normal ?_)
    refine c_ret ?_
    refine q_then_ret (q_ret (.inl rfl) [vI 2] rfl (fun bs w hS => ?_))
    refine ⟨?_, hS.kp⟩
    simp only [retOf, den, List.map_cons, List.map_nil]
    have hm : mCust x.abs = 2 := by
      unfold mCust; simp only [ha1, ha2, ha3, ha4]; rw [if_pos (by omega)]
    rw [hm]

theorem clone_Wait {B : Nat → Prop} (s : Sl DWait) (w : World) (hs : s.rd B w) (hb : s.n ≤ 1048576) : Calls Try.prog 93 #[.slice s.A s.n s.c] w fun e w' => ∃ y : Sl DWait, e = .returned y.val ∧ y.xs = s.xs ∧ Kp [] w w' ∧ Fresh w w' (rowA 83 y.A y.c y.xs) := by
  have oks := Sl.rd.ok hs
  have ncs := Sl.ok.nc oks
  have hns : s.n = s.xs.length := rfl
  refine calls_J0 8 Try.func93 rfl rfl [.slice s.A s.n s.c] rfl ?_
  refine c_seq ?_
  refine c_region ?_
  refine JL_run 1 [] [0] 0 ⟨[(0, .v (.slice s.A s.n s.c))], []⟩ [] [] (by kernel_rfl) on wn ?_
  refine l_nil (q_then_normal ?_)
  refine c_seq ?_
  refine c_seq ?_
  refine c_region ?_
  refine JL_run 2 [(1, .val (.bool s.A.isNone))] [4, 0] 0 ⟨[(4, vB s.A.isNone), (0, .v (.slice s.A s.n s.c))], []⟩ [∀ w, (do eqGuard .eql 22 (.tmp 3) (.const (.slice none 0 0)) (.slice s.A s.n s.c) (.slice none 0 0); binOp .eql 22 (.slice s.A s.n s.c) (.slice none 0 0) : Sem Value).run Try.prog w = .ok (.bool s.A.isNone) w] [] (by kernel_rfl) (oc (eq_nil Try.underlying22) on) wn ?_
  refine l_nil (q_then_normal ?_)
  cases h1 : s.A.isNone with
  | true =>
    refine c_if true rfl ?_
    refine c_seq ?_
    refine c_region ?_
    refine JL_run 1 [] [2] 0 ⟨[(2, .v (.slice none 0 0))], []⟩ [] [] (by kernel_rfl) on wn ?_
    refine l_nil (q_then_normal ?_)
    refine c_ret ?_
    refine q_then_ret (q_ret (.inl rfl) [.v (.slice none 0 0)] rfl (fun bs w hS => ?_))
    have hnil : s.xs = [] := Sl.ok.empty oks (by cases h : s.A <;> simp_all)
    exact ⟨Sl.nil, rfl, hnil.symm, hS.kp, rowA_nil 83 w⟩
  | false =>
    refine c_if false rfl ?_
    refine c_skip ?_
    refine q_then_normal ?_
    refine c_seq ?_
    refine c_region ?_
    refine l_row0A (α := DWait) 83 Try.underlying22 (by kernel_rfl) (by kernel_rfl) (by kernel_rfl) rfl ?_
    intro A1
    refine JL_run 1 [] [6, 5] 0 ⟨[(6, .v (.slice s.A s.n s.c)), (5, .v (.slice A1 ([] : List DWait).length 0))], []⟩ [] [] (by kernel_rfl) on wn ?_
    refine l_appendA (α := DWait) 83 56 A1 0 ([]) (.v (.slice s.A s.n s.c)) (s.xs) Try.underlying22 (by kernel_rfl) rfl rfl rfl (fun bs w hS => ⟨_, _, rfl, Sl.rd.src (s := s) (Sl.rd.kp hs hS.kp)⟩) (by simp only [List.length_nil]; omega) (by simp only [List.length_nil]; omega) ?_
    intro A2 c2
    refine JL_run 1 [] [2] 0 ⟨[(2, .v (.slice A2 ([] ++ s.xs).length c2))], []⟩ [] [] (by kernel_rfl) on wn ?_
    refine l_nil (q_then_normal ?_)
    refine c_ret ?_
    refine q_ret (.inl rfl) [.v (.slice A2 ([] ++ s.xs).length c2)] rfl (fun bs w hS => ?_)
    exact ⟨⟨A2, c2, [] ++ s.xs⟩, rfl, by simp, hS.kp, hS.out1⟩

theorem customer_CopyR {B : Nat → Prop} (x : CCustomer) (w : World) (hx : Rds.sub B w x) (hb : x.waits.n ≤ 1048576) : Calls Try.prog 48 #[.agg #[.int .i64 x.id, .int .i64 x.session, .int .i64 x.next, .slice x.waits.A x.waits.n x.waits.c]] w fun e w' => ∃ y : Sl DWait, e = .returned (.agg #[.int .i64 x.id, .int .i64 x.session, .int .i64 x.next, .slice y.A y.n y.c]) ∧ y.xs = x.waits.xs ∧ Kp [] w w' ∧ Fresh w w' (rowA 83 y.A y.c y.xs) := by
  have hat : ∀ q, x.abs.waits.getD q default = x.waits.at q := fun _ => rfl
  have ha1 : x.abs.id = x.id := rfl
  have ha2 : x.abs.session = x.session := rfl
  have ha3 : x.abs.next = x.next := rfl
  have ha4 : x.abs.waits.length = x.waits.n := rfl
  have okx := Rds.okof hx
  have ncx := Sl.ok.nc okx
  have hnx : x.waits.n = x.waits.xs.length := rfl
  refine calls_J0 8 Try.func48 rfl rfl [.agg #[.int .i64 x.id, .int .i64 x.session, .int .i64 x.next, .slice x.waits.A x.waits.n x.waits.c]] rfl ?_
  refine c_seq ?_
  refine c_region ?_
  refine JL_run 2 [] [2, 1] 2 ⟨[(2, .p 1 0), (1, .p 0 0)], [⟨24, [vI x.id, vI x.session, vI x.next, .v (.slice x.waits.A x.waits.n x.waits.c)]⟩, ⟨24, [vI 0, vI 0, vI 0, .v (.slice none 0 0)]⟩]⟩ [] [] (by kernel_rfl) on wn ?_
  refine l_nil (q_then_normal ?_)
  refine c_seq ?_
  refine c_region ?_
  refine JL_run 2 [] [4, 2, 1] 2 ⟨[(4, .v (.slice x.waits.A x.waits.n x.waits.c)), (2, .p 1 0), (1, .p 0 0)], [⟨24, [vI x.id, vI x.session, vI x.next, .v (.slice x.waits.A x.waits.n x.waits.c)]⟩, ⟨24, [vI 0, vI 0, vI 0, .v (.slice none 0 0)]⟩]⟩ [] [] (by kernel_rfl) on wn ?_
  refine l_freshF (σ := Sl DWait) 93 [] [.v (.slice x.waits.A x.waits.n x.waits.c)] (fun y1 => .slice y1.A y1.n y1.c) (fun y1 => y1.xs = x.waits.xs) (fun y1 => rowA 83 y1.A y1.c (y1.xs : List DWait)) Try.call93 rfl rfl rfl rfl (fun bs w hS => clone_Wait x.waits w (Rds.kp hx hS.kp) hb) ?_
  rintro y1 hF1
  refine JL_run 2 [] [2, 1] 2 ⟨[(2, .p 1 0), (1, .p 0 0)], [⟨24, [vI x.id, vI x.session, vI x.next, .v (.slice y1.A y1.n y1.c)]⟩, ⟨24, [vI 0, vI 0, vI 0, .v (.slice none 0 0)]⟩]⟩ [] [] (by kernel_rfl) on wn ?_
  refine l_nil (q_then_normal ?_)
  refine c_seq ?_
  refine c_region ?_
  refine JL_run 2 [] [2] 2 ⟨[(2, .p 1 0)], [⟨24, [vI x.id, vI x.session, vI x.next, .v (.slice y1.A y1.n y1.c)]⟩, ⟨24, [vI x.id, vI x.session, vI x.next, .v (.slice y1.A y1.n y1.c)]⟩]⟩ [] [] (by kernel_rfl) on wn ?_
  refine l_nil (q_then_normal ?_)
  refine c_ret ?_
  refine q_ret (.inl rfl) [.v (.agg #[.int .i64 x.id, .int .i64 x.session, .int .i64 x.next, .slice y1.A y1.n y1.c])] rfl (fun bs w hS => ?_)
  exact ⟨y1, rfl, hF1, hS.kp, hS.out1⟩
theorem customer_Copy {B : Nat → Prop} (x : CCustomer) (w : World) (hx : Rds.sub B w x) (hb : x.waits.n ≤ 1048576) : Calls Try.prog 48 #[.agg #[.int .i64 x.id, .int .i64 x.session, .int .i64 x.next, .slice x.waits.A x.waits.n x.waits.c]] w fun e w' => ∃ y : CCustomer, e = .returned (y.val) ∧ y.abs = x.abs ∧ FreshS w w' y :=
  (customer_CopyR x w hx hb).mono fun e w' ⟨y, h1, h2, h3, h4⟩ => ⟨⟨x.id, x.session, x.next, y⟩, h1, by simp [CCustomer.abs, h2], h3, h4.sub fun hp => rowA_rd hp (fun b hb => hb) fun z hz => Sl.rd.mem (s := x.waits) hx z (h2 ▸ hz)⟩

theorem ref_CustomerCopyR {B : Nat → Prop} (x : CCustomer) (w : World) (hx : Rds.sub B w x) (hb : x.waits.n ≤ 1048576) : Calls Try.prog 15 #[.agg #[.int .i64 x.id, .int .i64 x.session, .int .i64 x.next, .slice x.waits.A x.waits.n x.waits.c]] w fun e w' => ∃ y : Sl DWait, e = .returned (.agg #[.int .i64 x.id, .int .i64 x.session, .int .i64 x.next, .slice y.A y.n y.c]) ∧ y.xs = x.waits.xs ∧ Kp [] w w' ∧ Fresh w w' (rowA 83 y.A y.c y.xs) := by
  have hat : ∀ q, x.abs.waits.getD q default = x.waits.at q := fun _ => rfl
  have ha1 : x.abs.id = x.id := rfl
  have ha2 : x.abs.session = x.session := rfl
  have ha3 : x.abs.next = x.next := rfl
  have ha4 : x.abs.waits.length = x.waits.n := rfl
  have okx := Rds.okof hx
  have ncx := Sl.ok.nc okx
  have hnx : x.waits.n = x.waits.xs.length := rfl
  refine calls_J0 13 Try.func15 rfl rfl [.agg #[.int .i64 x.id, .int .i64 x.session, .int .i64 x.next, .slice x.waits.A x.waits.n x.waits.c]] rfl ?_
  refine c_seq ?_
  refine c_region ?_
  refine JL_run 2 [] [2, 1] 2 ⟨[(2, .p 1 0), (1, .p 0 0)], [⟨24, [vI x.id, vI x.session, vI x.next, .v (.slice x.waits.A x.waits.n x.waits.c)]⟩, ⟨24, [vI 0, vI 0, vI 0, .v (.slice none 0 0)]⟩]⟩ [] [] (by kernel_rfl) on wn ?_
  refine l_nil (q_then_normal ?_)
  refine c_seq ?_
  refine c_draw 10 [(0, false), (1, false), (2, false), (3, false), (4, false), (5, false), (6, false), (7, false), (8, true), (9, false)] [] [] Try_mixed (by kernel_rfl) (pq_then pq_body) (List.Sublist.refl _) ?_
  refine h_quiet [] 8 [(10, .v (.slice x.waits.A x.waits.n x.waits.c)), (9, .p 0 3), (8, vI x.next), (7, .p 0 2), (6, vI x.session), (5, .p 0 1), (4, vI x.id), (3, .p 0 0), (2, .p 1 0), (1, .p 0 0)] [] [] rfl rfl (by kernel_rfl) on wn ?_
  refine h_rowA (α := DWait) 83 ?_
  refine h_appendA (α := DWait) 83 56 none 0 [] (.v (.slice x.waits.A x.waits.n x.waits.c)) (x.waits.xs) rfl Try.underlying22 (by kernel_rfl) rfl rfl rfl rfl (fun bs w hS => ⟨_, _, rfl, Sl.rd.src (s := x.waits) (Rds.kp hx hS.kp)⟩) (by simp only [List.length_nil]; omega) (by simp only [List.length_nil]; omega) (fun bs0 bs A2 c2 w hp hl hS => hS.down hp hl rfl (le_same (le_same le_nil)) (.cons _ (List.Sublist.refl _))) ?_
  intro A1 c1
  refine h_quiet [] 1 [(12, .v (.agg #[.int .i64 x.id, .int .i64 x.session, .int .i64 x.next, .slice A1 ([] ++ x.waits.xs).length c1])), (11, .v (.slice A1 ([] ++ x.waits.xs).length c1)), (10, .v (.slice x.waits.A x.waits.n x.waits.c)), (9, .p 0 3), (8, vI x.next), (7, .p 0 2), (6, vI x.session), (5, .p 0 1), (4, vI x.id), (3, .p 0 0), (2, .p 1 0), (1, .p 0 0)] [] [] rfl rfl (by kernel_rfl) on wn ?_
  refine h_nil ?_
  refine JL_run 1 [] [2] 2 ⟨[(2, .p 1 0)], [⟨24, [vI x.id, vI x.session, vI x.next, .v (.slice x.waits.A x.waits.n x.waits.c)]⟩, ⟨24, [vI x.id, vI x.session, vI x.next, .v (.slice A1 ([] ++ x.waits.xs).length c1)]⟩]⟩ [] [] (by kernel_rfl) on wn ?_
  refine l_nil (q_then_normal ?_)
  refine c_ret ?_
  refine q_ret (.inl rfl) [.v (.agg #[.int .i64 x.id, .int .i64 x.session, .int .i64 x.next, .slice A1 ([] ++ x.waits.xs).length c1])] rfl (fun bs w hS => ?_)
  exact ⟨⟨A1, c1, [] ++ x.waits.xs⟩, rfl, by simp, hS.kp, hS.out1⟩
theorem ref_CustomerCopy {B : Nat → Prop} (x : CCustomer) (w : World) (hx : Rds.sub B w x) (hb : x.waits.n ≤ 1048576) : Calls Try.prog 15 #[.agg #[.int .i64 x.id, .int .i64 x.session, .int .i64 x.next, .slice x.waits.A x.waits.n x.waits.c]] w fun e w' => ∃ y : CCustomer, e = .returned (y.val) ∧ y.abs = x.abs ∧ FreshS w w' y :=
  (ref_CustomerCopyR x w hx hb).mono fun e w' ⟨y, h1, h2, h3, h4⟩ => ⟨⟨x.id, x.session, x.next, y⟩, h1, by simp [CCustomer.abs, h2], h3, h4.sub fun hp => rowA_rd hp (fun b hb => hb) fun z hz => Sl.rd.mem (s := x.waits) hx z (h2 ▸ hz)⟩

theorem same_customer {B B' : Nat → Prop} (a b : CCustomer) (w : World) (ha : Rds.sub B w a) (hb : Rds.sub B' w b) (he : a.abs = b.abs) : Calls Try.prog 18 #[.agg #[.int .i64 a.id, .int .i64 a.session, .int .i64 a.next, .slice a.waits.A a.waits.n a.waits.c], .agg #[.int .i64 b.id, .int .i64 b.session, .int .i64 b.next, .slice b.waits.A b.waits.n b.waits.c]] w fun e w' => e = .returned (.bool true) ∧ Kp [] w w' := by
  have oka := Rds.okof ha
  have okb := Rds.okof hb
  have hw : a.waits.xs = b.waits.xs := congrArg DCustomer.waits he
  have hwn := xs_n hw
  have h1 : a.id = b.id := congrArg DCustomer.id he
  have h2 : a.session = b.session := congrArg DCustomer.session he
  have h3 : a.next = b.next := congrArg DCustomer.next he
  have nca := Sl.ok.nc oka
  refine calls_J0 52 Try.func18 rfl rfl [.agg #[.int .i64 a.id, .int .i64 a.session, .int .i64 a.next, .slice a.waits.A a.waits.n a.waits.c], .agg #[.int .i64 b.id, .int .i64 b.session, .int .i64 b.next, .slice b.waits.A b.waits.n b.waits.c]] rfl ?_
  refine c_seq ?_
  refine c_region ?_
  refine JL_run 3 [] [3, 2] 2 ⟨[(3, .p 1 0), (2, .p 0 0)], [⟨24, [vI a.id, vI a.session, vI a.next, .v (.slice a.waits.A a.waits.n a.waits.c)]⟩, ⟨24, [vI b.id, vI b.session, vI b.next, .v (.slice b.waits.A b.waits.n b.waits.c)]⟩]⟩ [] [] (by kernel_rfl) on wn ?_
  refine l_nil (q_then_normal ?_)
  refine c_seq ?_
  refine c_seq ?_
  refine c_region ?_
  refine JL_run 6 [] [11, 3, 2] 2 ⟨[(11, vB (!(decide (a.id = b.id)))), (3, .p 1 0), (2, .p 0 0)], [⟨24, [vI a.id, vI a.session, vI a.next, .v (.slice a.waits.A a.waits.n a.waits.c)]⟩, ⟨24, [vI b.id, vI b.session, vI b.next, .v (.slice b.waits.A b.waits.n b.waits.c)]⟩]⟩ [] [] (by kernel_rfl) on wn ?_
  cases h11 : decide (a.id = b.id) with
  | true =>
    have h11 := of_decide_eq_true h11
    refine JL_run 7 [] [18, 3, 2] 2 ⟨[(18, vB (!(decide (a.session = b.session)))), (3, .p 1 0), (2, .p 0 0)], [⟨24, [vI a.id, vI a.session, vI a.next, .v (.slice a.waits.A a.waits.n a.waits.c)]⟩, ⟨24, [vI b.id, vI b.session, vI b.next, .v (.slice b.waits.A b.waits.n b.waits.c)]⟩]⟩ [] [] (by kernel_rfl) on wn ?_
    cases h12 : decide (a.session = b.session) with
    | true =>
      have h12 := of_decide_eq_true h12
      refine JL_run 7 [] [25, 3, 2] 2 ⟨[(25, vB (!(decide (a.next = b.next)))), (3, .p 1 0), (2, .p 0 0)], [⟨24, [vI a.id, vI a.session, vI a.next, .v (.slice a.waits.A a.waits.n a.waits.c)]⟩, ⟨24, [vI b.id, vI b.session, vI b.next, .v (.slice b.waits.A b.waits.n b.waits.c)]⟩]⟩ [] [] (by kernel_rfl) on wn ?_
      cases h13 : decide (a.next = b.next) with
      | true =>
        have h13 := of_decide_eq_true h13
        refine JL_run 8 [] [33, 3, 2] 2 ⟨[(33, vB (!(decide (((a.waits.n : Nat) : Int) = ((b.waits.n : Nat) : Int))))), (3, .p 1 0), (2, .p 0 0)], [⟨24, [vI a.id, vI a.session, vI a.next, .v (.slice a.waits.A a.waits.n a.waits.c)]⟩, ⟨24, [vI b.id, vI b.session, vI b.next, .v (.slice b.waits.A b.waits.n b.waits.c)]⟩]⟩ [] [] (by kernel_rfl) on wn ?_
        refine l_nil (q_then_normal ?_)
        cases h14 : decide (((a.waits.n : Nat) : Int) = ((b.waits.n : Nat) : Int)) with
        | true =>
          have h14 := of_decide_eq_true h14
          refine c_if false rfl ?_
          refine c_skip ?_
          refine q_then_normal ?_
          refine c_seq ?_
          refine c_seq ?_
          refine c_region ?_
          refine JL_run 1 [] [5, 3, 2] 2 ⟨[(5, vI 0), (3, .p 1 0), (2, .p 0 0)], [⟨24, [vI a.id, vI a.session, vI a.next, .v (.slice a.waits.A a.waits.n a.waits.c)]⟩, ⟨24, [vI b.id, vI b.session, vI b.next, .v (.slice b.waits.A b.waits.n b.waits.c)]⟩]⟩ [] [] (by kernel_rfl) on wn ?_
          refine l_nil (q_then_normal ?_)
          refine c_block ?_
          refine c_loop (σ := Nat) (fun i => True) (fun i => a.waits.n - i) (fun i => []) (fun i => ⟨[(5, vI ((i : Nat) : Int)), (3, .p 1 0), (2, .p 0 0)], [⟨24, [vI a.id, vI a.session, vI a.next, .v (.slice a.waits.A a.waits.n a.waits.c)]⟩, ⟨24, [vI b.id, vI b.session, vI b.next, .v (.slice b.waits.A b.waits.n b.waits.c)]⟩]⟩) 0 trivial (s_start [5, 3, 2] 2 (by kernel_rfl) rfl) ?_
          rintro i _
          have hat := xs_at hw i
          refine c_seq ?_
          refine c_seq ?_
          refine c_region ?_
          refine JL_run 5 [] [38, 5, 3, 2] 2 ⟨[(38, vB (decide (((i : Nat) : Int) < ((a.waits.n : Nat) : Int)))), (5, vI ((i : Nat) : Int)), (3, .p 1 0), (2, .p 0 0)], [⟨24, [vI a.id, vI a.session, vI a.next, .v (.slice a.waits.A a.waits.n a.waits.c)]⟩, ⟨24, [vI b.id, vI b.session, vI b.next, .v (.slice b.waits.A b.waits.n b.waits.c)]⟩]⟩ [] [] (by kernel_rfl) on wn ?_
          refine l_nil (q_then_normal ?_)
          cases h15 : decide (((i : Nat) : Int) < ((a.waits.n : Nat) : Int)) with
          | true =>
            have h15 := of_decide_eq_true h15
            refine c_if true rfl ?_
            refine c_skip ?_
            refine q_then_normal ?_
            refine c_seq ?_
            refine c_block ?_
            refine c_seq ?_
            refine c_draw 11 [(0, false), (1, false), (2, false), (3, false), (4, false), (5, false), (6, false), (7, false), (8, false), (9, false), (10, false)] [] [] Try_mixed (by kernel_rfl) (pq_then (pq_block (pq_then (pq_then (pq_block (pq_then pq_body)))))) (List.Sublist.refl _) ?_
            refine h_quiet [(3, .idx a.waits.ad i), (4, .ext [.int .i64 (a.waits.at i).seq, .int .i64 (a.waits.at i).op.kind, .string (a.waits.at i).op.a, .string (a.waits.at i).op.b, .int .i64 (a.waits.at i).op.n]), (8, .idx b.waits.ad i), (9, .ext [.int .i64 (b.waits.at i).seq, .int .i64 (b.waits.at i).op.kind, .string (b.waits.at i).op.a, .string (b.waits.at i).op.b, .int .i64 (b.waits.at i).op.n]), (10, .val (.bool (!((decide ((a.waits.at i).seq = (b.waits.at i).seq)) && (((decide ((a.waits.at i).op.kind = (b.waits.at i).op.kind)) && ((decide ((a.waits.at i).op.a = (b.waits.at i).op.a)) && ((decide ((a.waits.at i).op.b = (b.waits.at i).op.b)) && ((decide ((a.waits.at i).op.n = (b.waits.at i).op.n)) && true)))) && true)))))] 11 [(51, vB (!((decide ((a.waits.at i).seq = (b.waits.at i).seq)) && (((decide ((a.waits.at i).op.kind = (b.waits.at i).op.kind)) && ((decide ((a.waits.at i).op.a = (b.waits.at i).op.a)) && ((decide ((a.waits.at i).op.b = (b.waits.at i).op.b)) && ((decide ((a.waits.at i).op.n = (b.waits.at i).op.n)) && true)))) && true)))), (50, .v (.agg #[.int .i64 (b.waits.at i).seq, .int .i64 (b.waits.at i).op.kind, .string (b.waits.at i).op.a, .string (b.waits.at i).op.b, .int .i64 (b.waits.at i).op.n])), (49, .v (.pointer (some (b.waits.ad.add (i * 5))))), (48, vI ((i : Nat) : Int)), (47, .v (.slice b.waits.A b.waits.n b.waits.c)), (46, .p 1 3), (45, .v (.agg #[.int .i64 (a.waits.at i).seq, .int .i64 (a.waits.at i).op.kind, .string (a.waits.at i).op.a, .string (a.waits.at i).op.b, .int .i64 (a.waits.at i).op.n])), (44, .v (.pointer (some (a.waits.ad.add (i * 5))))), (43, vI ((i : Nat) : Int)), (42, .v (.slice a.waits.A a.waits.n a.waits.c)), (41, .p 0 3), (38, vB true), (5, vI ((i : Nat) : Int)), (3, .p 1 0), (2, .p 0 0)] [a.waits.A = some a.waits.ad, ((i : Nat) : Int) = ((i : Nat) : Int), i < a.waits.n, b.waits.A = some b.waits.ad, ((i : Nat) : Int) = ((i : Nat) : Int), i < b.waits.n, ∀ w, (do eqGuard .neq 83 (.tmp 45) (.tmp 50) (.agg #[.int .i64 (a.waits.at i).seq, .int .i64 (a.waits.at i).op.kind, .string (a.waits.at i).op.a, .string (a.waits.at i).op.b, .int .i64 (a.waits.at i).op.n]) (.agg #[.int .i64 (b.waits.at i).seq, .int .i64 (b.waits.at i).op.kind, .string (b.waits.at i).op.a, .string (b.waits.at i).op.b, .int .i64 (b.waits.at i).op.n]); binOp .neq 83 (.agg #[.int .i64 (a.waits.at i).seq, .int .i64 (a.waits.at i).op.kind, .string (a.waits.at i).op.a, .string (a.waits.at i).op.b, .int .i64 (a.waits.at i).op.n]) (.agg #[.int .i64 (b.waits.at i).seq, .int .i64 (b.waits.at i).op.kind, .string (b.waits.at i).op.a, .string (b.waits.at i).op.b, .int .i64 (b.waits.at i).op.n]) : Sem Value).run Try.prog w = .ok (.bool (!((decide ((a.waits.at i).seq = (b.waits.at i).seq)) && (((decide ((a.waits.at i).op.kind = (b.waits.at i).op.kind)) && ((decide ((a.waits.at i).op.a = (b.waits.at i).op.a)) && ((decide ((a.waits.at i).op.b = (b.waits.at i).op.b)) && ((decide ((a.waits.at i).op.n = (b.waits.at i).op.n)) && true)))) && true)))) w] [(a.waits.ad.add (i * 5), [.int .i64 (a.waits.at i).seq, .int .i64 (a.waits.at i).op.kind, .string (a.waits.at i).op.a, .string (a.waits.at i).op.b, .int .i64 (a.waits.at i).op.n]), (b.waits.ad.add (i * 5), [.int .i64 (b.waits.at i).seq, .int .i64 (b.waits.at i).op.kind, .string (b.waits.at i).op.a, .string (b.waits.at i).op.b, .int .i64 (b.waits.at i).op.n])] rfl rfl (by kernel_rfl) (oc (Sl.ok.own (s := a.waits) (i := i) oka (by omega)) (oc rfl (oc (by omega) (oc (Sl.ok.own (s := b.waits) (i := i) okb (by omega)) (oc rfl (oc (by omega) (oc (neq_agg (by kernel_rfl) (by kernel_rfl)) on))))))) (fun w hk hr => ⟨(Sl.rd.all (s := a.waits) (i := i) (Rds.kp ha hk) (by omega) rfl), ⟨(Sl.rd.all (s := b.waits) (i := i) (Rds.kp hb hk) (by omega) rfl), trivial⟩⟩) ?_
            refine h_nil ?_
            refine l_nil (q_then_normal ?_)
            cases h16 : (decide ((a.waits.at i).seq = (b.waits.at i).seq)) && (((decide ((a.waits.at i).op.kind = (b.waits.at i).op.kind)) && ((decide ((a.waits.at i).op.a = (b.waits.at i).op.a)) && ((decide ((a.waits.at i).op.b = (b.waits.at i).op.b)) && ((decide ((a.waits.at i).op.n = (b.waits.at i).op.n)) && true)))) && true) with
            | true =>
              refine c_if false rfl ?_
              refine c_skip ?_
              refine q_block_normal (q_then_normal ?_)
              refine c_region ?_
              refine JL_run 3 [] [5, 3, 2] 2 ⟨[(5, vI (((i : Nat) : Int) + 1)), (3, .p 1 0), (2, .p 0 0)], [⟨24, [vI a.id, vI a.session, vI a.next, .v (.slice a.waits.A a.waits.n a.waits.c)]⟩, ⟨24, [vI b.id, vI b.session, vI b.next, .v (.slice b.waits.A b.waits.n b.waits.c)]⟩]⟩ [inR (((i : Nat) : Int) + 1)] [] (by kernel_rfl) (oc (by unfold inR; omega) on) wn ?_
              refine l_nil (q_loop (x := (i : Nat)) ((i + 1) : Nat) trivial (by omega) (s_start [5, 3, 2] 2 (by kernel_rfl) rfl))
            | false =>
              exfalso; first | omega | (rw [hat] at h16; simp at h16)
          | false =>
            have h15 := of_decide_eq_false h15
            refine c_if false rfl ?_
            refine c_exit ?_
            refine q_then_exit (q_then_exit (q_block_hit (q_then_normal ?_)))
            refine c_seq ?_
            refine c_region ?_
            refine JL_run 1 [] [4] 0 ⟨[(4, vB true)], []⟩ [] [] (by kernel_rfl) on wn ?_
            refine l_nil (q_then_normal ?_)
            refine c_ret ?_
            refine q_ret (.inl rfl) [vB true] rfl (fun bs w hS => ?_)
            exact ⟨rfl, hS.kp⟩
        | false =>
          have h14 := of_decide_eq_false h14
          exfalso; first | omega | (rw [hat] at h14; simp at h14)
      | false =>
        have h13 := of_decide_eq_false h13
        exfalso; first | omega | (rw [hat] at h13; simp at h13)
    | false =>
      have h12 := of_decide_eq_false h12
      exfalso; first | omega | (rw [hat] at h12; simp at h12)
  | false =>
    have h11 := of_decide_eq_false h11
    exfalso; first | omega | (rw [hat] at h11; simp at h11)

theorem idxF_Wait {B : Nat → Prop} (s : Sl (Fl DWait)) (p : Fl DWait → Bool) (kf : Nat) (caps : Array Value) (w : World) (hs : s.rd B w) (hcall : ∀ args w, (callFunc kf args).run Try.prog w = .ok (.enter kf args) w)
    (hf : ∀ (w' : World) (x : (Fl DWait)), x ∈ s.xs → Kp [] w w' → Calls Try.prog kf (#[.agg #[.int .i64 x.v.seq, .int .i64 x.v.op.kind, .string x.v.op.a, .string x.v.op.b, .int .i64 x.v.op.n]] ++ caps) w' fun e w'' => e = .returned (.bool (p x)) ∧ Kp [] w' w'') : Calls Try.prog 65 #[.slice s.A s.n s.c, .func (.func kf) #[] caps] w fun e w' => e = .returned (.int .i64 (mIdx p s.xs)) ∧ Kp [] w w' := by
  have oks := Sl.rd.ok hs
  have ncs := Sl.ok.nc oks
  have hns : s.n = s.xs.length := rfl
  refine calls_J0 19 Try.func65 rfl rfl [.slice s.A s.n s.c, .func (.func kf) #[] caps] rfl ?_
  refine c_seq ?_
  refine c_region ?_
  refine JL_run 1 [] [0, 1] 0 ⟨[(0, .v (.slice s.A s.n s.c)), (1, .v (.func (.func kf) #[] caps))], []⟩ [] [] (by kernel_rfl) on wn ?_
  refine l_nil (q_then_normal ?_)
  refine c_seq ?_
  refine c_seq ?_
  refine c_region ?_
  refine JL_run 3 [] [8, 7, 0, 1] 0 ⟨[(8, vI 0), (7, vI ((s.n : Nat) : Int)), (0, .v (.slice s.A s.n s.c)), (1, .v (.func (.func kf) #[] caps))], []⟩ [] [] (by kernel_rfl) on wn ?_
  refine l_nil (q_then_normal ?_)
  refine c_block ?_
  refine c_loop (σ := Nat) (fun i => i ≤ s.n ∧ ∀ j, j < i → p (s.at j) = false) (fun i => s.n - i) (fun i => []) (fun i => ⟨[(8, vI ((i : Nat) : Int)), (7, vI ((s.n : Nat) : Int)), (0, .v (.slice s.A s.n s.c)), (1, .v (.func (.func kf) #[] caps))], []⟩) 0 ⟨Nat.zero_le _, fun j hj => absurd hj (Nat.not_lt_zero _)⟩ (s_start [8, 7, 0, 1] 0 (by kernel_rfl) rfl) ?_
  rintro i ⟨hi, hI⟩
  refine c_seq ?_
  refine c_region ?_
  refine JL_run 1 [] [9, 8, 7, 0, 1] 0 ⟨[(9, vB (decide (((i : Nat) : Int) < ((s.n : Nat) : Int)))), (8, vI ((i : Nat) : Int)), (7, vI ((s.n : Nat) : Int)), (0, .v (.slice s.A s.n s.c)), (1, .v (.func (.func kf) #[] caps))], []⟩ [] [] (by kernel_rfl) on wn ?_
  refine l_nil (q_then_normal ?_)
  refine c_seq ?_
  cases h1 : decide (((i : Nat) : Int) < ((s.n : Nat) : Int)) with
  | true =>
    have h1 := of_decide_eq_true h1
    refine c_if true rfl ?_
    refine c_skip ?_
    refine q_then_normal ?_
    refine c_seq ?_
    refine c_block ?_
    refine c_seq ?_
    refine c_region ?_
    refine JL_run 2 [] [5, 8, 7, 0, 1] 0 ⟨[(5, vI ((i : Nat) : Int)), (8, vI ((i : Nat) : Int)), (7, vI ((s.n : Nat) : Int)), (0, .v (.slice s.A s.n s.c)), (1, .v (.func (.func kf) #[] caps))], []⟩ [] [] (by kernel_rfl) on wn ?_
    refine l_nil (q_then_normal ?_)
    refine c_seq ?_
    refine c_region ?_
    refine JL_run 5 [(3, .idx s.ad i), (4, .ext [.int .i64 (s.at i).v.seq, .int .i64 (s.at i).v.op.kind, .string (s.at i).v.op.a, .string (s.at i).v.op.b, .int .i64 (s.at i).v.op.n])] [15, 11, 5, 8, 7, 0, 1] 0 ⟨[(15, .v (.agg #[.int .i64 (s.at i).v.seq, .int .i64 (s.at i).v.op.kind, .string (s.at i).v.op.a, .string (s.at i).v.op.b, .int .i64 (s.at i).v.op.n])), (11, .v (.func (.func kf) #[] caps)), (5, vI ((i : Nat) : Int)), (8, vI ((i : Nat) : Int)), (7, vI ((s.n : Nat) : Int)), (0, .v (.slice s.A s.n s.c)), (1, .v (.func (.func kf) #[] caps))], []⟩ [s.A = some s.ad, ((i : Nat) : Int) = ((i : Nat) : Int), i < s.n] [(s.ad.add (i * 5), [.int .i64 (s.at i).v.seq, .int .i64 (s.at i).v.op.kind, .string (s.at i).v.op.a, .string (s.at i).v.op.b, .int .i64 (s.at i).v.op.n])] (by kernel_rfl) (oc (Sl.ok.own (s := s) (i := i) oks (by omega)) (oc rfl (oc (by omega) on))) (fun w hk hr => ⟨(Sl.rd.all (s := s) (i := i) (Sl.rd.kp hs hk) (by omega) rfl), trivial⟩) ?_
    refine l_pureV kf caps [.v (.agg #[.int .i64 (s.at i).v.seq, .int .i64 (s.at i).v.op.kind, .string (s.at i).v.op.a, .string (s.at i).v.op.b, .int .i64 (s.at i).v.op.n])] (.bool (p (s.at i))) hcall rfl rfl rfl rfl (fun bs w hS => hf w (s.at i) (List.mem_of_getElem? (Sl.at_some (show i < s.n by omega))) hS.kp) ?_
    refine l_nil (q_then_normal ?_)
    cases h2 : p (s.at i) with
    | true =>
      refine c_if true rfl ?_
      refine c_seq ?_
      refine c_region ?_
      refine JL_run 2 [] [4] 0 ⟨[(4, vI ((i : Nat) : Int))], []⟩ [] [] (by kernel_rfl) on wn ?_
      refine l_nil (q_then_normal ?_)
      refine c_ret ?_
      refine q_block_ret (q_then_ret (q_then_ret (q_block_ret (q_then_ret (q_ret (.inl rfl) [vI ((i : Nat) : Int)] rfl (fun bs w hS => ?_))))))
      refine ⟨?_, hS.kp⟩
      rw [mIdx_here (i := i) (by omega) (by assumption) hI]
      rfl
    | false =>
      refine c_if false rfl ?_
      refine c_skip ?_
      refine q_block_normal (q_then_normal ?_)
      refine c_region ?_
      refine JL_run 2 [] [8, 7, 0, 1] 0 ⟨[(8, vI (((i : Nat) : Int) + 1)), (7, vI ((s.n : Nat) : Int)), (0, .v (.slice s.A s.n s.c)), (1, .v (.func (.func kf) #[] caps))], []⟩ [inR (((i : Nat) : Int) + 1)] [] (by kernel_rfl) (oc (by unfold inR; omega) on) wn ?_
      refine l_nil (q_loop (x := (i : Nat)) ((i + 1) : Nat) ⟨by omega, fun j hj => by rcases Nat.lt_succ_iff_lt_or_eq.1 hj with h | h; exact hI j h; subst h; assumption⟩ (by omega) (s_start [8, 7, 0, 1] 0 (by kernel_rfl) rfl))
  | false =>
    have h1 := of_decide_eq_false h1
    refine c_if false rfl ?_
    refine c_exit ?_
    refine q_then_exit (q_then_exit (q_block_hit (q_then_normal ?_)))
    refine c_seq ?_
    refine c_region ?_
    refine JL_run 1 [] [4] 0 ⟨[(4, vI (-1))], []⟩ [] [] (by kernel_rfl) on wn ?_
    refine l_nil (q_then_normal ?_)
    refine c_ret ?_
    refine q_ret (.inl rfl) [vI (-1)] rfl (fun bs w hS => ?_)
    refine ⟨?_, hS.kp⟩
    rw [mIdx_none fun j hj => hI j (by omega)]
    rfl
theorem idx_Wait {B : Nat → Prop} (s : Sl DWait) (p : DWait → Bool) (kf : Nat) (caps : Array Value) (w : World) (hs : s.rd B w) (hcall : ∀ args w, (callFunc kf args).run Try.prog w = .ok (.enter kf args) w)
    (hf : ∀ (w' : World) (x : DWait), x ∈ s.xs → Kp [] w w' → Calls Try.prog kf (#[.agg #[.int .i64 x.seq, .int .i64 x.op.kind, .string x.op.a, .string x.op.b, .int .i64 x.op.n]] ++ caps) w' fun e w'' => e = .returned (.bool (p x)) ∧ Kp [] w' w'') : Calls Try.prog 65 #[.slice s.A s.n s.c, .func (.func kf) #[] caps] w fun e w' => e = .returned (.int .i64 (mIdx p s.xs)) ∧ Kp [] w w' := by
  have h := idxF_Wait (⟨s.A, s.c, fls s.xs⟩ : Sl (Fl DWait)) (fun x => p x.v) kf caps w hs.fl hcall (fun w' x hx hk => hf w' x.v (by obtain ⟨y, hy, rfl⟩ := List.mem_map.1 hx; exact hy) hk)
  simp only [mIdx_fl, Sl.n, List.length_map] at h
  exact h

theorem delR_Wait (A : Option Addr) (c : Nat) (L : List DWait) (i j : Nat) (ii jj : Int) (w : World) (hrow : (rowA 83 A c L).p w) (hlt : ∀ b, b ∈ (rowA 83 A c L).fp → b < w.heap.size) (ei : ii = (i : Int)) (ej : jj = (j : Int)) (hij : i ≤ j) (hj : j ≤ L.length) :
    Calls Try.prog 67 #[.slice A L.length c, .int .i64 ii, .int .i64 jj] w fun e w' => e = .returned (.slice A (L.take i ++ L.drop j).length c) ∧ Turned (rowA 83 A c L) w w' (rowA 83 A c (L.take i ++ L.drop j)) := by
  subst ei ej
  have hrok := rowA_rok hrow
  have nc := hrok.2
  refine calls_J 33 (rowA 83 A c L).fp Try.func67 rfl rfl [] [] [rowA 83 A c L] [.v (.slice A L.length c), vI ((i : Nat) : Int), vI ((j : Nat) : Int)] [.slice A L.length c, .int .i64 ((i : Nat) : Int), .int .i64 ((j : Nat) : Int)] rfl rfl (WS.start1 w _ hrow (by cases A <;> simp [rowA, rowR]) hlt) ?_
  refine c_seq ?_
  refine c_region ?_
  refine JL_run 1 [] [0, 1, 2] 0 ⟨[(0, .v (.slice A L.length c)), (1, vI ((i : Nat) : Int)), (2, vI ((j : Nat) : Int))], []⟩ [] [] (by kernel_rfl) on wn ?_
  refine l_nil (q_then_normal ?_)
  refine c_seq ?_
  refine c_region ?_
  refine JL_run 5 [] [12, 10, 9, 8, 0, 1, 2] 0 ⟨[(12, vI ((L.length : Nat) : Int)), (10, vI ((j : Nat) : Int)), (9, vI ((i : Nat) : Int)), (8, .v (.slice A L.length c)), (0, .v (.slice A L.length c)), (1, vI ((i : Nat) : Int)), (2, vI ((j : Nat) : Int))], []⟩ [] [] (by kernel_rfl) on wn ?_
  refine l_slice3 83 A L.length c i j L.length ((i : Nat) : Int) ((j : Nat) : Int) ((L.length : Nat) : Int) Try.underlying22 (by kernel_rfl) rfl rfl rfl rfl rfl rfl rfl rfl rfl (by omega) (by omega) (by omega) ?_
  refine l_nil (q_then_normal ?_)
  refine c_seq ?_
  refine c_seq ?_
  refine c_region ?_
  refine JL_run 3 [] [16, 0, 1, 2] 0 ⟨[(16, vB (decide (((i : Nat) : Int) = ((j : Nat) : Int)))), (0, .v (.slice A L.length c)), (1, vI ((i : Nat) : Int)), (2, vI ((j : Nat) : Int))], []⟩ [] [] (by kernel_rfl) on wn ?_
  refine l_nil (q_then_normal ?_)
  cases h1 : decide (((i : Nat) : Int) = ((j : Nat) : Int)) with
  | true =>
    have h1 := of_decide_eq_true h1
    refine c_if true rfl ?_
    refine c_seq ?_
    refine c_region ?_
    refine JL_run 2 [] [6] 0 ⟨[(6, .v (.slice A L.length c))], []⟩ [] [] (by kernel_rfl) on wn ?_
    refine l_nil (q_then_normal ?_)
    refine c_ret ?_
    refine q_then_ret (q_ret (.inl rfl) [.v (.slice A L.length c)] rfl (fun bs w hS => ?_))
    have hij2 : i = j := by omega
    subst hij2
    rw [List.take_append_drop]
    exact ⟨rfl, hS.turned⟩
  | false =>
    have h1 := of_decide_eq_false h1
    refine c_if false rfl ?_
    refine c_skip ?_
    refine q_then_normal ?_
    refine c_seq ?_
    refine c_region ?_
    refine JL_run 3 [] [7, 0, 1, 2] 0 ⟨[(7, vI ((L.length : Nat) : Int)), (0, .v (.slice A L.length c)), (1, vI ((i : Nat) : Int)), (2, vI ((j : Nat) : Int))], []⟩ [] [] (by kernel_rfl) on wn ?_
    refine l_nil (q_then_normal ?_)
    refine c_seq ?_
    refine c_draw 6 [(0, false), (1, false), (2, false), (3, false), (4, false), (5, false)] [] [rowA 83 A c (L : List DWait)] Try_mixed (by kernel_rfl) (pq_then pq_body) (List.Sublist.refl _) ?_
    refine h_quiet [(2, .sl 0 i), (5, .sl j L.length)] 6 [(25, .v (.slice (if c = j then A else A.map (·.add (j * 5))) (L.length - j) (c - j))), (24, vI ((j : Nat) : Int)), (23, .v (.slice A L.length c)), (22, .v (.slice A i c)), (21, vI ((i : Nat) : Int)), (20, .v (.slice A L.length c)), (7, vI ((L.length : Nat) : Int)), (0, .v (.slice A L.length c)), (1, vI ((i : Nat) : Int)), (2, vI ((j : Nat) : Int))] [0 = 0, ((i : Nat) : Int) = ((i : Nat) : Int), i ≤ c, ((j : Nat) : Int) = ((j : Nat) : Int), L.length = L.length, j ≤ L.length] [] rfl rfl (by kernel_rfl) (oc rfl (oc rfl (oc (by omega) (oc rfl (oc rfl (oc (by omega) on)))))) wn ?_
    refine h_nil ?_
    refine l_appdel (α := DWait) 83 56 A c L i j (.v (.slice (if c = j then A else A.map (·.add (j * 5))) (L.length - j) (c - j))) Try.underlying22 (by kernel_rfl) rfl rfl rfl rfl rfl hij hj ?_
    refine JL_run 1 [] [0, 7] 0 ⟨[(0, .v (.slice A (i + (L.length - j)) c)), (7, vI ((L.length : Nat) : Int))], []⟩ [] [] (by kernel_rfl) on wn ?_
    refine l_nil (q_then_normal ?_)
    refine c_seq ?_
    refine c_region ?_
    refine JL_run 5 [(4, .sl (i + (L.length - j)) L.length)] [31, 0] 0 ⟨[(31, .v (.slice (if c = (i + (L.length - j)) then A else A.map (·.add ((i + (L.length - j)) * 5))) (L.length - (i + (L.length - j))) (c - (i + (L.length - j))))), (0, .v (.slice A (i + (L.length - j)) c))], []⟩ [((i + (L.length - j) : Nat) : Int) = (((i + (L.length - j)) : Nat) : Int), ((L.length : Nat) : Int) = ((L.length : Nat) : Int), (i + (L.length - j)) ≤ L.length, L.length ≤ c] [] (by kernel_rfl) (oc rfl (oc rfl (oc (by omega) (oc (by omega) on)))) wn ?_
    refine l_clear (α := DWait) 83 A c (L.take i ++ L.drop j) (i + (L.length - j)) (L.length - (i + (L.length - j))) (.v (.slice (if c = (i + (L.length - j)) then A else A.map (·.add ((i + (L.length - j)) * 5))) (L.length - (i + (L.length - j))) (c - (i + (L.length - j))))) Try.underlying22 (by kernel_rfl) rfl rfl rfl rfl (by simp only [List.length_append, List.length_take, List.length_drop]; omega) (by omega) ?_
    refine l_nil (q_then_normal ?_)
    refine c_seq ?_
    refine c_region ?_
    refine JL_run 2 [] [6] 0 ⟨[(6, .v (.slice A (i + (L.length - j)) c))], []⟩ [] [] (by kernel_rfl) on wn ?_
    refine l_nil (q_then_normal ?_)
    refine c_ret ?_
    refine q_ret (.inl rfl) [.v (.slice A (i + (L.length - j)) c)] rfl (fun bs w hS => ?_)
    have hlen : (L.take i ++ L.drop j).length = i + (L.length - j) := by simp only [List.length_append, List.length_take, List.length_drop]; omega
    have hS2 := hS
    rw [← hlen, List.take_length] at hS2
    refine ⟨?_, hS2.turned⟩
    rw [hlen]
    rfl

theorem clo_customer_Hear_1 (x : DWait) (m : DMail) (b : Nat) (w : World) (hb : (blkR b 46 [.int .i64 m.client, .int .i64 m.seq, .int .i64 m.reply.code, .int .i64 m.reply.n, .string m.reply.text]).p w) : Calls Try.prog 66 #[.agg #[.int .i64 x.seq, .int .i64 x.op.kind, .string x.op.a, .string x.op.b, .int .i64 x.op.n], .pointer (some (⟨b, 0, none⟩ : Addr))] w fun e w' => e = .returned (.bool (decide (x.seq = m.seq))) ∧ Kp [] w w' := by
  refine calls_J0 9 Try.func66 rfl rfl [.agg #[.int .i64 x.seq, .int .i64 x.op.kind, .string x.op.a, .string x.op.b, .int .i64 x.op.n], .pointer (some (⟨b, 0, none⟩ : Addr))] rfl ?_
  refine c_seq ?_
  refine c_region ?_
  refine JL_run 2 [] [2, 1] 1 ⟨[(2, .p 0 0), (1, .v (.pointer (some (⟨b, 0, none⟩ : Addr))))], [⟨83, [vI x.seq, vI x.op.kind, vS x.op.a, vS x.op.b, vI x.op.n]⟩]⟩ [] [] (by kernel_rfl) on wn ?_
  refine l_nil (q_then_normal ?_)
  refine c_seq ?_
  refine c_region ?_
  refine JL_run 6 [(3, .ext [.int .i64 m.seq])] [3] 0 ⟨[(3, vB (decide (x.seq = m.seq)))], []⟩ [] [((⟨b, 0, none⟩ : Addr).add 1, [.int .i64 m.seq])] (by kernel_rfl) on (fun w hk hr => ⟨(blkR_fld (blkR_kp hb hk) 1 1 rfl), trivial⟩) ?_
  refine l_nil (q_then_normal ?_)
  refine c_ret ?_
  refine q_ret (.inl rfl) [vB (decide (x.seq = m.seq))] rfl (fun bs w hS => ?_)
  exact ⟨rfl, hS.kp⟩

theorem customer_Hear {B : Nat → Prop} (x : CCustomer) (m : DMail) (w : World) (hx : Rds.sub B w x) (hmx : Rds.sub B w m) : Calls Try.prog 25 #[.agg #[.int .i64 x.id, .int .i64 x.session, .int .i64 x.next, .slice x.waits.A x.waits.n x.waits.c], .agg #[.int .i64 m.client, .int .i64 m.seq, .int .i64 m.reply.code, .int .i64 m.reply.n, .string m.reply.text]] w fun e w' => ∃ y : CCustomer, e = .returned (.tuple #[y.val, .int .i64 (mHear x.abs m).2]) ∧ y.abs = (mHear x.abs m).1 ∧ FreshS w w' y := by
  have hat : ∀ q, x.abs.waits.getD q default = x.waits.at q := fun _ => rfl
  have ha1 : x.abs.id = x.id := rfl
  have ha2 : x.abs.session = x.session := rfl
  have ha3 : x.abs.next = x.next := rfl
  have ha4 : x.abs.waits.length = x.waits.n := rfl
  have okx := Rds.okof hx
  have ncx := Sl.ok.nc okx
  have hnx : x.waits.n = x.waits.xs.length := rfl
  have hmm := Rds.okof hmx
  refine calls_J0 82 Try.func25 rfl rfl [.agg #[.int .i64 x.id, .int .i64 x.session, .int .i64 x.next, .slice x.waits.A x.waits.n x.waits.c], .agg #[.int .i64 m.client, .int .i64 m.seq, .int .i64 m.reply.code, .int .i64 m.reply.n, .string m.reply.text]] rfl ?_
  refine c_seq ?_
  refine c_region ?_
  refine JL_run 4 [] [4, 3, 2] 3 ⟨[(4, .p 2 0), (3, .p 1 0), (2, .p 0 0)], [⟨24, [vI x.id, vI x.session, vI x.next, .v (.slice x.waits.A x.waits.n x.waits.c)]⟩, ⟨46, [vI m.client, vI m.seq, vI m.reply.code, vI m.reply.n, vS m.reply.text]⟩, ⟨24, [vI 0, vI 0, vI 0, .v (.slice none 0 0)]⟩]⟩ [] [] (by kernel_rfl) on wn ?_
  refine l_nil (q_then_normal ?_)
  refine c_seq ?_
  refine c_seq ?_
  refine c_region ?_
  refine JL_run 1 [] [8, 4, 3, 2] 3 ⟨[(8, .v (.agg #[.int .i64 x.id, .int .i64 x.session, .int .i64 x.next, .slice x.waits.A x.waits.n x.waits.c])), (4, .p 2 0), (3, .p 1 0), (2, .p 0 0)], [⟨24, [vI x.id, vI x.session, vI x.next, .v (.slice x.waits.A x.waits.n x.waits.c)]⟩, ⟨46, [vI m.client, vI m.seq, vI m.reply.code, vI m.reply.n, vS m.reply.text]⟩, ⟨24, [vI 0, vI 0, vI 0, .v (.slice none 0 0)]⟩]⟩ [] [] (by kernel_rfl) on wn ?_
  refine l_pure 45 [] [.v (.agg #[.int .i64 x.id, .int .i64 x.session, .int .i64 x.next, .slice x.waits.A x.waits.n x.waits.c])] (.int .i64 (mCust x.abs)) Try.call45 rfl rfl rfl rfl (fun bs w hS => customer_Check x w (Rds.kp hx hS.kp)) ?_
  refine JL_run 1 [] [6, 4, 3, 2] 3 ⟨[(6, vI (mCust x.abs)), (4, .p 2 0), (3, .p 1 0), (2, .p 0 0)], [⟨24, [vI x.id, vI x.session, vI x.next, .v (.slice x.waits.A x.waits.n x.waits.c)]⟩, ⟨46, [vI m.client, vI m.seq, vI m.reply.code, vI m.reply.n, vS m.reply.text]⟩, ⟨24, [vI 0, vI 0, vI 0, .v (.slice none 0 0)]⟩]⟩ [] [] (by kernel_rfl) on wn ?_
  refine l_nil (q_then_normal ?_)
  refine c_seq ?_
  refine c_region ?_
  refine JL_run 2 [] [11, 6, 4, 3, 2] 3 ⟨[(11, vB (!(decide (mCust x.abs = 0)))), (6, vI (mCust x.abs)), (4, .p 2 0), (3, .p 1 0), (2, .p 0 0)], [⟨24, [vI x.id, vI x.session, vI x.next, .v (.slice x.waits.A x.waits.n x.waits.c)]⟩, ⟨46, [vI m.client, vI m.seq, vI m.reply.code, vI m.reply.n, vS m.reply.text]⟩, ⟨24, [vI 0, vI 0, vI 0, .v (.slice none 0 0)]⟩]⟩ [] [] (by kernel_rfl) on wn ?_
  refine l_nil (q_then_normal ?_)
  cases h1 : decide (mCust x.abs = 0) with
  | true =>
    have h1 := of_decide_eq_true h1
    have hack := mAck_bd h1
    obtain ⟨hb1, hb2, hb3, hb4, hb5, hb6, hb7, hb8, hb9⟩ := mCust_bd h1
    rw [ha1] at hb1 hb2
    rw [ha2] at hb3 hb4
    rw [ha3] at hb5 hb6
    rw [ha4] at hb7 hb9
    have hseq : ∀ j, j < x.waits.n → 1 ≤ (x.waits.at j).seq ∧ (x.waits.at j).seq ≤ 1048576 := fun j hj => by have hz := custF_bd (hb9 j hj); rw [hat, ha3] at hz; omega
    refine c_if false rfl ?_
    refine c_skip ?_
    refine q_then_normal ?_
    refine c_seq ?_
    refine c_seq ?_
    refine c_region ?_
    refine JL_run 5 [] [18, 4, 3, 2] 3 ⟨[(18, vB (!(decide (m.client = x.id)))), (4, .p 2 0), (3, .p 1 0), (2, .p 0 0)], [⟨24, [vI x.id, vI x.session, vI x.next, .v (.slice x.waits.A x.waits.n x.waits.c)]⟩, ⟨46, [vI m.client, vI m.seq, vI m.reply.code, vI m.reply.n, vS m.reply.text]⟩, ⟨24, [vI 0, vI 0, vI 0, .v (.slice none 0 0)]⟩]⟩ [] [] (by kernel_rfl) on wn ?_
    refine l_nil (q_then_normal ?_)
    cases h2 : decide (m.client = x.id) with
    | true =>
      have h2 := of_decide_eq_true h2
      refine c_if false rfl ?_
      refine c_skip ?_
      refine q_then_normal ?_
      refine c_seq ?_
      refine c_region ?_
      refine JL_run 1 [] [20, 4, 3, 2] 3 ⟨[(20, .v (.agg #[.int .i64 x.id, .int .i64 x.session, .int .i64 x.next, .slice x.waits.A x.waits.n x.waits.c])), (4, .p 2 0), (3, .p 1 0), (2, .p 0 0)], [⟨24, [vI x.id, vI x.session, vI x.next, .v (.slice x.waits.A x.waits.n x.waits.c)]⟩, ⟨46, [vI m.client, vI m.seq, vI m.reply.code, vI m.reply.n, vS m.reply.text]⟩, ⟨24, [vI 0, vI 0, vI 0, .v (.slice none 0 0)]⟩]⟩ [] [] (by kernel_rfl) on wn ?_
      refine l_freshF (σ := Sl DWait) 48 [] [.v (.agg #[.int .i64 x.id, .int .i64 x.session, .int .i64 x.next, .slice x.waits.A x.waits.n x.waits.c])] (fun y1 => .agg #[.int .i64 x.id, .int .i64 x.session, .int .i64 x.next, .slice y1.A y1.n y1.c]) (fun y1 => y1.xs = x.waits.xs) (fun y1 => rowA 83 y1.A y1.c (y1.xs : List DWait)) Try.call48 rfl rfl rfl rfl (fun bs w hS => customer_CopyR x w (Rds.kp hx hS.kp) (by omega)) ?_
      rintro y1 hF1
      refine l_know (F := RowOk y1.A y1.c (y1.xs : List DWait)) (fun bs w hS => rowA_rok (hS.res _ (.head _))) fun hrow1 => ?_
      have nchrow1 := hrow1.2
      have hsz1 : ∀ z, z ∈ y1.xs → z.op.a.size ≤ 9223372036854775807 ∧ z.op.b.size ≤ 9223372036854775807 := fun z hz => Sl.rd.mem (s := x.waits) hx z (hF1 ▸ hz)
      have hnn1 := xs_n hF1
      have hnx1 : y1.n = y1.xs.length := rfl
      have hok1 : Sl.ok y1 := ⟨nchrow1.1, by unfold maxLen; exact nchrow1.2, fun i hi => ⟨hrow1.1 i hi, hsz1 _ (List.mem_of_getElem? (Sl.at_some hi))⟩⟩
      refine JL_run 1 [] [4, 3, 2] 3 ⟨[(4, .p 2 0), (3, .p 1 0), (2, .p 0 0)], [⟨24, [vI x.id, vI x.session, vI x.next, .v (.slice y1.A y1.n y1.c)]⟩, ⟨46, [vI m.client, vI m.seq, vI m.reply.code, vI m.reply.n, vS m.reply.text]⟩, ⟨24, [vI 0, vI 0, vI 0, .v (.slice none 0 0)]⟩]⟩ [] [] (by kernel_rfl) on wn ?_
      refine l_nil (q_then_normal ?_)
      refine c_seq ?_
      refine c_seq ?_
      refine c_region ?_
      refine JL_run 3 [] [24, 4, 3, 2] 3 ⟨[(24, vB (decide (m.seq = 0))), (4, .p 2 0), (3, .p 1 0), (2, .p 0 0)], [⟨24, [vI x.id, vI x.session, vI x.next, .v (.slice y1.A y1.n y1.c)]⟩, ⟨46, [vI m.client, vI m.seq, vI m.reply.code, vI m.reply.n, vS m.reply.text]⟩, ⟨24, [vI 0, vI 0, vI 0, .v (.slice none 0 0)]⟩]⟩ [] [] (by kernel_rfl) on wn ?_
      refine l_nil (q_then_normal ?_)
      cases h3 : decide (m.seq = 0) with
      | true =>
        have h3 := of_decide_eq_true h3
        refine c_if true rfl ?_
        refine c_seq ?_
        refine c_block ?_
        refine c_seq ?_
        refine c_region ?_
        refine JL_run 4 [] [25, 4, 3, 2] 3 ⟨[(25, vB (decide ((0 : Int) < x.session))), (4, .p 2 0), (3, .p 1 0), (2, .p 0 0)], [⟨24, [vI x.id, vI x.session, vI x.next, .v (.slice y1.A y1.n y1.c)]⟩, ⟨46, [vI m.client, vI m.seq, vI m.reply.code, vI m.reply.n, vS m.reply.text]⟩, ⟨24, [vI 0, vI 0, vI 0, .v (.slice none 0 0)]⟩]⟩ [] [] (by kernel_rfl) on wn ?_
        refine l_nil (q_then_normal ?_)
        cases h4 : decide ((0 : Int) < x.session) with
        | true =>
          have h4 := of_decide_eq_true h4
          refine c_if true rfl ?_
          refine c_seq ?_
          refine c_region ?_
          refine JL_run 3 [] [5, 4] 3 ⟨[(5, vI 12), (4, .p 2 0)], [⟨24, [vI x.id, vI x.session, vI x.next, .v (.slice y1.A y1.n y1.c)]⟩, ⟨46, [vI m.client, vI m.seq, vI m.reply.code, vI m.reply.n, vS m.reply.text]⟩, ⟨24, [vI 0, vI 0, vI 0, .v (.slice none 0 0)]⟩]⟩ [] [] (by kernel_rfl) on wn ?_
          refine l_nil (q_then_normal ?_)
          refine c_ret ?_
          refine q_block_ret (q_then_ret (q_then_ret (q_ret (.inl rfl) [.v (.agg #[.int .i64 0, .int .i64 0, .int .i64 0, .slice none 0 0]), vI 12] rfl (fun bs w hS => ?_))))
          have hm : mHear x.abs m = (zCust, 12) := by
            have ha5 : x.abs.waits = x.waits.xs := rfl
            unfold mHear; rw [ha1, ha2, ha3, ha5]; try simp only [h1, h2, h3, ne_eq, not_true_eq_false, not_false_eq_true, if_true, if_false, reduceIte, true_or, or_true, or_self, false_or, or_false]
            repeat (first | rw [if_pos (by omega)] | rw [if_neg (by omega)])
            all_goals rfl
          refine ⟨⟨0, 0, 0, Sl.nil⟩, ?_, ?_, hS.outS (y := (⟨0, 0, 0, Sl.nil⟩ : CCustomer)) (Sl.rd_nil _ _)⟩
          · simp only [retOf, den, List.map_cons, List.map_nil]; rw [hm]; rfl
          · rw [hm]; rfl
        | false =>
          have h4 := of_decide_eq_false h4
          refine c_if false rfl ?_
          refine c_seq ?_
          refine c_region ?_
          refine JL_run 5 [] [35, 4, 3, 2] 3 ⟨[(35, vB (!(decide (m.reply.code = 0)))), (4, .p 2 0), (3, .p 1 0), (2, .p 0 0)], [⟨24, [vI x.id, vI x.session, vI x.next, .v (.slice y1.A y1.n y1.c)]⟩, ⟨46, [vI m.client, vI m.seq, vI m.reply.code, vI m.reply.n, vS m.reply.text]⟩, ⟨24, [vI 0, vI 0, vI 0, .v (.slice none 0 0)]⟩]⟩ [] [] (by kernel_rfl) on wn ?_
          cases h5 : decide (m.reply.code = 0) with
          | true =>
            have h5 := of_decide_eq_true h5
            refine JL_run 6 [] [30, 4, 3, 2] 3 ⟨[(30, vB false), (4, .p 2 0), (3, .p 1 0), (2, .p 0 0)], [⟨24, [vI x.id, vI x.session, vI x.next, .v (.slice y1.A y1.n y1.c)]⟩, ⟨46, [vI m.client, vI m.seq, vI m.reply.code, vI m.reply.n, vS m.reply.text]⟩, ⟨24, [vI 0, vI 0, vI 0, .v (.slice none 0 0)]⟩]⟩ [] [] (by kernel_rfl) on wn ?_
            refine l_nil (q_then_normal ?_)
            refine c_if false rfl ?_
            refine c_seq ?_
            refine c_region ?_
            refine JL_run 5 [] [47, 4, 3, 2] 3 ⟨[(47, vB (decide (m.reply.n < 1))), (4, .p 2 0), (3, .p 1 0), (2, .p 0 0)], [⟨24, [vI x.id, vI x.session, vI x.next, .v (.slice y1.A y1.n y1.c)]⟩, ⟨46, [vI m.client, vI m.seq, vI m.reply.code, vI m.reply.n, vS m.reply.text]⟩, ⟨24, [vI 0, vI 0, vI 0, .v (.slice none 0 0)]⟩]⟩ [] [] (by kernel_rfl) on wn ?_
            cases h6 : decide (m.reply.n < 1) with
            | true =>
              have h6 := of_decide_eq_true h6
              refine JL_run 6 [] [42, 4, 3, 2] 3 ⟨[(42, vB true), (4, .p 2 0), (3, .p 1 0), (2, .p 0 0)], [⟨24, [vI x.id, vI x.session, vI x.next, .v (.slice y1.A y1.n y1.c)]⟩, ⟨46, [vI m.client, vI m.seq, vI m.reply.code, vI m.reply.n, vS m.reply.text]⟩, ⟨24, [vI 0, vI 0, vI 0, .v (.slice none 0 0)]⟩]⟩ [] [] (by kernel_rfl) on wn ?_
              refine l_nil (q_then_normal ?_)
              refine c_if true rfl ?_
              refine c_seq ?_
              refine c_region ?_
              refine JL_run 3 [] [5, 4] 3 ⟨[(5, vI 2), (4, .p 2 0)], [⟨24, [vI x.id, vI x.session, vI x.next, .v (.slice y1.A y1.n y1.c)]⟩, ⟨46, [vI m.client, vI m.seq, vI m.reply.code, vI m.reply.n, vS m.reply.text]⟩, ⟨24, [vI 0, vI 0, vI 0, .v (.slice none 0 0)]⟩]⟩ [] [] (by kernel_rfl) on wn ?_
              refine l_nil (q_then_normal ?_)
              refine c_ret ?_
              refine q_block_ret (q_then_ret (q_then_ret (q_ret (.inl rfl) [.v (.agg #[.int .i64 0, .int .i64 0, .int .i64 0, .slice none 0 0]), vI 2] rfl (fun bs w hS => ?_))))
              have hm : mHear x.abs m = (zCust, 2) := by
                have ha5 : x.abs.waits = x.waits.xs := rfl
                unfold mHear; rw [ha1, ha2, ha3, ha5]; try simp only [h1, h2, h3, h5, ne_eq, not_true_eq_false, not_false_eq_true, if_true, if_false, reduceIte, true_or, or_true, or_self, false_or, or_false]
                repeat (first | rw [if_pos (by omega)] | rw [if_neg (by omega)])
                all_goals rfl
              refine ⟨⟨0, 0, 0, Sl.nil⟩, ?_, ?_, hS.outS (y := (⟨0, 0, 0, Sl.nil⟩ : CCustomer)) (Sl.rd_nil _ _)⟩
              · simp only [retOf, den, List.map_cons, List.map_nil]; rw [hm]; rfl
              · rw [hm]; rfl
            | false =>
              have h6 := of_decide_eq_false h6
              refine JL_run 6 [] [42, 4, 3, 2] 3 ⟨[(42, vB (decide ((1073741824 : Int) < m.reply.n))), (4, .p 2 0), (3, .p 1 0), (2, .p 0 0)], [⟨24, [vI x.id, vI x.session, vI x.next, .v (.slice y1.A y1.n y1.c)]⟩, ⟨46, [vI m.client, vI m.seq, vI m.reply.code, vI m.reply.n, vS m.reply.text]⟩, ⟨24, [vI 0, vI 0, vI 0, .v (.slice none 0 0)]⟩]⟩ [] [] (by kernel_rfl) on wn ?_
              refine l_nil (q_then_normal ?_)
              cases h7 : decide ((1073741824 : Int) < m.reply.n) with
              | true =>
                have h7 := of_decide_eq_true h7
                refine c_if true rfl ?_
                refine c_seq ?_
                refine c_region ?_
                refine JL_run 3 [] [5, 4] 3 ⟨[(5, vI 2), (4, .p 2 0)], [⟨24, [vI x.id, vI x.session, vI x.next, .v (.slice y1.A y1.n y1.c)]⟩, ⟨46, [vI m.client, vI m.seq, vI m.reply.code, vI m.reply.n, vS m.reply.text]⟩, ⟨24, [vI 0, vI 0, vI 0, .v (.slice none 0 0)]⟩]⟩ [] [] (by kernel_rfl) on wn ?_
                refine l_nil (q_then_normal ?_)
                refine c_ret ?_
                refine q_block_ret (q_then_ret (q_then_ret (q_ret (.inl rfl) [.v (.agg #[.int .i64 0, .int .i64 0, .int .i64 0, .slice none 0 0]), vI 2] rfl (fun bs w hS => ?_))))
                have hm : mHear x.abs m = (zCust, 2) := by
                  have ha5 : x.abs.waits = x.waits.xs := rfl
                  unfold mHear; rw [ha1, ha2, ha3, ha5]; try simp only [h1, h2, h3, h5, ne_eq, not_true_eq_false, not_false_eq_true, if_true, if_false, reduceIte, true_or, or_true, or_self, false_or, or_false]
                  repeat (first | rw [if_pos (by omega)] | rw [if_neg (by omega)])
                  all_goals rfl
                refine ⟨⟨0, 0, 0, Sl.nil⟩, ?_, ?_, hS.outS (y := (⟨0, 0, 0, Sl.nil⟩ : CCustomer)) (Sl.rd_nil _ _)⟩
                · simp only [retOf, den, List.map_cons, List.map_nil]; rw [hm]; rfl
                · rw [hm]; rfl
              | false =>
                have h7 := of_decide_eq_false h7
                refine c_if false rfl ?_
                refine c_skip ?_
                refine q_block_normal (q_then_normal ?_)
                refine c_seq ?_
                refine c_region ?_
                refine JL_run 5 [] [4, 2] 3 ⟨[(4, .p 2 0), (2, .p 0 0)], [⟨24, [vI x.id, vI m.reply.n, vI x.next, .v (.slice y1.A y1.n y1.c)]⟩, ⟨46, [vI m.client, vI m.seq, vI m.reply.code, vI m.reply.n, vS m.reply.text]⟩, ⟨24, [vI 0, vI 0, vI 0, .v (.slice none 0 0)]⟩]⟩ [] [] (by kernel_rfl) on wn ?_
                refine l_nil (q_then_normal ?_)
                refine c_seq ?_
                refine c_region ?_
                refine JL_run 3 [] [5, 4] 3 ⟨[(5, vI 0), (4, .p 2 0)], [⟨24, [vI x.id, vI m.reply.n, vI x.next, .v (.slice y1.A y1.n y1.c)]⟩, ⟨46, [vI m.client, vI m.seq, vI m.reply.code, vI m.reply.n, vS m.reply.text]⟩, ⟨24, [vI x.id, vI m.reply.n, vI x.next, .v (.slice y1.A y1.n y1.c)]⟩]⟩ [] [] (by kernel_rfl) on wn ?_
                refine l_nil (q_then_normal ?_)
                refine c_ret ?_
                refine q_then_ret (q_ret (.inl rfl) [.v (.agg #[.int .i64 x.id, .int .i64 m.reply.n, .int .i64 x.next, .slice y1.A y1.n y1.c]), vI 0] rfl (fun bs w hS => ?_))
                have e4 := hF1
                have hm : mHear x.abs m = (⟨x.id, m.reply.n, x.next, x.waits.xs⟩, 0) := by
                  have ha5 : x.abs.waits = x.waits.xs := rfl
                  unfold mHear; rw [ha1, ha2, ha3, ha5]; try simp only [h1, h2, h3, h5, ne_eq, not_true_eq_false, not_false_eq_true, if_true, if_false, reduceIte, true_or, or_true, or_self, false_or, or_false]
                  repeat (first | rw [if_pos (by omega)] | rw [if_neg (by omega)])
                  all_goals rfl
                refine ⟨⟨x.id, m.reply.n, x.next, y1⟩, ?_, ?_, hS.outS (y := (⟨x.id, m.reply.n, x.next, y1⟩ : CCustomer)) (allR_row (.head _) (hS.res _ (.head _)) hsz1)⟩
                · rw [hm]; rfl
                · rw [hm]; simp [CCustomer.abs, e4]
          | false =>
            have h5 := of_decide_eq_false h5
            refine JL_run 6 [] [30, 4, 3, 2] 3 ⟨[(30, vB (!(decide (m.reply.code = 7)))), (4, .p 2 0), (3, .p 1 0), (2, .p 0 0)], [⟨24, [vI x.id, vI x.session, vI x.next, .v (.slice y1.A y1.n y1.c)]⟩, ⟨46, [vI m.client, vI m.seq, vI m.reply.code, vI m.reply.n, vS m.reply.text]⟩, ⟨24, [vI 0, vI 0, vI 0, .v (.slice none 0 0)]⟩]⟩ [] [] (by kernel_rfl) on wn ?_
            refine l_nil (q_then_normal ?_)
            cases h8 : decide (m.reply.code = 7) with
            | true =>
              have h8 := of_decide_eq_true h8
              refine c_if false rfl ?_
              refine c_seq ?_
              refine c_region ?_
              refine JL_run 5 [] [47, 4, 3, 2] 3 ⟨[(47, vB (decide (m.reply.n < 1))), (4, .p 2 0), (3, .p 1 0), (2, .p 0 0)], [⟨24, [vI x.id, vI x.session, vI x.next, .v (.slice y1.A y1.n y1.c)]⟩, ⟨46, [vI m.client, vI m.seq, vI m.reply.code, vI m.reply.n, vS m.reply.text]⟩, ⟨24, [vI 0, vI 0, vI 0, .v (.slice none 0 0)]⟩]⟩ [] [] (by kernel_rfl) on wn ?_
              cases h9 : decide (m.reply.n < 1) with
              | true =>
                have h9 := of_decide_eq_true h9
                refine JL_run 6 [] [42, 4, 3, 2] 3 ⟨[(42, vB true), (4, .p 2 0), (3, .p 1 0), (2, .p 0 0)], [⟨24, [vI x.id, vI x.session, vI x.next, .v (.slice y1.A y1.n y1.c)]⟩, ⟨46, [vI m.client, vI m.seq, vI m.reply.code, vI m.reply.n, vS m.reply.text]⟩, ⟨24, [vI 0, vI 0, vI 0, .v (.slice none 0 0)]⟩]⟩ [] [] (by kernel_rfl) on wn ?_
                refine l_nil (q_then_normal ?_)
                refine c_if true rfl ?_
                refine c_seq ?_
                refine c_region ?_
                refine JL_run 3 [] [5, 4] 3 ⟨[(5, vI 2), (4, .p 2 0)], [⟨24, [vI x.id, vI x.session, vI x.next, .v (.slice y1.A y1.n y1.c)]⟩, ⟨46, [vI m.client, vI m.seq, vI m.reply.code, vI m.reply.n, vS m.reply.text]⟩, ⟨24, [vI 0, vI 0, vI 0, .v (.slice none 0 0)]⟩]⟩ [] [] (by kernel_rfl) on wn ?_
                refine l_nil (q_then_normal ?_)
                refine c_ret ?_
                refine q_block_ret (q_then_ret (q_then_ret (q_ret (.inl rfl) [.v (.agg #[.int .i64 0, .int .i64 0, .int .i64 0, .slice none 0 0]), vI 2] rfl (fun bs w hS => ?_))))
                have hm : mHear x.abs m = (zCust, 2) := by
                  have ha5 : x.abs.waits = x.waits.xs := rfl
                  unfold mHear; rw [ha1, ha2, ha3, ha5]; try simp only [h1, h2, h3, h5, h8, ne_eq, not_true_eq_false, not_false_eq_true, if_true, if_false, reduceIte, true_or, or_true, or_self, false_or, or_false]
                  repeat (first | rw [if_pos (by omega)] | rw [if_neg (by omega)])
                  all_goals rfl
                refine ⟨⟨0, 0, 0, Sl.nil⟩, ?_, ?_, hS.outS (y := (⟨0, 0, 0, Sl.nil⟩ : CCustomer)) (Sl.rd_nil _ _)⟩
                · simp only [retOf, den, List.map_cons, List.map_nil]; rw [hm]; rfl
                · rw [hm]; rfl
              | false =>
                have h9 := of_decide_eq_false h9
                refine JL_run 6 [] [42, 4, 3, 2] 3 ⟨[(42, vB (decide ((1073741824 : Int) < m.reply.n))), (4, .p 2 0), (3, .p 1 0), (2, .p 0 0)], [⟨24, [vI x.id, vI x.session, vI x.next, .v (.slice y1.A y1.n y1.c)]⟩, ⟨46, [vI m.client, vI m.seq, vI m.reply.code, vI m.reply.n, vS m.reply.text]⟩, ⟨24, [vI 0, vI 0, vI 0, .v (.slice none 0 0)]⟩]⟩ [] [] (by kernel_rfl) on wn ?_
                refine l_nil (q_then_normal ?_)
                cases h10 : decide ((1073741824 : Int) < m.reply.n) with
                | true =>
                  have h10 := of_decide_eq_true h10
                  refine c_if true rfl ?_
                  refine c_seq ?_
                  refine c_region ?_
                  refine JL_run 3 [] [5, 4] 3 ⟨[(5, vI 2), (4, .p 2 0)], [⟨24, [vI x.id, vI x.session, vI x.next, .v (.slice y1.A y1.n y1.c)]⟩, ⟨46, [vI m.client, vI m.seq, vI m.reply.code, vI m.reply.n, vS m.reply.text]⟩, ⟨24, [vI 0, vI 0, vI 0, .v (.slice none 0 0)]⟩]⟩ [] [] (by kernel_rfl) on wn ?_
                  refine l_nil (q_then_normal ?_)
                  refine c_ret ?_
                  refine q_block_ret (q_then_ret (q_then_ret (q_ret (.inl rfl) [.v (.agg #[.int .i64 0, .int .i64 0, .int .i64 0, .slice none 0 0]), vI 2] rfl (fun bs w hS => ?_))))
                  have hm : mHear x.abs m = (zCust, 2) := by
                    have ha5 : x.abs.waits = x.waits.xs := rfl
                    unfold mHear; rw [ha1, ha2, ha3, ha5]; try simp only [h1, h2, h3, h5, h8, ne_eq, not_true_eq_false, not_false_eq_true, if_true, if_false, reduceIte, true_or, or_true, or_self, false_or, or_false]
                    repeat (first | rw [if_pos (by omega)] | rw [if_neg (by omega)])
                    all_goals rfl
                  refine ⟨⟨0, 0, 0, Sl.nil⟩, ?_, ?_, hS.outS (y := (⟨0, 0, 0, Sl.nil⟩ : CCustomer)) (Sl.rd_nil _ _)⟩
                  · simp only [retOf, den, List.map_cons, List.map_nil]; rw [hm]; rfl
                  · rw [hm]; rfl
                | false =>
                  have h10 := of_decide_eq_false h10
                  refine c_if false rfl ?_
                  refine c_skip ?_
                  refine q_block_normal (q_then_normal ?_)
                  refine c_seq ?_
                  refine c_region ?_
                  refine JL_run 5 [] [4, 2] 3 ⟨[(4, .p 2 0), (2, .p 0 0)], [⟨24, [vI x.id, vI m.reply.n, vI x.next, .v (.slice y1.A y1.n y1.c)]⟩, ⟨46, [vI m.client, vI m.seq, vI m.reply.code, vI m.reply.n, vS m.reply.text]⟩, ⟨24, [vI 0, vI 0, vI 0, .v (.slice none 0 0)]⟩]⟩ [] [] (by kernel_rfl) on wn ?_
                  refine l_nil (q_then_normal ?_)
                  refine c_seq ?_
                  refine c_region ?_
                  refine JL_run 3 [] [5, 4] 3 ⟨[(5, vI 0), (4, .p 2 0)], [⟨24, [vI x.id, vI m.reply.n, vI x.next, .v (.slice y1.A y1.n y1.c)]⟩, ⟨46, [vI m.client, vI m.seq, vI m.reply.code, vI m.reply.n, vS m.reply.text]⟩, ⟨24, [vI x.id, vI m.reply.n, vI x.next, .v (.slice y1.A y1.n y1.c)]⟩]⟩ [] [] (by kernel_rfl) on wn ?_
                  refine l_nil (q_then_normal ?_)
                  refine c_ret ?_
                  refine q_then_ret (q_ret (.inl rfl) [.v (.agg #[.int .i64 x.id, .int .i64 m.reply.n, .int .i64 x.next, .slice y1.A y1.n y1.c]), vI 0] rfl (fun bs w hS => ?_))
                  have e4 := hF1
                  have hm : mHear x.abs m = (⟨x.id, m.reply.n, x.next, x.waits.xs⟩, 0) := by
                    have ha5 : x.abs.waits = x.waits.xs := rfl
                    unfold mHear; rw [ha1, ha2, ha3, ha5]; try simp only [h1, h2, h3, h5, h8, ne_eq, not_true_eq_false, not_false_eq_true, if_true, if_false, reduceIte, true_or, or_true, or_self, false_or, or_false]
                    repeat (first | rw [if_pos (by omega)] | rw [if_neg (by omega)])
                    all_goals rfl
                  refine ⟨⟨x.id, m.reply.n, x.next, y1⟩, ?_, ?_, hS.outS (y := (⟨x.id, m.reply.n, x.next, y1⟩ : CCustomer)) (allR_row (.head _) (hS.res _ (.head _)) hsz1)⟩
                  · rw [hm]; rfl
                  · rw [hm]; simp [CCustomer.abs, e4]
            | false =>
              have h8 := of_decide_eq_false h8
              refine c_if true rfl ?_
              refine c_seq ?_
              refine c_region ?_
              refine JL_run 3 [] [5, 4] 3 ⟨[(5, vI 0), (4, .p 2 0)], [⟨24, [vI x.id, vI x.session, vI x.next, .v (.slice y1.A y1.n y1.c)]⟩, ⟨46, [vI m.client, vI m.seq, vI m.reply.code, vI m.reply.n, vS m.reply.text]⟩, ⟨24, [vI x.id, vI x.session, vI x.next, .v (.slice y1.A y1.n y1.c)]⟩]⟩ [] [] (by kernel_rfl) on wn ?_
              refine l_nil (q_then_normal ?_)
              refine c_ret ?_
              refine q_block_ret (q_then_ret (q_then_ret (q_ret (.inl rfl) [.v (.agg #[.int .i64 x.id, .int .i64 x.session, .int .i64 x.next, .slice y1.A y1.n y1.c]), vI 0] rfl (fun bs w hS => ?_))))
              have e4 := hF1
              have hm : mHear x.abs m = (⟨x.id, x.session, x.next, x.waits.xs⟩, 0) := by
                have ha5 : x.abs.waits = x.waits.xs := rfl
                unfold mHear; rw [ha1, ha2, ha3, ha5]; try simp only [h1, h2, h3, h5, h8, ne_eq, not_true_eq_false, not_false_eq_true, if_true, if_false, reduceIte, true_or, or_true, or_self, false_or, or_false]
                repeat (first | rw [if_pos (by omega)] | rw [if_neg (by omega)])
                all_goals rfl
              refine ⟨⟨x.id, x.session, x.next, y1⟩, ?_, ?_, hS.outS (y := (⟨x.id, x.session, x.next, y1⟩ : CCustomer)) (allR_row (.head _) (hS.res _ (.head _)) hsz1)⟩
              · rw [hm]; rfl
              · rw [hm]; simp [CCustomer.abs, e4]
      | false =>
        have h3 := of_decide_eq_false h3
        refine c_if false rfl ?_
        refine c_skip ?_
        refine q_then_normal ?_
        refine c_seq ?_
        refine c_region ?_
        refine JL_run 3 [] [61, 60, 4, 3, 2] 3 ⟨[(61, .fn 66 [(1, 0)]), (60, .v (.slice y1.A y1.n y1.c)), (4, .p 2 0), (3, .p 1 0), (2, .p 0 0)], [⟨24, [vI x.id, vI x.session, vI x.next, .v (.slice y1.A y1.n y1.c)]⟩, ⟨46, [vI m.client, vI m.seq, vI m.reply.code, vI m.reply.n, vS m.reply.text]⟩, ⟨24, [vI 0, vI 0, vI 0, .v (.slice none 0 0)]⟩]⟩ [] [] (by kernel_rfl) on wn ?_
        refine l_pure 65 [] [.v (.slice y1.A y1.n y1.c), .fn 66 [(1, 0)]] (.int .i64 (mIdx (fun z : DWait => decide (z.seq = m.seq)) y1.xs)) Try.call65 rfl rfl rfl rfl (fun bs w hS => idx_Wait y1 (fun z : DWait => decide (z.seq = m.seq)) 66 #[.pointer (some (adr bs 1 0))] w (rowA_rd (A := y1.A) (c := y1.c) (L := y1.xs) (B := anyB) (hS.res _ (.head _)) (fun _ _ => trivial) hsz1) Try.call66 (fun w' z hz hk => clo_customer_Hear_1 z m (bs.getD 1 0) w' (show (blkR _ _ _).p w' from (hS.pure hk).loc 1 ⟨46, [vI m.client, vI m.seq, vI m.reply.code, vI m.reply.n, vS m.reply.text]⟩ rfl (by simp)))) ?_
        refine JL_run 1 [] [7, 4, 3, 2] 3 ⟨[(7, vI (mIdx (fun z : DWait => decide (z.seq = m.seq)) y1.xs)), (4, .p 2 0), (3, .p 1 0), (2, .p 0 0)], [⟨24, [vI x.id, vI x.session, vI x.next, .v (.slice y1.A y1.n y1.c)]⟩, ⟨46, [vI m.client, vI m.seq, vI m.reply.code, vI m.reply.n, vS m.reply.text]⟩, ⟨24, [vI 0, vI 0, vI 0, .v (.slice none 0 0)]⟩]⟩ [] [] (by kernel_rfl) on wn ?_
        refine l_nil (q_then_normal ?_)
        refine c_seq ?_
        refine c_block ?_
        refine c_seq ?_
        refine c_region ?_
        refine JL_run 3 [] [70, 7, 4, 3, 2] 3 ⟨[(70, vB (decide (mIdx (fun z : DWait => decide (z.seq = m.seq)) y1.xs < 0))), (7, vI (mIdx (fun z : DWait => decide (z.seq = m.seq)) y1.xs)), (4, .p 2 0), (3, .p 1 0), (2, .p 0 0)], [⟨24, [vI x.id, vI x.session, vI x.next, .v (.slice y1.A y1.n y1.c)]⟩, ⟨46, [vI m.client, vI m.seq, vI m.reply.code, vI m.reply.n, vS m.reply.text]⟩, ⟨24, [vI 0, vI 0, vI 0, .v (.slice none 0 0)]⟩]⟩ [] [] (by kernel_rfl) on wn ?_
        refine l_nil (q_then_normal ?_)
        cases h11 : decide (mIdx (fun z : DWait => decide (z.seq = m.seq)) y1.xs < 0) with
        | true =>
          have h11 := of_decide_eq_true h11
          have hidz : mIdx (fun z : DWait => decide (z.seq = m.seq)) x.waits.xs < 0 := by rw [← hF1]; omega
          refine c_if true rfl ?_
          refine c_seq ?_
          refine c_region ?_
          refine JL_run 3 [] [5, 4] 3 ⟨[(5, vI 12), (4, .p 2 0)], [⟨24, [vI x.id, vI x.session, vI x.next, .v (.slice y1.A y1.n y1.c)]⟩, ⟨46, [vI m.client, vI m.seq, vI m.reply.code, vI m.reply.n, vS m.reply.text]⟩, ⟨24, [vI 0, vI 0, vI 0, .v (.slice none 0 0)]⟩]⟩ [] [] (by kernel_rfl) on wn ?_
          refine l_nil (q_then_normal ?_)
          refine c_ret ?_
          refine q_block_ret (q_then_ret (q_ret (.inl rfl) [.v (.agg #[.int .i64 0, .int .i64 0, .int .i64 0, .slice none 0 0]), vI 12] rfl (fun bs w hS => ?_)))
          have hm : mHear x.abs m = (zCust, 12) := by
            have ha5 : x.abs.waits = x.waits.xs := rfl
            unfold mHear; rw [ha1, ha2, ha3, ha5]; try simp only [h1, h2, h3, ne_eq, not_true_eq_false, not_false_eq_true, if_true, if_false, reduceIte, true_or, or_true, or_self, false_or, or_false]
            repeat (first | rw [if_pos (by omega)] | rw [if_neg (by omega)])
            all_goals rfl
          refine ⟨⟨0, 0, 0, Sl.nil⟩, ?_, ?_, hS.outS (y := (⟨0, 0, 0, Sl.nil⟩ : CCustomer)) (Sl.rd_nil _ _)⟩
          · simp only [retOf, den, List.map_cons, List.map_nil]; rw [hm]; rfl
          · rw [hm]; rfl
        | false =>
          have h11 := of_decide_eq_false h11
          have hbdx := mIdx_bd (fun z : DWait => decide (z.seq = m.seq)) y1.xs
          refine c_if false rfl ?_
          refine c_seq ?_
          refine c_region ?_
          refine JL_run 5 [] [74, 7, 4, 2] 3 ⟨[(74, vB (decide (m.reply.code = 11))), (7, vI (mIdx (fun z : DWait => decide (z.seq = m.seq)) y1.xs)), (4, .p 2 0), (2, .p 0 0)], [⟨24, [vI x.id, vI x.session, vI x.next, .v (.slice y1.A y1.n y1.c)]⟩, ⟨46, [vI m.client, vI m.seq, vI m.reply.code, vI m.reply.n, vS m.reply.text]⟩, ⟨24, [vI 0, vI 0, vI 0, .v (.slice none 0 0)]⟩]⟩ [] [] (by kernel_rfl) on wn ?_
          refine l_nil (q_then_normal ?_)
          cases h12 : decide (m.reply.code = 11) with
          | true =>
            have h12 := of_decide_eq_true h12
            refine c_if true rfl ?_
            refine c_region ?_
            refine JL_run 4 [] [4, 2] 3 ⟨[(4, .p 2 0), (2, .p 0 0)], [⟨24, [vI x.id, vI 0, vI x.next, .v (.slice none 0 0)]⟩, ⟨46, [vI m.client, vI m.seq, vI m.reply.code, vI m.reply.n, vS m.reply.text]⟩, ⟨24, [vI 0, vI 0, vI 0, .v (.slice none 0 0)]⟩]⟩ [] [] (by kernel_rfl) on wn ?_
            refine l_nil (q_block_normal (q_then_normal ?_))
            refine c_seq ?_
            refine c_region ?_
            refine JL_run 3 [] [5, 4] 3 ⟨[(5, vI 0), (4, .p 2 0)], [⟨24, [vI x.id, vI 0, vI x.next, .v (.slice none 0 0)]⟩, ⟨46, [vI m.client, vI m.seq, vI m.reply.code, vI m.reply.n, vS m.reply.text]⟩, ⟨24, [vI x.id, vI 0, vI x.next, .v (.slice none 0 0)]⟩]⟩ [] [] (by kernel_rfl) on wn ?_
            refine l_nil (q_then_normal ?_)
            refine c_ret ?_
            refine q_ret (.inl rfl) [.v (.agg #[.int .i64 x.id, .int .i64 0, .int .i64 x.next, .slice none 0 0]), vI 0] rfl (fun bs w hS => ?_)
            have e4 := hF1
            have hid : ¬ mIdx (fun z : DWait => decide (z.seq = m.seq)) x.waits.xs < 0 := by rw [← hF1]; omega
            have hm : mHear x.abs m = (⟨x.id, 0, x.next, []⟩, 0) := by
              have ha5 : x.abs.waits = x.waits.xs := rfl
              unfold mHear; rw [ha1, ha2, ha3, ha5]; try simp only [h1, h2, h3, h12, ne_eq, not_true_eq_false, not_false_eq_true, if_true, if_false, reduceIte, true_or, or_true, or_self, false_or, or_false]
              repeat (first | rw [if_pos (by omega)] | rw [if_neg (by omega)])
              all_goals rfl
            refine ⟨⟨x.id, 0, x.next, Sl.nil⟩, ?_, ?_, hS.outS (y := (⟨x.id, 0, x.next, Sl.nil⟩ : CCustomer)) (Sl.rd_nil _ _)⟩
            · rw [hm]; rfl
            · rw [hm]; simp [CCustomer.abs, Sl.nil]
          | false =>
            have h12 := of_decide_eq_false h12
            refine c_if false rfl ?_
            refine c_region ?_
            refine JL_run 5 [] [67, 65, 64, 4, 2] 3 ⟨[(67, vI ((mIdx (fun z : DWait => decide (z.seq = m.seq)) y1.xs) + 1)), (65, vI (mIdx (fun z : DWait => decide (z.seq = m.seq)) y1.xs)), (64, .v (.slice y1.A y1.n y1.c)), (4, .p 2 0), (2, .p 0 0)], [⟨24, [vI x.id, vI x.session, vI x.next, .v (.slice y1.A y1.n y1.c)]⟩, ⟨46, [vI m.client, vI m.seq, vI m.reply.code, vI m.reply.n, vS m.reply.text]⟩, ⟨24, [vI 0, vI 0, vI 0, .v (.slice none 0 0)]⟩]⟩ [inR ((mIdx (fun z : DWait => decide (z.seq = m.seq)) y1.xs) + 1)] [] (by kernel_rfl) (oc (by unfold inR; omega) on) wn ?_
            refine l_turn (σ := Unit) 67 [] [.v (.slice y1.A y1.n y1.c), vI (mIdx (fun z : DWait => decide (z.seq = m.seq)) y1.xs), vI ((mIdx (fun z : DWait => decide (z.seq = m.seq)) y1.xs) + 1)] (fun _ => .slice y1.A (y1.xs.take (mIdx (fun z : DWait => decide (z.seq = m.seq)) y1.xs).toNat ++ y1.xs.drop ((mIdx (fun z : DWait => decide (z.seq = m.seq)) y1.xs).toNat + 1)).length y1.c) (fun _ => True) (fun _ => rowA 83 y1.A y1.c (y1.xs.take (mIdx (fun z : DWait => decide (z.seq = m.seq)) y1.xs).toNat ++ y1.xs.drop ((mIdx (fun z : DWait => decide (z.seq = m.seq)) y1.xs).toNat + 1) : List DWait)) Try.call67 rfl rfl rfl rfl (fun bs w hS => (delR_Wait y1.A y1.c y1.xs (mIdx (fun z : DWait => decide (z.seq = m.seq)) y1.xs).toNat ((mIdx (fun z : DWait => decide (z.seq = m.seq)) y1.xs).toNat + 1) _ _ w (hS.res _ (.head _)) hS.head1.2.2 (by omega) (by omega) (by first | omega | (simp only [Sl.n] at *; omega)) (by first | omega | (simp only [Sl.n] at *; omega))).mono (fun e w' ⟨h1, h2⟩ => ⟨(), h1, trivial, h2⟩)) ?_
            rintro _ _
            refine JL_run 2 [] [4, 2] 3 ⟨[(4, .p 2 0), (2, .p 0 0)], [⟨24, [vI x.id, vI x.session, vI x.next, .v (.slice y1.A (y1.xs.take (mIdx (fun z : DWait => decide (z.seq = m.seq)) y1.xs).toNat ++ y1.xs.drop ((mIdx (fun z : DWait => decide (z.seq = m.seq)) y1.xs).toNat + 1)).length y1.c)]⟩, ⟨46, [vI m.client, vI m.seq, vI m.reply.code, vI m.reply.n, vS m.reply.text]⟩, ⟨24, [vI 0, vI 0, vI 0, .v (.slice none 0 0)]⟩]⟩ [] [] (by kernel_rfl) on wn ?_
            refine l_nil (q_block_normal (q_then_normal ?_))
            refine c_seq ?_
            refine c_region ?_
            refine JL_run 3 [] [5, 4] 3 ⟨[(5, vI 0), (4, .p 2 0)], [⟨24, [vI x.id, vI x.session, vI x.next, .v (.slice y1.A (y1.xs.take (mIdx (fun z : DWait => decide (z.seq = m.seq)) y1.xs).toNat ++ y1.xs.drop ((mIdx (fun z : DWait => decide (z.seq = m.seq)) y1.xs).toNat + 1)).length y1.c)]⟩, ⟨46, [vI m.client, vI m.seq, vI m.reply.code, vI m.reply.n, vS m.reply.text]⟩, ⟨24, [vI x.id, vI x.session, vI x.next, .v (.slice y1.A (y1.xs.take (mIdx (fun z : DWait => decide (z.seq = m.seq)) y1.xs).toNat ++ y1.xs.drop ((mIdx (fun z : DWait => decide (z.seq = m.seq)) y1.xs).toNat + 1)).length y1.c)]⟩]⟩ [] [] (by kernel_rfl) on wn ?_
            refine l_nil (q_then_normal ?_)
            refine c_ret ?_
            refine q_ret (.inl rfl) [.v (.agg #[.int .i64 x.id, .int .i64 x.session, .int .i64 x.next, .slice y1.A (y1.xs.take (mIdx (fun z : DWait => decide (z.seq = m.seq)) y1.xs).toNat ++ y1.xs.drop ((mIdx (fun z : DWait => decide (z.seq = m.seq)) y1.xs).toNat + 1)).length y1.c]), vI 0] rfl (fun bs w hS => ?_)
            have e4 := hF1
            have hfl : y1.xs.take (mIdx (fun z : DWait => decide (z.seq = m.seq)) y1.xs).toNat ++ y1.xs.drop ((mIdx (fun z : DWait => decide (z.seq = m.seq)) y1.xs).toNat + 1) = x.waits.xs.filter fun z => !decide (z.seq = m.seq) := by rw [hF1]; exact waits_one (x := x.abs) (by assumption) (by show mIdx _ x.waits.xs = _; rw [← hF1]; omega)
            have hid : ¬ mIdx (fun z : DWait => decide (z.seq = m.seq)) x.waits.xs < 0 := by rw [← hF1]; omega
            have hm : mHear x.abs m = (⟨x.id, x.session, x.next, x.waits.xs.filter fun z => !decide (z.seq = m.seq)⟩, 0) := by
              have ha5 : x.abs.waits = x.waits.xs := rfl
              unfold mHear; rw [ha1, ha2, ha3, ha5]; try simp only [h1, h2, h3, h12, ne_eq, not_true_eq_false, not_false_eq_true, if_true, if_false, reduceIte, true_or, or_true, or_self, false_or, or_false]
              repeat (first | rw [if_pos (by omega)] | rw [if_neg (by omega)])
              all_goals rfl
            refine ⟨⟨x.id, x.session, x.next, ⟨y1.A, y1.c, y1.xs.take (mIdx (fun z : DWait => decide (z.seq = m.seq)) y1.xs).toNat ++ y1.xs.drop ((mIdx (fun z : DWait => decide (z.seq = m.seq)) y1.xs).toNat + 1)⟩⟩, ?_, ?_, hS.outS (y := (⟨x.id, x.session, x.next, ⟨y1.A, y1.c, y1.xs.take (mIdx (fun z : DWait => decide (z.seq = m.seq)) y1.xs).toNat ++ y1.xs.drop ((mIdx (fun z : DWait => decide (z.seq = m.seq)) y1.xs).toNat + 1)⟩⟩ : CCustomer)) (allR_row (.head _) (hS.res _ (.head _)) (fun z hz => Sl.rd.mem (s := x.waits) hx z (List.mem_filter.1 (hfl ▸ hz)).1))⟩
            · rw [hm]; rfl
            · rw [hm]; simp [CCustomer.abs, hfl]
    | false =>
      have h2 := of_decide_eq_false h2
      refine c_if true rfl ?_
      refine c_seq ?_
      refine c_region ?_
      refine JL_run 3 [] [5, 4] 3 ⟨[(5, vI 6), (4, .p 2 0)], [⟨24, [vI x.id, vI x.session, vI x.next, .v (.slice x.waits.A x.waits.n x.waits.c)]⟩, ⟨46, [vI m.client, vI m.seq, vI m.reply.code, vI m.reply.n, vS m.reply.text]⟩, ⟨24, [vI 0, vI 0, vI 0, .v (.slice none 0 0)]⟩]⟩ [] [] (by kernel_rfl) on wn ?_
      refine l_nil (q_then_normal ?_)
      refine c_ret ?_
      refine q_then_ret (q_ret (.inl rfl) [.v (.agg #[.int .i64 0, .int .i64 0, .int .i64 0, .slice none 0 0]), vI 6] rfl (fun bs w hS => ?_))
      have hm : mHear x.abs m = (zCust, 6) := by
        have ha5 : x.abs.waits = x.waits.xs := rfl
        unfold mHear; rw [ha1, ha2, ha3, ha5]; try simp only [h1, h2, ne_eq, not_true_eq_false, not_false_eq_true, if_true, if_false, reduceIte, true_or, or_true, or_self, false_or, or_false]
        repeat (first | rw [if_pos (by omega)] | rw [if_neg (by omega)])
        all_goals rfl
      refine ⟨⟨0, 0, 0, Sl.nil⟩, ?_, ?_, hS.outS (y := (⟨0, 0, 0, Sl.nil⟩ : CCustomer)) (Sl.rd_nil _ _)⟩
      · simp only [retOf, den, List.map_cons, List.map_nil]; rw [hm]; rfl
      · rw [hm]; rfl
  | false =>
    have h1 := of_decide_eq_false h1
    refine c_if true rfl ?_
    refine c_seq ?_
    refine c_region ?_
    refine JL_run 4 [] [5, 4] 3 ⟨[(5, vI (mCust x.abs)), (4, .p 2 0)], [⟨24, [vI x.id, vI x.session, vI x.next, .v (.slice x.waits.A x.waits.n x.waits.c)]⟩, ⟨46, [vI m.client, vI m.seq, vI m.reply.code, vI m.reply.n, vS m.reply.text]⟩, ⟨24, [vI 0, vI 0, vI 0, .v (.slice none 0 0)]⟩]⟩ [] [] (by kernel_rfl) on wn ?_
    refine l_nil (q_then_normal ?_)
    refine c_ret ?_
    refine q_then_ret (q_ret (.inl rfl) [.v (.agg #[.int .i64 0, .int .i64 0, .int .i64 0, .slice none 0 0]), vI (mCust x.abs)] rfl (fun bs w hS => ?_))
    have hm : mHear x.abs m = (zCust, mCust x.abs) := by
      have ha5 : x.abs.waits = x.waits.xs := rfl
      unfold mHear; rw [ha1, ha2, ha3, ha5]; try simp only [h1, ne_eq, not_true_eq_false, not_false_eq_true, if_true, if_false, reduceIte, true_or, or_true, or_self, false_or, or_false]
      repeat (first | rw [if_pos (by omega)] | rw [if_neg (by omega)])
      all_goals rfl
    refine ⟨⟨0, 0, 0, Sl.nil⟩, ?_, ?_, hS.outS (y := (⟨0, 0, 0, Sl.nil⟩ : CCustomer)) (Sl.rd_nil _ _)⟩
    · simp only [retOf, den, List.map_cons, List.map_nil]; rw [hm]; rfl
    · rw [hm]; rfl

end Go.Proofs.Ytececkgjacccmac.W
