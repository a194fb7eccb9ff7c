/-
  The functions that the law LogLasts reaches, walked: each returns what its model says.
  Conditions: those that each theorem states.
-/
import Derived.Test.YtececkgjacccmaaMc
import Derived.Test.YtececkgjacccmaaChecked
set_option linter.unusedVariables false
set_option linter.unusedSimpArgs false
set_option maxRecDepth 100000
namespace Go.Proofs.Ytececkgjacccmaa.W
open Go.Proofs.Ytececkgjacccmaa.Fw Go.RowKit

theorem Try_mixed : Try.prog.follows .mixedOrders = true := by kernel_rfl
theorem laid : laidOutB Try.prog = true := by kernel_rfl

theorem ref_In (n lo hi : Int) (w : World) : Calls Try.prog 38 #[.int .i64 n, .int .i64 lo, .int .i64 hi] w fun e w' => e = .returned (.bool (inB n lo hi)) ∧ Kp [] w w' := by
  refine calls_J0 15 Try.func38 rfl rfl [.int .i64 n, .int .i64 lo, .int .i64 hi] rfl ?_
  refine c_seq ?_
  refine c_region ?_
  refine JL_run 1 [] [0, 1, 2] 0 ⟨[(0, vI n), (1, vI lo), (2, vI hi)], []⟩ [] [] (by kernel_rfl) on wn ?_
  refine l_nil (q_then_normal ?_)
  refine c_seq ?_
  refine c_region ?_
  refine JL_run 4 [] [10, 0, 2] 0 ⟨[(10, vB (decide (lo ≤ n))), (0, vI n), (2, vI hi)], []⟩ [] [] (by kernel_rfl) on wn ?_
  cases h1 : decide (lo ≤ n) with
  | true =>
    have h1 := of_decide_eq_true h1
    refine JL_run 5 [] [6] 0 ⟨[(6, vB (decide (n ≤ hi)))], []⟩ [] [] (by kernel_rfl) on wn ?_
    refine l_nil (q_then_normal ?_)
    refine c_ret ?_
    refine q_ret (.inl rfl) [vB (decide (n ≤ hi))] rfl (fun bs w hS => ?_)
    exact ⟨by simp [retOf, den, inB, h1], hS.kp⟩
  | false =>
    have h1 := of_decide_eq_false h1
    refine JL_run 5 [] [6] 0 ⟨[(6, vB false)], []⟩ [] [] (by kernel_rfl) on wn ?_
    refine l_nil (q_then_normal ?_)
    refine c_ret ?_
    refine q_ret (.inl rfl) [vB false] rfl (fun bs w hS => ?_)
    exact ⟨by simp [retOf, den, inB, h1], hS.kp⟩

theorem ref_NameMay (s : ByteArray) (w : World) (hs : s.size ≤ 9223372036854775807) : Calls Try.prog 29 #[.string s] w fun e w' => e = .returned (.bool (mName s)) ∧ Kp [] w w' := by
  refine calls_J0 19 Try.func29 rfl rfl [.string s] rfl ?_
  refine c_seq ?_
  refine c_region ?_
  refine JL_run 1 [] [0] 0 ⟨[(0, vS s)], []⟩ [] [] (by kernel_rfl) on wn ?_
  refine l_nil (q_then_normal ?_)
  refine c_seq ?_
  refine c_seq ?_
  refine c_region ?_
  refine JL_run 1 [] [3, 0] 0 ⟨[(3, vI 0), (0, vS s)], []⟩ [] [] (by kernel_rfl) on wn ?_
  refine l_nil (q_then_normal ?_)
  refine c_block ?_
  refine c_loop (σ := Nat) (fun i => i ≤ s.size ∧ ∀ j, j < i → nameBad (s.data.getD j 0) = false) (fun i => s.size - i) (fun i => []) (fun i => ⟨[(3, vI ((i : Nat) : Int)), (0, vS s)], []⟩) 0 ⟨Nat.zero_le _, fun j hj => absurd hj (Nat.not_lt_zero _)⟩ (s_start [3, 0] 0 (by kernel_rfl) rfl) ?_
  rintro i ⟨hi, hI⟩
  have hu := (s.data.getD i 0).toNat_lt
  refine c_seq ?_
  refine c_seq ?_
  refine c_region ?_
  refine JL_run 4 [] [7, 3, 0] 0 ⟨[(7, vB (decide (((i : Nat) : Int) < (s.size : Int)))), (3, vI ((i : Nat) : Int)), (0, vS s)], []⟩ [] [] (by kernel_rfl) on wn ?_
  refine l_nil (q_then_normal ?_)
  cases h1 : decide (((i : Nat) : Int) < (s.size : Int)) with
  | true =>
    have h1 := of_decide_eq_true h1
    refine c_if true rfl ?_
    refine c_skip ?_
    refine q_then_normal ?_
    refine c_seq ?_
    refine c_block ?_
    refine c_seq ?_
    refine c_region ?_
    refine JL_run 4 [(2, .sidx i)] [13, 3, 0] 0 ⟨[(13, vI ((s.data.getD i 0).toNat : Int)), (3, vI ((i : Nat) : Int)), (0, vS s)], []⟩ [((i : Nat) : Int) = ((i : Nat) : Int), i < s.size, 0 ≤ ((s.data.getD i 0).toNat : Int), ((s.data.getD i 0).toNat : Int) ≤ 255] [] (by kernel_rfl) (oc rfl (oc (by omega) (oc (by omega) (oc (by omega) on)))) wn ?_
    refine l_pure 38 [] [vI ((s.data.getD i 0).toNat : Int), vI 97, vI 122] (.bool (inB ((s.data.getD i 0).toNat : Int) 97 122)) Try.call38 rfl rfl rfl rfl (fun bs w hS => ref_In _ _ _ w) ?_
    refine JL_run 1 [] [15, 3, 0] 0 ⟨[(15, vB (!(inB ((s.data.getD i 0).toNat : Int) 97 122))), (3, vI ((i : Nat) : Int)), (0, vS s)], []⟩ [] [] (by kernel_rfl) on wn ?_
    refine l_nil (q_then_normal ?_)
    cases h2 : inB ((s.data.getD i 0).toNat : Int) 97 122 with
    | true =>
      refine c_if false rfl ?_
      refine c_skip ?_
      refine q_block_normal (q_then_normal ?_)
      refine c_region ?_
      refine JL_run 3 [] [3, 0] 0 ⟨[(3, vI (((i : Nat) : Int) + 1)), (0, vS s)], []⟩ [inR (((i : Nat) : Int) + 1)] [] (by kernel_rfl) (oc (by unfold inR; omega) on) wn ?_
      refine l_nil (q_loop (x := (i : Nat)) ((i + 1) : Nat) ⟨by omega, fun j hj => by rcases Nat.lt_succ_iff_lt_or_eq.1 hj with h | h; exact hI j h; subst h; simp only [inB, nameBad, Bool.and_eq_true, Bool.or_eq_false_iff, decide_eq_true_eq, decide_eq_false_iff_not] at *; omega⟩ (by omega) (s_start [3, 0] 0 (by kernel_rfl) rfl))
    | false =>
      refine c_if true rfl ?_
      refine c_seq ?_
      refine c_region ?_
      refine JL_run 1 [] [2] 0 ⟨[(2, vB false)], []⟩ [] [] (by kernel_rfl) on wn ?_
      refine l_nil (q_then_normal ?_)
      refine c_ret ?_
      refine q_block_ret (q_then_ret (q_then_ret (q_block_ret (q_then_ret (q_ret (.inl rfl) [vB false] rfl (fun bs w hS => ?_))))))
      refine ⟨?_, hS.kp⟩
      rw [mName_bad (i := i) (by omega) (by simp only [inB, nameBad, Bool.and_eq_false_iff, Bool.or_eq_true, decide_eq_true_eq, decide_eq_false_iff_not] at *; omega)]
      rfl
  | false =>
    have h1 := of_decide_eq_false h1
    refine c_if false rfl ?_
    refine c_exit ?_
    refine q_then_exit (q_then_exit (q_block_hit (q_then_normal ?_)))
    refine c_seq ?_
    refine c_region ?_
    refine JL_run 2 [] [17] 0 ⟨[(17, vI (s.size : Int))], []⟩ [] [] (by kernel_rfl) on wn ?_
    refine l_pure 38 [] [vI (s.size : Int), vI 1, vI 6] (.bool (inB (s.size : Int) 1 6)) Try.call38 rfl rfl rfl rfl (fun bs w hS => ref_In _ _ _ w) ?_
    refine JL_run 1 [] [2] 0 ⟨[(2, vB (inB (s.size : Int) 1 6))], []⟩ [] [] (by kernel_rfl) on wn ?_
    refine l_nil (q_then_normal ?_)
    refine c_ret ?_
    refine q_ret (.inl rfl) [vB (inB (s.size : Int) 1 6)] rfl (fun bs w hS => ?_)
    refine ⟨?_, hS.kp⟩
    simp only [retOf, den, List.map_cons, List.map_nil, mName_good fun j hj => hI j (by omega)]

theorem ref_NumberOf (s : ByteArray) (w : World) (hs : s.size ≤ 9223372036854775807) : Calls Try.prog 31 #[.string s] w fun e w' => e = .returned (.tuple #[.int .i64 (mRead s).1, .string (mRead s).2.1, .int .i64 (mRead s).2.2]) ∧ Kp [] w w' := by
  refine calls_J0 48 Try.func31 rfl rfl [.string s] rfl ?_
  refine c_seq ?_
  refine c_region ?_
  refine JL_run 3 [] [0] 0 ⟨[(0, vS s)], []⟩ [] [] (by kernel_rfl) on wn ?_
  refine l_nil (q_then_normal ?_)
  refine c_seq ?_
  refine c_region ?_
  refine JL_run 1 [] [5, 0] 0 ⟨[(5, vI 0), (0, vS s)], []⟩ [] [] (by kernel_rfl) on wn ?_
  refine l_nil (q_then_normal ?_)
  refine c_seq ?_
  refine c_region ?_
  refine JL_run 1 [] [6, 5, 0] 0 ⟨[(6, vI 1), (5, vI 0), (0, vS s)], []⟩ [] [] (by kernel_rfl) on wn ?_
  refine l_nil (q_then_normal ?_)
  refine c_seq ?_
  refine c_seq ?_
  refine c_region ?_
  refine JL_run 1 [] [7, 6, 5, 0] 0 ⟨[(7, vI 0), (6, vI 1), (5, vI 0), (0, vS s)], []⟩ [] [] (by kernel_rfl) on wn ?_
  refine l_nil (q_then_normal ?_)
  refine c_block ?_
  refine c_loop (σ := Nat × Int) (fun ⟨i, n⟩ => RdIn s i n) (fun ⟨i, n⟩ => 6 - i) (fun ⟨i, n⟩ => []) (fun ⟨i, n⟩ => ⟨[(7, vI ((i : Nat) : Int)), (6, vI ((128 : Int) ^ i)), (5, vI n), (0, vS s)], []⟩) ⟨0, 0⟩ (RdIn.start s) (s_start [7, 6, 5, 0] 0 (by kernel_rfl) rfl) ?_
  rintro ⟨i, n⟩ hI
  have hle := hI.le
  have hsz := hI.sz
  have hlo := hI.lo
  have hhi := hI.hi
  have hu := (s.data.getD i 0).toNat_lt
  have hbt := unit_bd (s.data.getD i 0) i hle
  refine c_seq ?_
  refine c_seq ?_
  refine c_region ?_
  refine JL_run 2 [] [9, 7, 6, 5, 0] 0 ⟨[(9, vB (decide (((i : Nat) : Int) < 6))), (7, vI ((i : Nat) : Int)), (6, vI ((128 : Int) ^ i)), (5, vI n), (0, vS s)], []⟩ [] [] (by kernel_rfl) on wn ?_
  refine l_nil (q_then_normal ?_)
  cases h1 : decide (((i : Nat) : Int) < 6) with
  | true =>
    have h1 := of_decide_eq_true h1
    refine c_if true rfl ?_
    refine c_skip ?_
    refine q_then_normal ?_
    refine c_seq ?_
    refine c_block ?_
    refine c_seq ?_
    refine c_seq ?_
    refine c_region ?_
    refine JL_run 4 [] [15, 7, 6, 5, 0] 0 ⟨[(15, vB (decide ((s.size : Int) ≤ ((i : Nat) : Int)))), (7, vI ((i : Nat) : Int)), (6, vI ((128 : Int) ^ i)), (5, vI n), (0, vS s)], []⟩ [] [] (by kernel_rfl) on wn ?_
    refine l_nil (q_then_normal ?_)
    cases h2 : decide ((s.size : Int) ≤ ((i : Nat) : Int)) with
    | true =>
      have h2 := of_decide_eq_true h2
      refine c_if true rfl ?_
      refine c_seq ?_
      refine c_region ?_
      refine JL_run 3 [] [4, 3, 2] 0 ⟨[(4, vI 5), (3, vS emp), (2, vI 0)], []⟩ [] [] (by kernel_rfl) on wn ?_
      refine l_nil (q_then_normal ?_)
      refine c_ret ?_
      refine q_then_ret (q_block_ret (q_then_ret (q_then_ret (q_block_ret (q_then_ret (q_ret (.inl rfl) [vI 0, vS emp, vI 5] rfl (fun bs w hS => ?_)))))))
      refine ⟨?_, hS.kp⟩
      rw [hI.short (by omega) (by omega)]
      simp only [retOf, den, List.map_cons, List.map_nil]
    | false =>
      have h2 := of_decide_eq_false h2
      refine c_if false rfl ?_
      refine c_skip ?_
      refine q_then_normal ?_
      refine c_seq ?_
      refine c_region ?_
      refine JL_run 10 [(4, .sidx i)] [5, 7, 6, 0] 0 ⟨[(5, vI (n + (((128 : Int) ^ i) * (((s.data.getD i 0).toNat : Int) % 128)))), (7, vI ((i : Nat) : Int)), (6, vI ((128 : Int) ^ i)), (0, vS s)], []⟩ [((i : Nat) : Int) = ((i : Nat) : Int), i < s.size, 0 ≤ ((s.data.getD i 0).toNat : Int), ((s.data.getD i 0).toNat : Int) ≤ 255, 0 ≤ ((s.data.getD i 0).toNat : Int), (0 : Int) < 128, inR (((128 : Int) ^ i) * (((s.data.getD i 0).toNat : Int) % 128)), inR (n + (((128 : Int) ^ i) * (((s.data.getD i 0).toNat : Int) % 128)))] [] (by kernel_rfl) (oc rfl (oc (by omega) (oc (by omega) (oc (by omega) (oc (by omega) (oc (by omega) (oc (by unfold inR; omega) (oc (by unfold inR; omega) on)))))))) wn ?_
      refine l_nil (q_then_normal ?_)
      refine c_seq ?_
      refine c_region ?_
      refine JL_run 3 [] [6, 5, 7, 0] 0 ⟨[(6, vI (((128 : Int) ^ i) * 128)), (5, vI (n + (((128 : Int) ^ i) * (((s.data.getD i 0).toNat : Int) % 128)))), (7, vI ((i : Nat) : Int)), (0, vS s)], []⟩ [inR (((128 : Int) ^ i) * 128)] [] (by kernel_rfl) (oc (by unfold inR; omega) on) wn ?_
      refine l_nil (q_then_normal ?_)
      refine c_seq ?_
      refine c_region ?_
      refine JL_run 4 [(2, .sidx i)] [30, 6, 5, 7, 0] 0 ⟨[(30, vB (decide (((s.data.getD i 0).toNat : Int) < 128))), (6, vI (((128 : Int) ^ i) * 128)), (5, vI (n + (((128 : Int) ^ i) * (((s.data.getD i 0).toNat : Int) % 128)))), (7, vI ((i : Nat) : Int)), (0, vS s)], []⟩ [((i : Nat) : Int) = ((i : Nat) : Int), i < s.size] [] (by kernel_rfl) (oc rfl (oc (by omega) on)) wn ?_
      refine l_nil (q_then_normal ?_)
      cases h3 : decide (((s.data.getD i 0).toNat : Int) < 128) with
      | true =>
        have h3 := of_decide_eq_true h3
        refine c_if true rfl ?_
        refine c_seq ?_
        refine c_seq ?_
        refine c_region ?_
        refine JL_run 3 [] [33, 5, 7, 0] 0 ⟨[(33, vB (decide ((0 : Int) < ((i : Nat) : Int)))), (5, vI (n + (((128 : Int) ^ i) * (((s.data.getD i 0).toNat : Int) % 128)))), (7, vI ((i : Nat) : Int)), (0, vS s)], []⟩ [] [] (by kernel_rfl) on wn ?_
        cases h4 : decide ((0 : Int) < ((i : Nat) : Int)) with
        | true =>
          have h4 := of_decide_eq_true h4
          refine JL_run 6 [(2, .sidx i)] [39, 5, 7, 0] 0 ⟨[(39, vB (decide (((s.data.getD i 0).toNat : Int) = 0))), (5, vI (n + (((128 : Int) ^ i) * (((s.data.getD i 0).toNat : Int) % 128)))), (7, vI ((i : Nat) : Int)), (0, vS s)], []⟩ [((i : Nat) : Int) = ((i : Nat) : Int), i < s.size] [] (by kernel_rfl) (oc rfl (oc (by omega) on)) wn ?_
          cases h5 : decide (((s.data.getD i 0).toNat : Int) = 0) with
          | true =>
            have h5 := of_decide_eq_true h5
            refine JL_run 3 [] [42, 5, 7, 0] 0 ⟨[(42, vB true), (5, vI (n + (((128 : Int) ^ i) * (((s.data.getD i 0).toNat : Int) % 128)))), (7, vI ((i : Nat) : Int)), (0, vS s)], []⟩ [] [] (by kernel_rfl) on wn ?_
            refine l_nil (q_then_normal ?_)
            refine c_if true rfl ?_
            refine c_seq ?_
            refine c_region ?_
            refine JL_run 3 [] [4, 3, 2] 0 ⟨[(4, vI 4), (3, vS emp), (2, vI 0)], []⟩ [] [] (by kernel_rfl) on wn ?_
            refine l_nil (q_then_normal ?_)
            refine c_ret ?_
            refine q_then_ret (q_block_ret (q_then_ret (q_then_ret (q_block_ret (q_then_ret (q_ret (.inl rfl) [vI 0, vS emp, vI 4] rfl (fun bs w hS => ?_)))))))
            refine ⟨?_, hS.kp⟩
            rw [hI.last (by omega) (by omega) (by omega), if_pos (by omega)]
            simp only [retOf, den, List.map_cons, List.map_nil]
          | false =>
            have h5 := of_decide_eq_false h5
            refine JL_run 3 [] [42, 5, 7, 0] 0 ⟨[(42, vB (decide ((1099511627776 : Int) < n + (((128 : Int) ^ i) * (((s.data.getD i 0).toNat : Int) % 128))))), (5, vI (n + (((128 : Int) ^ i) * (((s.data.getD i 0).toNat : Int) % 128)))), (7, vI ((i : Nat) : Int)), (0, vS s)], []⟩ [] [] (by kernel_rfl) on wn ?_
            refine l_nil (q_then_normal ?_)
            cases h6 : decide ((1099511627776 : Int) < n + (((128 : Int) ^ i) * (((s.data.getD i 0).toNat : Int) % 128))) with
            | true =>
              have h6 := of_decide_eq_true h6
              refine c_if true rfl ?_
              refine c_seq ?_
              refine c_region ?_
              refine JL_run 3 [] [4, 3, 2] 0 ⟨[(4, vI 4), (3, vS emp), (2, vI 0)], []⟩ [] [] (by kernel_rfl) on wn ?_
              refine l_nil (q_then_normal ?_)
              refine c_ret ?_
              refine q_then_ret (q_block_ret (q_then_ret (q_then_ret (q_block_ret (q_then_ret (q_ret (.inl rfl) [vI 0, vS emp, vI 4] rfl (fun bs w hS => ?_)))))))
              refine ⟨?_, hS.kp⟩
              rw [hI.last (by omega) (by omega) (by omega), if_pos (by omega)]
              simp only [retOf, den, List.map_cons, List.map_nil]
            | false =>
              have h6 := of_decide_eq_false h6
              refine c_if false rfl ?_
              refine c_skip ?_
              refine q_then_normal ?_
              refine c_seq ?_
              refine c_draw 8 [(0, false), (1, false), (2, false), (3, false), (4, false), (5, false), (6, false), (7, false)] [] [] Try_mixed (by kernel_rfl) (pq_then (pq_block (pq_then (pq_then (pq_block (pq_then pq_body)))))) (List.Sublist.refl _) ?_
              refine h_quiet [(4, .sl (i + 1) s.size)] 8 [(4, vI 0), (3, vS (s.extract (i + 1) s.size)), (2, vI (n + (((128 : Int) ^ i) * (((s.data.getD i 0).toNat : Int) % 128)))), (47, vS (s.extract (i + 1) s.size)), (46, vI (((i : Nat) : Int) + 1)), (45, vI ((i : Nat) : Int)), (44, vS s), (43, vI (n + (((128 : Int) ^ i) * (((s.data.getD i 0).toNat : Int) % 128)))), (42, vB false), (5, vI (n + (((128 : Int) ^ i) * (((s.data.getD i 0).toNat : Int) % 128)))), (7, vI ((i : Nat) : Int)), (0, vS s)] [inR (((i : Nat) : Int) + 1), ((i : Nat) : Int) + 1 = (((i + 1) : Nat) : Int), s.size = s.size, (i + 1) ≤ s.size] [] rfl rfl (by kernel_rfl) (oc (by unfold inR; omega) (oc (by omega) (oc rfl (oc (by omega) on)))) wn ?_
              refine h_nil ?_
              refine l_nil (q_then_normal ?_)
              refine c_ret ?_
              refine q_block_ret (q_then_ret (q_then_ret (q_block_ret (q_then_ret (q_ret (.inl rfl) [vI (n + (((128 : Int) ^ i) * (((s.data.getD i 0).toNat : Int) % 128))), vS (s.extract (i + 1) s.size), vI 0] rfl (fun bs w hS => ?_))))))
              refine ⟨?_, hS.kp⟩
              rw [hI.last (by omega) (by omega) (by omega), if_neg (by omega)]
              simp only [retOf, den, List.map_cons, List.map_nil]
        | false =>
          have h4 := of_decide_eq_false h4
          refine JL_run 9 [] [42, 5, 7, 0] 0 ⟨[(42, vB (decide ((1099511627776 : Int) < n + (((128 : Int) ^ i) * (((s.data.getD i 0).toNat : Int) % 128))))), (5, vI (n + (((128 : Int) ^ i) * (((s.data.getD i 0).toNat : Int) % 128)))), (7, vI ((i : Nat) : Int)), (0, vS s)], []⟩ [] [] (by kernel_rfl) on wn ?_
          refine l_nil (q_then_normal ?_)
          cases h7 : decide ((1099511627776 : Int) < n + (((128 : Int) ^ i) * (((s.data.getD i 0).toNat : Int) % 128))) with
          | true =>
            have h7 := of_decide_eq_true h7
            refine c_if true rfl ?_
            refine c_seq ?_
            refine c_region ?_
            refine JL_run 3 [] [4, 3, 2] 0 ⟨[(4, vI 4), (3, vS emp), (2, vI 0)], []⟩ [] [] (by kernel_rfl) on wn ?_
            refine l_nil (q_then_normal ?_)
            refine c_ret ?_
            refine q_then_ret (q_block_ret (q_then_ret (q_then_ret (q_block_ret (q_then_ret (q_ret (.inl rfl) [vI 0, vS emp, vI 4] rfl (fun bs w hS => ?_)))))))
            refine ⟨?_, hS.kp⟩
            rw [hI.last (by omega) (by omega) (by omega), if_pos (by omega)]
            simp only [retOf, den, List.map_cons, List.map_nil]
          | false =>
            have h7 := of_decide_eq_false h7
            refine c_if false rfl ?_
            refine c_skip ?_
            refine q_then_normal ?_
            refine c_seq ?_
            refine c_draw 8 [(0, false), (1, false), (2, false), (3, false), (4, false), (5, false), (6, false), (7, false)] [] [] Try_mixed (by kernel_rfl) (pq_then (pq_block (pq_then (pq_then (pq_block (pq_then pq_body)))))) (List.Sublist.refl _) ?_
            refine h_quiet [(4, .sl (i + 1) s.size)] 8 [(4, vI 0), (3, vS (s.extract (i + 1) s.size)), (2, vI (n + (((128 : Int) ^ i) * (((s.data.getD i 0).toNat : Int) % 128)))), (47, vS (s.extract (i + 1) s.size)), (46, vI (((i : Nat) : Int) + 1)), (45, vI ((i : Nat) : Int)), (44, vS s), (43, vI (n + (((128 : Int) ^ i) * (((s.data.getD i 0).toNat : Int) % 128)))), (42, vB false), (5, vI (n + (((128 : Int) ^ i) * (((s.data.getD i 0).toNat : Int) % 128)))), (7, vI ((i : Nat) : Int)), (0, vS s)] [inR (((i : Nat) : Int) + 1), ((i : Nat) : Int) + 1 = (((i + 1) : Nat) : Int), s.size = s.size, (i + 1) ≤ s.size] [] rfl rfl (by kernel_rfl) (oc (by unfold inR; omega) (oc (by omega) (oc rfl (oc (by omega) on)))) wn ?_
            refine h_nil ?_
            refine l_nil (q_then_normal ?_)
            refine c_ret ?_
            refine q_block_ret (q_then_ret (q_then_ret (q_block_ret (q_then_ret (q_ret (.inl rfl) [vI (n + (((128 : Int) ^ i) * (((s.data.getD i 0).toNat : Int) % 128))), vS (s.extract (i + 1) s.size), vI 0] rfl (fun bs w hS => ?_))))))
            refine ⟨?_, hS.kp⟩
            rw [hI.last (by omega) (by omega) (by omega), if_neg (by omega)]
            simp only [retOf, den, List.map_cons, List.map_nil]
      | false =>
        have h3 := of_decide_eq_false h3
        refine c_if false rfl ?_
        refine c_skip ?_
        refine q_block_normal (q_then_normal ?_)
        refine c_region ?_
        refine JL_run 3 [] [7, 6, 5, 0] 0 ⟨[(7, vI (((i : Nat) : Int) + 1)), (6, vI (((128 : Int) ^ i) * 128)), (5, vI (n + (((128 : Int) ^ i) * (((s.data.getD i 0).toNat : Int) % 128)))), (0, vS s)], []⟩ [inR (((i : Nat) : Int) + 1)] [] (by kernel_rfl) (oc (by unfold inR; omega) on) wn ?_
        refine l_nil (q_loop (x := (⟨i, n⟩ : Nat × Int)) (⟨i + 1, n + (((128 : Int) ^ i) * (((s.data.getD i 0).toNat : Int) % 128))⟩ : Nat × Int) (hI.step (by omega) (by omega) (by omega)) (by show 6 - (i + 1) < 6 - i; omega) (s_start [7, 6, 5, 0] 0 (by simp only [Int.pow_succ]; kernel_rfl) rfl))
  | false =>
    have h1 := of_decide_eq_false h1
    refine c_if false rfl ?_
    refine c_exit ?_
    refine q_then_exit (q_then_exit (q_block_hit (q_then_normal ?_)))
    refine c_seq ?_
    refine c_region ?_
    refine JL_run 3 [] [4, 3, 2] 0 ⟨[(4, vI 4), (3, vS emp), (2, vI 0)], []⟩ [] [] (by kernel_rfl) on wn ?_
    refine l_nil (q_then_normal ?_)
    refine c_ret ?_
    refine q_ret (.inl rfl) [vI 0, vS emp, vI 4] rfl (fun bs w hS => ?_)
    refine ⟨?_, hS.kp⟩
    rw [hI.out (by omega)]
    simp only [retOf, den, List.map_cons, List.map_nil]

theorem ref_TextOf (s : ByteArray) (w : World) (hs : s.size ≤ 9223372036854775807) : Calls Try.prog 48 #[.string s] w fun e w' => e = .returned (.tuple #[.string (mTell s).1, .string (mTell s).2.1, .int .i64 (mTell s).2.2]) ∧ Kp [] w w' := by
  have hb := mRead_bd s
  refine calls_J0 37 Try.func48 rfl rfl [.string s] rfl ?_
  refine c_seq ?_
  refine c_region ?_
  refine JL_run 3 [] [0] 0 ⟨[(0, vS s)], []⟩ [] [] (by kernel_rfl) on wn ?_
  refine l_nil (q_then_normal ?_)
  refine c_seq ?_
  refine c_region ?_
  refine JL_run 1 [] [9] 0 ⟨[(9, vS s)], []⟩ [] [] (by kernel_rfl) on wn ?_
  refine l_pure 31 [] [vS s] (.tuple #[.int .i64 ((mRead s).1), .string ((mRead s).2.1), .int .i64 ((mRead s).2.2)]) Try.call31 rfl rfl rfl rfl (fun bs w hS => ref_NumberOf _ w (by first | assumption | omega | (simp only [emp_size]; omega))) ?_
  refine JL_run 7 [] [7, 6, 5] 0 ⟨[(7, vI ((mRead s).2.2)), (6, vS ((mRead s).2.1)), (5, vI ((mRead s).1))], []⟩ [] [] (by kernel_rfl) on wn ?_
  refine l_nil (q_then_normal ?_)
  refine c_seq ?_
  refine c_seq ?_
  refine c_region ?_
  refine JL_run 3 [] [16, 7, 6, 5] 0 ⟨[(16, vB (decide ((mRead s).2.2 = 0))), (7, vI ((mRead s).2.2)), (6, vS ((mRead s).2.1)), (5, vI ((mRead s).1))], []⟩ [] [] (by kernel_rfl) on wn ?_
  cases h1 : decide ((mRead s).2.2 = 0) with
  | true =>
    have h1 := of_decide_eq_true h1
    refine JL_run 3 [] [19, 7, 6, 5] 0 ⟨[(19, vB (decide ((5000 : Int) < (mRead s).1))), (7, vI ((mRead s).2.2)), (6, vS ((mRead s).2.1)), (5, vI ((mRead s).1))], []⟩ [] [] (by kernel_rfl) on wn ?_
    refine l_nil (q_then_normal ?_)
    cases h2 : decide ((5000 : Int) < (mRead s).1) with
    | true =>
      have h2 := of_decide_eq_true h2
      refine c_if true rfl ?_
      refine c_region ?_
      refine JL_run 1 [] [7, 6, 5] 0 ⟨[(7, vI 1), (6, vS ((mRead s).2.1)), (5, vI ((mRead s).1))], []⟩ [] [] (by kernel_rfl) on wn ?_
      refine l_nil (q_then_normal ?_)
      refine c_seq ?_
      refine c_seq ?_
      refine c_region ?_
      refine JL_run 8 [] [27, 7, 6, 5] 0 ⟨[(27, vB false), (7, vI 1), (6, vS ((mRead s).2.1)), (5, vI ((mRead s).1))], []⟩ [] [] (by kernel_rfl) on wn ?_
      refine l_nil (q_then_normal ?_)
      refine c_if false rfl ?_
      refine c_skip ?_
      refine q_then_normal ?_
      refine c_seq ?_
      refine c_seq ?_
      refine c_region ?_
      refine JL_run 2 [] [29, 7, 6, 5] 0 ⟨[(29, vB true), (7, vI 1), (6, vS ((mRead s).2.1)), (5, vI ((mRead s).1))], []⟩ [] [] (by kernel_rfl) on wn ?_
      refine l_nil (q_then_normal ?_)
      refine c_if true rfl ?_
      refine c_seq ?_
      refine c_region ?_
      refine JL_run 4 [] [4, 3, 2] 0 ⟨[(4, vI 1), (3, vS emp), (2, vS emp)], []⟩ [] [] (by kernel_rfl) on wn ?_
      refine l_nil (q_then_normal ?_)
      refine c_ret ?_
      refine q_then_ret (q_ret (.inl rfl) [vS emp, vS emp, vI 1] rfl (fun bs w hS => ?_))
      refine ⟨?_, hS.kp⟩
      simp only [retOf, den, List.map_cons, List.map_nil]
      unfold mTell
      try simp only [h1, h2, emp_size, ne_eq, not_true_eq_false, not_false_eq_true, true_or, or_true, false_or, or_false, and_true, true_and, and_false, false_and, and_self, or_self, if_true, if_false, Bool.true_eq_false, Bool.false_eq_true, reduceIte, Classical.not_not, Bool.and_eq_true, decide_eq_true_eq]
      repeat (first | rw [if_pos (by omega)] | rw [if_neg (by omega)])
      all_goals first | rfl | (exfalso; omega)
    | false =>
      have h2 := of_decide_eq_false h2
      refine c_if false rfl ?_
      refine c_skip ?_
      refine q_then_normal ?_
      refine c_seq ?_
      refine c_seq ?_
      refine c_region ?_
      refine JL_run 3 [] [22, 7, 6, 5] 0 ⟨[(22, vB (decide ((mRead s).2.2 = 0))), (7, vI ((mRead s).2.2)), (6, vS ((mRead s).2.1)), (5, vI ((mRead s).1))], []⟩ [] [] (by kernel_rfl) on wn ?_
      cases h3 : decide ((mRead s).2.2 = 0) with
      | true =>
        have h3 := of_decide_eq_true h3
        refine JL_run 5 [] [27, 7, 6, 5] 0 ⟨[(27, vB (decide ((((mRead s).2.1).size : Int) < (mRead s).1))), (7, vI ((mRead s).2.2)), (6, vS ((mRead s).2.1)), (5, vI ((mRead s).1))], []⟩ [] [] (by kernel_rfl) on wn ?_
        refine l_nil (q_then_normal ?_)
        cases h4 : decide ((((mRead s).2.1).size : Int) < (mRead s).1) with
        | true =>
          have h4 := of_decide_eq_true h4
          refine c_if true rfl ?_
          refine c_region ?_
          refine JL_run 1 [] [7, 6, 5] 0 ⟨[(7, vI 5), (6, vS ((mRead s).2.1)), (5, vI ((mRead s).1))], []⟩ [] [] (by kernel_rfl) on wn ?_
          refine l_nil (q_then_normal ?_)
          refine c_seq ?_
          refine c_seq ?_
          refine c_region ?_
          refine JL_run 2 [] [29, 7, 6, 5] 0 ⟨[(29, vB true), (7, vI 5), (6, vS ((mRead s).2.1)), (5, vI ((mRead s).1))], []⟩ [] [] (by kernel_rfl) on wn ?_
          refine l_nil (q_then_normal ?_)
          refine c_if true rfl ?_
          refine c_seq ?_
          refine c_region ?_
          refine JL_run 4 [] [4, 3, 2] 0 ⟨[(4, vI 5), (3, vS emp), (2, vS emp)], []⟩ [] [] (by kernel_rfl) on wn ?_
          refine l_nil (q_then_normal ?_)
          refine c_ret ?_
          refine q_then_ret (q_ret (.inl rfl) [vS emp, vS emp, vI 5] rfl (fun bs w hS => ?_))
          refine ⟨?_, hS.kp⟩
          simp only [retOf, den, List.map_cons, List.map_nil]
          unfold mTell
          try simp only [h1, h2, h3, h4, emp_size, ne_eq, not_true_eq_false, not_false_eq_true, true_or, or_true, false_or, or_false, and_true, true_and, and_false, false_and, and_self, or_self, if_true, if_false, Bool.true_eq_false, Bool.false_eq_true, reduceIte, Classical.not_not, Bool.and_eq_true, decide_eq_true_eq]
          repeat (first | rw [if_pos (by omega)] | rw [if_neg (by omega)])
          all_goals first | rfl | (exfalso; omega)
        | false =>
          have h4 := of_decide_eq_false h4
          refine c_if false rfl ?_
          refine c_skip ?_
          refine q_then_normal ?_
          refine c_seq ?_
          refine c_seq ?_
          refine c_region ?_
          refine JL_run 2 [] [29, 7, 6, 5] 0 ⟨[(29, vB (!(decide ((mRead s).2.2 = 0)))), (7, vI ((mRead s).2.2)), (6, vS ((mRead s).2.1)), (5, vI ((mRead s).1))], []⟩ [] [] (by kernel_rfl) on wn ?_
          refine l_nil (q_then_normal ?_)
          cases h5 : decide ((mRead s).2.2 = 0) with
          | true =>
            have h5 := of_decide_eq_true h5
            refine c_if false rfl ?_
            refine c_skip ?_
            refine q_then_normal ?_
            refine c_seq ?_
            refine c_draw 9 [(0, false), (1, false), (2, false), (3, false), (4, false), (5, false), (6, false), (7, false), (8, false)] [] [] Try_mixed (by kernel_rfl) (pq_then pq_body) (List.Sublist.refl _) ?_
            refine h_quiet [(2, .sl 0 ((mRead s).1.toNat)), (5, .sl ((mRead s).1.toNat) ((mRead s).2.1.size))] 9 [(4, vI 0), (3, vS (((mRead s).2.1).extract ((mRead s).1.toNat) ((mRead s).2.1.size))), (2, vS (((mRead s).2.1).extract 0 ((mRead s).1.toNat))), (36, vS (((mRead s).2.1).extract ((mRead s).1.toNat) ((mRead s).2.1.size))), (35, vI ((mRead s).1)), (34, vS ((mRead s).2.1)), (33, vS (((mRead s).2.1).extract 0 ((mRead s).1.toNat))), (32, vI ((mRead s).1)), (31, vS ((mRead s).2.1)), (29, vB false), (7, vI ((mRead s).2.2)), (6, vS ((mRead s).2.1)), (5, vI ((mRead s).1))] [0 = 0, (mRead s).1 = (((mRead s).1.toNat : Nat) : Int), (mRead s).1.toNat ≤ ((mRead s).2.1).size, (mRead s).1 = (((mRead s).1.toNat : Nat) : Int), (mRead s).2.1.size = ((mRead s).2.1).size, (mRead s).1.toNat ≤ (mRead s).2.1.size] [] rfl rfl (by kernel_rfl) (oc rfl (oc (by omega) (oc (by omega) (oc (by omega) (oc rfl (oc (by omega) on)))))) wn ?_
            refine h_nil ?_
            refine l_nil (q_then_normal ?_)
            refine c_ret ?_
            refine q_ret (.inl rfl) [vS (((mRead s).2.1).extract 0 ((mRead s).1.toNat)), vS (((mRead s).2.1).extract ((mRead s).1.toNat) ((mRead s).2.1.size)), vI 0] rfl (fun bs w hS => ?_)
            refine ⟨?_, hS.kp⟩
            simp only [retOf, den, List.map_cons, List.map_nil]
            unfold mTell
            try simp only [h1, h2, h3, h4, h5, emp_size, ne_eq, not_true_eq_false, not_false_eq_true, true_or, or_true, false_or, or_false, and_true, true_and, and_false, false_and, and_self, or_self, if_true, if_false, Bool.true_eq_false, Bool.false_eq_true, reduceIte, Classical.not_not, Bool.and_eq_true, decide_eq_true_eq]
            repeat (first | rw [if_pos (by omega)] | rw [if_neg (by omega)])
            all_goals first | rfl | (exfalso; omega)
          | false =>
            have h5 := of_decide_eq_false h5
            exact absurd h1 h5
      | false =>
        have h3 := of_decide_eq_false h3
        exact absurd h1 h3
  | false =>
    have h1 := of_decide_eq_false h1
    refine JL_run 3 [] [19, 7, 6, 5] 0 ⟨[(19, vB false), (7, vI ((mRead s).2.2)), (6, vS ((mRead s).2.1)), (5, vI ((mRead s).1))], []⟩ [] [] (by kernel_rfl) on wn ?_
    refine l_nil (q_then_normal ?_)
    refine c_if false rfl ?_
    refine c_skip ?_
    refine q_then_normal ?_
    refine c_seq ?_
    refine c_seq ?_
    refine c_region ?_
    refine JL_run 3 [] [22, 7, 6, 5] 0 ⟨[(22, vB (decide ((mRead s).2.2 = 0))), (7, vI ((mRead s).2.2)), (6, vS ((mRead s).2.1)), (5, vI ((mRead s).1))], []⟩ [] [] (by kernel_rfl) on wn ?_
    cases h6 : decide ((mRead s).2.2 = 0) with
    | true =>
      have h6 := of_decide_eq_true h6
      exact absurd h6 h1
    | false =>
      have h6 := of_decide_eq_false h6
      refine JL_run 5 [] [27, 7, 6, 5] 0 ⟨[(27, vB false), (7, vI ((mRead s).2.2)), (6, vS ((mRead s).2.1)), (5, vI ((mRead s).1))], []⟩ [] [] (by kernel_rfl) on wn ?_
      refine l_nil (q_then_normal ?_)
      refine c_if false rfl ?_
      refine c_skip ?_
      refine q_then_normal ?_
      refine c_seq ?_
      refine c_seq ?_
      refine c_region ?_
      refine JL_run 2 [] [29, 7, 6, 5] 0 ⟨[(29, vB (!(decide ((mRead s).2.2 = 0)))), (7, vI ((mRead s).2.2)), (6, vS ((mRead s).2.1)), (5, vI ((mRead s).1))], []⟩ [] [] (by kernel_rfl) on wn ?_
      refine l_nil (q_then_normal ?_)
      cases h7 : decide ((mRead s).2.2 = 0) with
      | true =>
        have h7 := of_decide_eq_true h7
        exact absurd h7 h1
      | false =>
        have h7 := of_decide_eq_false h7
        refine c_if true rfl ?_
        refine c_seq ?_
        refine c_region ?_
        refine JL_run 4 [] [4, 3, 2] 0 ⟨[(4, vI ((mRead s).2.2)), (3, vS emp), (2, vS emp)], []⟩ [] [] (by kernel_rfl) on wn ?_
        refine l_nil (q_then_normal ?_)
        refine c_ret ?_
        refine q_then_ret (q_ret (.inl rfl) [vS emp, vS emp, vI ((mRead s).2.2)] rfl (fun bs w hS => ?_))
        refine ⟨?_, hS.kp⟩
        simp only [retOf, den, List.map_cons, List.map_nil]
        unfold mTell
        try simp only [h1, h6, h7, emp_size, ne_eq, not_true_eq_false, not_false_eq_true, true_or, or_true, false_or, or_false, and_true, true_and, and_false, false_and, and_self, or_self, if_true, if_false, Bool.true_eq_false, Bool.false_eq_true, reduceIte, Classical.not_not, Bool.and_eq_true, decide_eq_true_eq]
        repeat (first | rw [if_pos (by omega)] | rw [if_neg (by omega)])
        all_goals first | rfl | (exfalso; omega)

theorem ref_OpFault {B : Nat → Prop} (x : DOp) (w : World) (hx : Rds.sub B w x) : Calls Try.prog 51 #[.agg #[.int .i64 x.kind, .string x.a, .string x.b, .int .i64 x.n]] w fun e w' => e = .returned (.int .i64 (mOp x)) ∧ Kp [] w w' := by
  have okx := Rds.okof hx
  refine calls_J0 35 Try.func51 rfl rfl [.agg #[.int .i64 x.kind, .string x.a, .string x.b, .int .i64 x.n]] rfl ?_
  refine c_seq ?_
  refine c_region ?_
  refine JL_run 2 [] [1] 1 ⟨[(1, .p 0 0)], [⟨60, [vI x.kind, vS x.a, vS x.b, vI x.n]⟩]⟩ [] [] (by kernel_rfl) on wn ?_
  refine l_nil (q_then_normal ?_)
  refine c_seq ?_
  refine c_seq ?_
  refine c_region ?_
  refine JL_run 2 [] [4, 1] 1 ⟨[(4, vI x.kind), (1, .p 0 0)], [⟨60, [vI x.kind, vS x.a, vS x.b, vI x.n]⟩]⟩ [] [] (by kernel_rfl) on wn ?_
  refine l_pure 38 [] [vI x.kind, vI 1, vI 6] (.bool (inB x.kind 1 6)) Try.call38 rfl rfl rfl rfl (fun bs w hS => ref_In _ _ _ w) ?_
  refine JL_run 1 [] [6, 1] 1 ⟨[(6, vB (!(inB x.kind 1 6))), (1, .p 0 0)], [⟨60, [vI x.kind, vS x.a, vS x.b, vI x.n]⟩]⟩ [] [] (by kernel_rfl) on wn ?_
  refine l_nil (q_then_normal ?_)
  cases h1 : inB x.kind 1 6 with
  | true =>
    simp only [inB, Bool.and_eq_true, Bool.and_eq_false_iff, decide_eq_true_eq, decide_eq_false_iff_not] at h1
    refine c_if false rfl ?_
    refine c_skip ?_
    refine q_then_normal ?_
    refine c_seq ?_
    refine c_seq ?_
    refine c_region ?_
    refine JL_run 2 [] [8, 1] 1 ⟨[(8, vS x.a), (1, .p 0 0)], [⟨60, [vI x.kind, vS x.a, vS x.b, vI x.n]⟩]⟩ [] [] (by kernel_rfl) on wn ?_
    refine l_pure 29 [] [vS x.a] (.bool (mName x.a)) Try.call29 rfl rfl rfl rfl (fun bs w hS => ref_NameMay _ w (And.left okx)) ?_
    refine JL_run 2 [] [11, 1] 1 ⟨[(11, vB (!(mName x.a))), (1, .p 0 0)], [⟨60, [vI x.kind, vS x.a, vS x.b, vI x.n]⟩]⟩ [] [] (by kernel_rfl) on wn ?_
    cases h2 : mName x.a with
    | true =>
      refine JL_run 4 [] [15, 11, 1] 1 ⟨[(15, vB (!(decide (x.b = emp)))), (11, vB false), (1, .p 0 0)], [⟨60, [vI x.kind, vS x.a, vS x.b, vI x.n]⟩]⟩ [] [] (by kernel_rfl) on wn ?_
      cases h3 : decide (x.b = emp) with
      | true =>
        have h3 := of_decide_eq_true h3
        have hzh3 : x.b.size = 0 := by rw [h3]; rfl
        refine JL_run 5 [] [20, 1] 1 ⟨[(20, vB false), (1, .p 0 0)], [⟨60, [vI x.kind, vS x.a, vS x.b, vI x.n]⟩]⟩ [] [] (by kernel_rfl) on wn ?_
        refine l_nil (q_then_normal ?_)
        refine c_if false rfl ?_
        refine c_skip ?_
        refine q_then_normal ?_
        refine c_seq ?_
        refine c_seq ?_
        refine c_region ?_
        refine JL_run 4 [] [24, 1] 1 ⟨[(24, vB (decide ((12 : Int) < (x.b.size : Int)))), (1, .p 0 0)], [⟨60, [vI x.kind, vS x.a, vS x.b, vI x.n]⟩]⟩ [] [] (by kernel_rfl) on wn ?_
        refine l_nil (q_then_normal ?_)
        cases h4 : decide ((12 : Int) < (x.b.size : Int)) with
        | true =>
          have h4 := of_decide_eq_true h4
          refine c_if true rfl ?_
          refine c_seq ?_
          refine c_region ?_
          refine JL_run 1 [] [2] 0 ⟨[(2, vI 1)], []⟩ [] [] (by kernel_rfl) on wn ?_
          refine l_nil (q_then_normal ?_)
          refine c_ret ?_
          refine q_then_ret (q_ret (.inl rfl) [vI 1] rfl (fun bs w hS => ?_))
          refine ⟨?_, hS.kp⟩
          simp only [retOf, den, List.map_cons, List.map_nil]
          unfold mOp
          try simp only [h1, h2, h3, h4, emp_size, ne_eq, not_true_eq_false, not_false_eq_true, true_or, or_true, false_or, or_false, and_true, true_and, and_false, false_and, and_self, or_self, if_true, if_false, Bool.true_eq_false, Bool.false_eq_true, reduceIte, Classical.not_not, Bool.and_eq_true, decide_eq_true_eq]
          repeat (first | rw [if_pos (by omega)] | rw [if_neg (by omega)])
          all_goals first | rfl | (exfalso; omega)
        | false =>
          have h4 := of_decide_eq_false h4
          refine c_if false rfl ?_
          refine c_skip ?_
          refine q_then_normal ?_
          refine c_seq ?_
          refine c_seq ?_
          refine c_region ?_
          refine JL_run 3 [] [27, 1] 1 ⟨[(27, vB (decide (x.kind = 5))), (1, .p 0 0)], [⟨60, [vI x.kind, vS x.a, vS x.b, vI x.n]⟩]⟩ [] [] (by kernel_rfl) on wn ?_
          refine l_nil (q_then_normal ?_)
          cases h5 : decide (x.kind = 5) with
          | true =>
            have h5 := of_decide_eq_true h5
            refine c_if true rfl ?_
            refine c_seq ?_
            refine c_region ?_
            refine JL_run 2 [] [29] 0 ⟨[(29, vI x.n)], []⟩ [] [] (by kernel_rfl) on wn ?_
            refine l_pure 38 [] [vI x.n, vI 1, vI 1073741824] (.bool (inB x.n 1 1073741824)) Try.call38 rfl rfl rfl rfl (fun bs w hS => ref_In _ _ _ w) ?_
            refine JL_run 1 [] [31] 0 ⟨[(31, vB (!(inB x.n 1 1073741824)))], []⟩ [] [] (by kernel_rfl) on wn ?_
            refine l_nil (q_then_normal ?_)
            cases h6 : inB x.n 1 1073741824 with
            | true =>
              simp only [inB, Bool.and_eq_true, Bool.and_eq_false_iff, decide_eq_true_eq, decide_eq_false_iff_not] at h6
              refine c_if false rfl ?_
              refine c_skip ?_
              refine q_then_normal ?_
              refine c_seq ?_
              refine c_region ?_
              refine JL_run 1 [] [2] 0 ⟨[(2, vI 0)], []⟩ [] [] (by kernel_rfl) on wn ?_
              refine l_nil (q_then_normal ?_)
              refine c_ret ?_
              refine q_ret (.inl rfl) [vI 0] rfl (fun bs w hS => ?_)
              refine ⟨?_, hS.kp⟩
              simp only [retOf, den, List.map_cons, List.map_nil]
              unfold mOp
              try simp only [h1, h2, h3, h4, h5, h6, emp_size, ne_eq, not_true_eq_false, not_false_eq_true, true_or, or_true, false_or, or_false, and_true, true_and, and_false, false_and, and_self, or_self, if_true, if_false, Bool.true_eq_false, Bool.false_eq_true, reduceIte, Classical.not_not, Bool.and_eq_true, decide_eq_true_eq]
              repeat (first | rw [if_pos (by omega)] | rw [if_neg (by omega)])
              all_goals first | rfl | (exfalso; omega)
            | false =>
              simp only [inB, Bool.and_eq_true, Bool.and_eq_false_iff, decide_eq_true_eq, decide_eq_false_iff_not] at h6
              refine c_if true rfl ?_
              refine c_seq ?_
              refine c_region ?_
              refine JL_run 1 [] [2] 0 ⟨[(2, vI 2)], []⟩ [] [] (by kernel_rfl) on wn ?_
              refine l_nil (q_then_normal ?_)
              refine c_ret ?_
              refine q_then_ret (q_ret (.inl rfl) [vI 2] rfl (fun bs w hS => ?_))
              refine ⟨?_, hS.kp⟩
              simp only [retOf, den, List.map_cons, List.map_nil]
              unfold mOp
              try simp only [h1, h2, h3, h4, h5, h6, emp_size, ne_eq, not_true_eq_false, not_false_eq_true, true_or, or_true, false_or, or_false, and_true, true_and, and_false, false_and, and_self, or_self, if_true, if_false, Bool.true_eq_false, Bool.false_eq_true, reduceIte, Classical.not_not, Bool.and_eq_true, decide_eq_true_eq]
              repeat (first | rw [if_pos (by omega)] | rw [if_neg (by omega)])
              all_goals first | rfl | (exfalso; omega)
          | false =>
            have h5 := of_decide_eq_false h5
            refine c_if false rfl ?_
            refine c_seq ?_
            refine c_region ?_
            refine JL_run 3 [] [34] 0 ⟨[(34, vB (!(decide (x.n = 0))))], []⟩ [] [] (by kernel_rfl) on wn ?_
            refine l_nil (q_then_normal ?_)
            cases h7 : decide (x.n = 0) with
            | true =>
              have h7 := of_decide_eq_true h7
              refine c_if false rfl ?_
              refine c_skip ?_
              refine q_then_normal ?_
              refine c_seq ?_
              refine c_region ?_
              refine JL_run 1 [] [2] 0 ⟨[(2, vI 0)], []⟩ [] [] (by kernel_rfl) on wn ?_
              refine l_nil (q_then_normal ?_)
              refine c_ret ?_
              refine q_ret (.inl rfl) [vI 0] rfl (fun bs w hS => ?_)
              refine ⟨?_, hS.kp⟩
              simp only [retOf, den, List.map_cons, List.map_nil]
              unfold mOp
              try simp only [h1, h2, h3, h4, h5, h7, emp_size, ne_eq, not_true_eq_false, not_false_eq_true, true_or, or_true, false_or, or_false, and_true, true_and, and_false, false_and, and_self, or_self, if_true, if_false, Bool.true_eq_false, Bool.false_eq_true, reduceIte, Classical.not_not, Bool.and_eq_true, decide_eq_true_eq]
              repeat (first | rw [if_pos (by omega)] | rw [if_neg (by omega)])
              all_goals first | rfl | (exfalso; omega)
            | false =>
              have h7 := of_decide_eq_false h7
              refine c_if true rfl ?_
              refine c_seq ?_
              refine c_region ?_
              refine JL_run 1 [] [2] 0 ⟨[(2, vI 2)], []⟩ [] [] (by kernel_rfl) on wn ?_
              refine l_nil (q_then_normal ?_)
              refine c_ret ?_
              refine q_then_ret (q_ret (.inl rfl) [vI 2] rfl (fun bs w hS => ?_))
              refine ⟨?_, hS.kp⟩
              simp only [retOf, den, List.map_cons, List.map_nil]
              unfold mOp
              try simp only [h1, h2, h3, h4, h5, h7, emp_size, ne_eq, not_true_eq_false, not_false_eq_true, true_or, or_true, false_or, or_false, and_true, true_and, and_false, false_and, and_self, or_self, if_true, if_false, Bool.true_eq_false, Bool.false_eq_true, reduceIte, Classical.not_not, Bool.and_eq_true, decide_eq_true_eq]
              repeat (first | rw [if_pos (by omega)] | rw [if_neg (by omega)])
              all_goals first | rfl | (exfalso; omega)
      | false =>
        have h3 := of_decide_eq_false h3
        refine JL_run 5 [] [20, 1] 1 ⟨[(20, vB (!(decide (x.kind = 5)))), (1, .p 0 0)], [⟨60, [vI x.kind, vS x.a, vS x.b, vI x.n]⟩]⟩ [] [] (by kernel_rfl) on wn ?_
        refine l_nil (q_then_normal ?_)
        cases h8 : decide (x.kind = 5) with
        | true =>
          have h8 := of_decide_eq_true h8
          refine c_if false rfl ?_
          refine c_skip ?_
          refine q_then_normal ?_
          refine c_seq ?_
          refine c_seq ?_
          refine c_region ?_
          refine JL_run 4 [] [24, 1] 1 ⟨[(24, vB (decide ((12 : Int) < (x.b.size : Int)))), (1, .p 0 0)], [⟨60, [vI x.kind, vS x.a, vS x.b, vI x.n]⟩]⟩ [] [] (by kernel_rfl) on wn ?_
          refine l_nil (q_then_normal ?_)
          cases h9 : decide ((12 : Int) < (x.b.size : Int)) with
          | true =>
            have h9 := of_decide_eq_true h9
            refine c_if true rfl ?_
            refine c_seq ?_
            refine c_region ?_
            refine JL_run 1 [] [2] 0 ⟨[(2, vI 1)], []⟩ [] [] (by kernel_rfl) on wn ?_
            refine l_nil (q_then_normal ?_)
            refine c_ret ?_
            refine q_then_ret (q_ret (.inl rfl) [vI 1] rfl (fun bs w hS => ?_))
            refine ⟨?_, hS.kp⟩
            simp only [retOf, den, List.map_cons, List.map_nil]
            unfold mOp
            try simp only [h1, h2, h3, h8, h9, emp_size, ne_eq, not_true_eq_false, not_false_eq_true, true_or, or_true, false_or, or_false, and_true, true_and, and_false, false_and, and_self, or_self, if_true, if_false, Bool.true_eq_false, Bool.false_eq_true, reduceIte, Classical.not_not, Bool.and_eq_true, decide_eq_true_eq]
            repeat (first | rw [if_pos (by omega)] | rw [if_neg (by omega)])
            all_goals first | rfl | (exfalso; omega)
          | false =>
            have h9 := of_decide_eq_false h9
            refine c_if false rfl ?_
            refine c_skip ?_
            refine q_then_normal ?_
            refine c_seq ?_
            refine c_seq ?_
            refine c_region ?_
            refine JL_run 3 [] [27, 1] 1 ⟨[(27, vB (decide (x.kind = 5))), (1, .p 0 0)], [⟨60, [vI x.kind, vS x.a, vS x.b, vI x.n]⟩]⟩ [] [] (by kernel_rfl) on wn ?_
            refine l_nil (q_then_normal ?_)
            cases h10 : decide (x.kind = 5) with
            | true =>
              have h10 := of_decide_eq_true h10
              refine c_if true rfl ?_
              refine c_seq ?_
              refine c_region ?_
              refine JL_run 2 [] [29] 0 ⟨[(29, vI x.n)], []⟩ [] [] (by kernel_rfl) on wn ?_
              refine l_pure 38 [] [vI x.n, vI 1, vI 1073741824] (.bool (inB x.n 1 1073741824)) Try.call38 rfl rfl rfl rfl (fun bs w hS => ref_In _ _ _ w) ?_
              refine JL_run 1 [] [31] 0 ⟨[(31, vB (!(inB x.n 1 1073741824)))], []⟩ [] [] (by kernel_rfl) on wn ?_
              refine l_nil (q_then_normal ?_)
              cases h11 : inB x.n 1 1073741824 with
              | true =>
                simp only [inB, Bool.and_eq_true, Bool.and_eq_false_iff, decide_eq_true_eq, decide_eq_false_iff_not] at h11
                refine c_if false rfl ?_
                refine c_skip ?_
                refine q_then_normal ?_
                refine c_seq ?_
                refine c_region ?_
                refine JL_run 1 [] [2] 0 ⟨[(2, vI 0)], []⟩ [] [] (by kernel_rfl) on wn ?_
                refine l_nil (q_then_normal ?_)
                refine c_ret ?_
                refine q_ret (.inl rfl) [vI 0] rfl (fun bs w hS => ?_)
                refine ⟨?_, hS.kp⟩
                simp only [retOf, den, List.map_cons, List.map_nil]
                unfold mOp
                try simp only [h1, h2, h3, h8, h9, h10, h11, emp_size, ne_eq, not_true_eq_false, not_false_eq_true, true_or, or_true, false_or, or_false, and_true, true_and, and_false, false_and, and_self, or_self, if_true, if_false, Bool.true_eq_false, Bool.false_eq_true, reduceIte, Classical.not_not, Bool.and_eq_true, decide_eq_true_eq]
                repeat (first | rw [if_pos (by omega)] | rw [if_neg (by omega)])
                all_goals first | rfl | (exfalso; omega)
              | false =>
                simp only [inB, Bool.and_eq_true, Bool.and_eq_false_iff, decide_eq_true_eq, decide_eq_false_iff_not] at h11
                refine c_if true rfl ?_
                refine c_seq ?_
                refine c_region ?_
                refine JL_run 1 [] [2] 0 ⟨[(2, vI 2)], []⟩ [] [] (by kernel_rfl) on wn ?_
                refine l_nil (q_then_normal ?_)
                refine c_ret ?_
                refine q_then_ret (q_ret (.inl rfl) [vI 2] rfl (fun bs w hS => ?_))
                refine ⟨?_, hS.kp⟩
                simp only [retOf, den, List.map_cons, List.map_nil]
                unfold mOp
                try simp only [h1, h2, h3, h8, h9, h10, h11, emp_size, ne_eq, not_true_eq_false, not_false_eq_true, true_or, or_true, false_or, or_false, and_true, true_and, and_false, false_and, and_self, or_self, if_true, if_false, Bool.true_eq_false, Bool.false_eq_true, reduceIte, Classical.not_not, Bool.and_eq_true, decide_eq_true_eq]
                repeat (first | rw [if_pos (by omega)] | rw [if_neg (by omega)])
                all_goals first | rfl | (exfalso; omega)
            | false =>
              have h10 := of_decide_eq_false h10
              exact absurd h8 h10
        | false =>
          have h8 := of_decide_eq_false h8
          refine c_if true rfl ?_
          refine c_seq ?_
          refine c_region ?_
          refine JL_run 1 [] [2] 0 ⟨[(2, vI 4)], []⟩ [] [] (by kernel_rfl) on wn ?_
          refine l_nil (q_then_normal ?_)
          refine c_ret ?_
          refine q_then_ret (q_ret (.inl rfl) [vI 4] rfl (fun bs w hS => ?_))
          refine ⟨?_, hS.kp⟩
          simp only [retOf, den, List.map_cons, List.map_nil]
          unfold mOp
          try simp only [h1, h2, h3, h8, emp_size, ne_eq, not_true_eq_false, not_false_eq_true, true_or, or_true, false_or, or_false, and_true, true_and, and_false, false_and, and_self, or_self, if_true, if_false, Bool.true_eq_false, Bool.false_eq_true, reduceIte, Classical.not_not, Bool.and_eq_true, decide_eq_true_eq]
          repeat (first | rw [if_pos (by omega)] | rw [if_neg (by omega)])
          all_goals first | rfl | (exfalso; omega)
    | false =>
      refine JL_run 9 [] [20, 1] 1 ⟨[(20, vB true), (1, .p 0 0)], [⟨60, [vI x.kind, vS x.a, vS x.b, vI x.n]⟩]⟩ [] [] (by kernel_rfl) on wn ?_
      refine l_nil (q_then_normal ?_)
      refine c_if true rfl ?_
      refine c_seq ?_
      refine c_region ?_
      refine JL_run 1 [] [2] 0 ⟨[(2, vI 4)], []⟩ [] [] (by kernel_rfl) on wn ?_
      refine l_nil (q_then_normal ?_)
      refine c_ret ?_
      refine q_then_ret (q_ret (.inl rfl) [vI 4] rfl (fun bs w hS => ?_))
      refine ⟨?_, hS.kp⟩
      simp only [retOf, den, List.map_cons, List.map_nil]
      unfold mOp
      try simp only [h1, h2, emp_size, ne_eq, not_true_eq_false, not_false_eq_true, true_or, or_true, false_or, or_false, and_true, true_and, and_false, false_and, and_self, or_self, if_true, if_false, Bool.true_eq_false, Bool.false_eq_true, reduceIte, Classical.not_not, Bool.and_eq_true, decide_eq_true_eq]
      repeat (first | rw [if_pos (by omega)] | rw [if_neg (by omega)])
      all_goals first | rfl | (exfalso; omega)
  | false =>
    simp only [inB, Bool.and_eq_true, Bool.and_eq_false_iff, decide_eq_true_eq, decide_eq_false_iff_not] at h1
    refine c_if true rfl ?_
    refine c_seq ?_
    refine c_region ?_
    refine JL_run 1 [] [2] 0 ⟨[(2, vI 3)], []⟩ [] [] (by kernel_rfl) on wn ?_
    refine l_nil (q_then_normal ?_)
    refine c_ret ?_
    refine q_then_ret (q_ret (.inl rfl) [vI 3] rfl (fun bs w hS => ?_))
    refine ⟨?_, hS.kp⟩
    simp only [retOf, den, List.map_cons, List.map_nil]
    unfold mOp
    try simp only [h1, emp_size, ne_eq, not_true_eq_false, not_false_eq_true, true_or, or_true, false_or, or_false, and_true, true_and, and_false, false_and, and_self, or_self, if_true, if_false, Bool.true_eq_false, Bool.false_eq_true, reduceIte, Classical.not_not, Bool.and_eq_true, decide_eq_true_eq]
    repeat (first | rw [if_pos (by omega)] | rw [if_neg (by omega)])
    all_goals first | rfl | (exfalso; omega)

theorem ref_CommandFault {B : Nat → Prop} (x : DCommand) (w : World) (hx : Rds.sub B w x) : Calls Try.prog 49 #[.agg #[.int .i64 x.kind, .int .i64 x.client, .int .i64 x.session, .int .i64 x.seq, .int .i64 x.acked, .int .i64 x.op.kind, .string x.op.a, .string x.op.b, .int .i64 x.op.n]] w fun e w' => e = .returned (.int .i64 (mCmd x)) ∧ Kp [] w w' := by
  have okx := Rds.okof hx
  refine calls_J0 73 Try.func49 rfl rfl [.agg #[.int .i64 x.kind, .int .i64 x.client, .int .i64 x.session, .int .i64 x.seq, .int .i64 x.acked, .int .i64 x.op.kind, .string x.op.a, .string x.op.b, .int .i64 x.op.n]] rfl ?_
  refine c_seq ?_
  refine c_region ?_
  refine JL_run 2 [] [1] 1 ⟨[(1, .p 0 0)], [⟨62, [vI x.kind, vI x.client, vI x.session, vI x.seq, vI x.acked, vI x.op.kind, vS x.op.a, vS x.op.b, vI x.op.n]⟩]⟩ [] [] (by kernel_rfl) on wn ?_
  refine l_nil (q_then_normal ?_)
  refine c_seq ?_
  refine c_seq ?_
  refine c_region ?_
  refine JL_run 2 [] [4, 1] 1 ⟨[(4, vI x.kind), (1, .p 0 0)], [⟨62, [vI x.kind, vI x.client, vI x.session, vI x.seq, vI x.acked, vI x.op.kind, vS x.op.a, vS x.op.b, vI x.op.n]⟩]⟩ [] [] (by kernel_rfl) on wn ?_
  refine l_pure 38 [] [vI x.kind, vI 1, vI 3] (.bool (inB x.kind 1 3)) Try.call38 rfl rfl rfl rfl (fun bs w hS => ref_In _ _ _ w) ?_
  refine JL_run 1 [] [6, 1] 1 ⟨[(6, vB (!(inB x.kind 1 3))), (1, .p 0 0)], [⟨62, [vI x.kind, vI x.client, vI x.session, vI x.seq, vI x.acked, vI x.op.kind, vS x.op.a, vS x.op.b, vI x.op.n]⟩]⟩ [] [] (by kernel_rfl) on wn ?_
  refine l_nil (q_then_normal ?_)
  cases h1 : inB x.kind 1 3 with
  | true =>
    simp only [inB, Bool.and_eq_true, Bool.and_eq_false_iff, decide_eq_true_eq, decide_eq_false_iff_not] at h1
    refine c_if false rfl ?_
    refine c_skip ?_
    refine q_then_normal ?_
    refine c_seq ?_
    refine c_seq ?_
    refine c_region ?_
    refine JL_run 2 [] [8, 1] 1 ⟨[(8, vI x.client), (1, .p 0 0)], [⟨62, [vI x.kind, vI x.client, vI x.session, vI x.seq, vI x.acked, vI x.op.kind, vS x.op.a, vS x.op.b, vI x.op.n]⟩]⟩ [] [] (by kernel_rfl) on wn ?_
    refine l_pure 38 [] [vI x.client, vI 1, vI 9] (.bool (inB x.client 1 9)) Try.call38 rfl rfl rfl rfl (fun bs w hS => ref_In _ _ _ w) ?_
    refine JL_run 1 [] [10, 1] 1 ⟨[(10, vB (!(inB x.client 1 9))), (1, .p 0 0)], [⟨62, [vI x.kind, vI x.client, vI x.session, vI x.seq, vI x.acked, vI x.op.kind, vS x.op.a, vS x.op.b, vI x.op.n]⟩]⟩ [] [] (by kernel_rfl) on wn ?_
    refine l_nil (q_then_normal ?_)
    cases h2 : inB x.client 1 9 with
    | true =>
      simp only [inB, Bool.and_eq_true, Bool.and_eq_false_iff, decide_eq_true_eq, decide_eq_false_iff_not] at h2
      refine c_if false rfl ?_
      refine c_skip ?_
      refine q_then_normal ?_
      refine c_seq ?_
      refine c_seq ?_
      refine c_region ?_
      refine JL_run 3 [] [13, 1] 1 ⟨[(13, vB (decide (x.kind = 2))), (1, .p 0 0)], [⟨62, [vI x.kind, vI x.client, vI x.session, vI x.seq, vI x.acked, vI x.op.kind, vS x.op.a, vS x.op.b, vI x.op.n]⟩]⟩ [] [] (by kernel_rfl) on wn ?_
      refine l_nil (q_then_normal ?_)
      cases h3 : decide (x.kind = 2) with
      | true =>
        have h3 := of_decide_eq_true h3
        refine c_if true rfl ?_
        refine c_seq ?_
        refine c_seq ?_
        refine c_region ?_
        refine JL_run 2 [] [15, 1] 1 ⟨[(15, vI x.session), (1, .p 0 0)], [⟨62, [vI x.kind, vI x.client, vI x.session, vI x.seq, vI x.acked, vI x.op.kind, vS x.op.a, vS x.op.b, vI x.op.n]⟩]⟩ [] [] (by kernel_rfl) on wn ?_
        refine l_pure 38 [] [vI x.session, vI 1, vI 1073741824] (.bool (inB x.session 1 1073741824)) Try.call38 rfl rfl rfl rfl (fun bs w hS => ref_In _ _ _ w) ?_
        refine JL_run 2 [] [18, 1] 1 ⟨[(18, vB (!(inB x.session 1 1073741824))), (1, .p 0 0)], [⟨62, [vI x.kind, vI x.client, vI x.session, vI x.seq, vI x.acked, vI x.op.kind, vS x.op.a, vS x.op.b, vI x.op.n]⟩]⟩ [] [] (by kernel_rfl) on wn ?_
        cases h4 : inB x.session 1 1073741824 with
        | true =>
          simp only [inB, Bool.and_eq_true, Bool.and_eq_false_iff, decide_eq_true_eq, decide_eq_false_iff_not] at h4
          refine JL_run 2 [] [20, 18, 1] 1 ⟨[(20, vI x.seq), (18, vB false), (1, .p 0 0)], [⟨62, [vI x.kind, vI x.client, vI x.session, vI x.seq, vI x.acked, vI x.op.kind, vS x.op.a, vS x.op.b, vI x.op.n]⟩]⟩ [] [] (by kernel_rfl) on wn ?_
          refine l_pure 38 [] [vI x.seq, vI 1, vI 1048576] (.bool (inB x.seq 1 1048576)) Try.call38 rfl rfl rfl rfl (fun bs w hS => ref_In _ _ _ w) ?_
          refine JL_run 3 [] [24, 1] 1 ⟨[(24, vB (!(inB x.seq 1 1048576))), (1, .p 0 0)], [⟨62, [vI x.kind, vI x.client, vI x.session, vI x.seq, vI x.acked, vI x.op.kind, vS x.op.a, vS x.op.b, vI x.op.n]⟩]⟩ [] [] (by kernel_rfl) on wn ?_
          cases h5 : inB x.seq 1 1048576 with
          | true =>
            simp only [inB, Bool.and_eq_true, Bool.and_eq_false_iff, decide_eq_true_eq, decide_eq_false_iff_not] at h5
            refine JL_run 5 [] [29, 26, 24, 1] 1 ⟨[(29, vI (x.seq - 1)), (26, vI x.acked), (24, vB false), (1, .p 0 0)], [⟨62, [vI x.kind, vI x.client, vI x.session, vI x.seq, vI x.acked, vI x.op.kind, vS x.op.a, vS x.op.b, vI x.op.n]⟩]⟩ [inR (x.seq - 1)] [] (by kernel_rfl) (oc (by unfold inR; omega) on) wn ?_
            refine l_pure 38 [] [vI x.acked, vI 0, vI (x.seq - 1)] (.bool (inB x.acked 0 (x.seq - 1))) Try.call38 rfl rfl rfl rfl (fun bs w hS => ref_In _ _ _ w) ?_
            refine JL_run 2 [] [32, 1] 1 ⟨[(32, vB (!(inB x.acked 0 (x.seq - 1)))), (1, .p 0 0)], [⟨62, [vI x.kind, vI x.client, vI x.session, vI x.seq, vI x.acked, vI x.op.kind, vS x.op.a, vS x.op.b, vI x.op.n]⟩]⟩ [] [] (by kernel_rfl) on wn ?_
            refine l_nil (q_then_normal ?_)
            cases h6 : inB x.acked 0 (x.seq - 1) with
            | true =>
              simp only [inB, Bool.and_eq_true, Bool.and_eq_false_iff, decide_eq_true_eq, decide_eq_false_iff_not] at h6
              refine c_if false rfl ?_
              refine c_skip ?_
              refine q_then_normal ?_
              refine c_seq ?_
              refine c_region ?_
              refine JL_run 2 [] [34] 0 ⟨[(34, .v (.agg #[.int .i64 x.op.kind, .string x.op.a, .string x.op.b, .int .i64 x.op.n]))], []⟩ [] [] (by kernel_rfl) on wn ?_
              refine l_pure 51 [] [.v (.agg #[.int .i64 x.op.kind, .string x.op.a, .string x.op.b, .int .i64 x.op.n])] (.int .i64 (mOp x.op)) Try.call51 rfl rfl rfl rfl (fun bs w hS => ref_OpFault (B := anyB) x.op w ⟨(And.left okx), (And.right okx)⟩) ?_
              refine JL_run 1 [] [2] 0 ⟨[(2, vI (mOp x.op))], []⟩ [] [] (by kernel_rfl) on wn ?_
              refine l_nil (q_then_normal ?_)
              refine c_ret ?_
              refine q_then_ret (q_ret (.inl rfl) [vI (mOp x.op)] rfl (fun bs w hS => ?_))
              refine ⟨?_, hS.kp⟩
              simp only [retOf, den, List.map_cons, List.map_nil]
              unfold mCmd
              try simp only [h1, h2, h3, h4, h5, h6, emp_size, ne_eq, not_true_eq_false, not_false_eq_true, true_or, or_true, false_or, or_false, and_true, true_and, and_false, false_and, and_self, or_self, if_true, if_false, Bool.true_eq_false, Bool.false_eq_true, reduceIte, Classical.not_not, Bool.and_eq_true, decide_eq_true_eq]
              repeat (first | rw [if_pos (by omega)] | rw [if_neg (by omega)])
              all_goals first | rfl | (exfalso; omega)
            | false =>
              simp only [inB, Bool.and_eq_true, Bool.and_eq_false_iff, decide_eq_true_eq, decide_eq_false_iff_not] at h6
              refine c_if true rfl ?_
              refine c_seq ?_
              refine c_region ?_
              refine JL_run 1 [] [2] 0 ⟨[(2, vI 2)], []⟩ [] [] (by kernel_rfl) on wn ?_
              refine l_nil (q_then_normal ?_)
              refine c_ret ?_
              refine q_then_ret (q_then_ret (q_ret (.inl rfl) [vI 2] rfl (fun bs w hS => ?_)))
              refine ⟨?_, hS.kp⟩
              simp only [retOf, den, List.map_cons, List.map_nil]
              unfold mCmd
              try simp only [h1, h2, h3, h4, h5, h6, emp_size, ne_eq, not_true_eq_false, not_false_eq_true, true_or, or_true, false_or, or_false, and_true, true_and, and_false, false_and, and_self, or_self, if_true, if_false, Bool.true_eq_false, Bool.false_eq_true, reduceIte, Classical.not_not, Bool.and_eq_true, decide_eq_true_eq]
              repeat (first | rw [if_pos (by omega)] | rw [if_neg (by omega)])
              all_goals first | rfl | (exfalso; omega)
          | false =>
            simp only [inB, Bool.and_eq_true, Bool.and_eq_false_iff, decide_eq_true_eq, decide_eq_false_iff_not] at h5
            refine JL_run 8 [] [32, 1] 1 ⟨[(32, vB true), (1, .p 0 0)], [⟨62, [vI x.kind, vI x.client, vI x.session, vI x.seq, vI x.acked, vI x.op.kind, vS x.op.a, vS x.op.b, vI x.op.n]⟩]⟩ [] [] (by kernel_rfl) on wn ?_
            refine l_nil (q_then_normal ?_)
            refine c_if true rfl ?_
            refine c_seq ?_
            refine c_region ?_
            refine JL_run 1 [] [2] 0 ⟨[(2, vI 2)], []⟩ [] [] (by kernel_rfl) on wn ?_
            refine l_nil (q_then_normal ?_)
            refine c_ret ?_
            refine q_then_ret (q_then_ret (q_ret (.inl rfl) [vI 2] rfl (fun bs w hS => ?_)))
            refine ⟨?_, hS.kp⟩
            simp only [retOf, den, List.map_cons, List.map_nil]
            unfold mCmd
            try simp only [h1, h2, h3, h4, h5, emp_size, ne_eq, not_true_eq_false, not_false_eq_true, true_or, or_true, false_or, or_false, and_true, true_and, and_false, false_and, and_self, or_self, if_true, if_false, Bool.true_eq_false, Bool.false_eq_true, reduceIte, Classical.not_not, Bool.and_eq_true, decide_eq_true_eq]
            repeat (first | rw [if_pos (by omega)] | rw [if_neg (by omega)])
            all_goals first | rfl | (exfalso; omega)
        | false =>
          simp only [inB, Bool.and_eq_true, Bool.and_eq_false_iff, decide_eq_true_eq, decide_eq_false_iff_not] at h4
          refine JL_run 14 [] [32, 1] 1 ⟨[(32, vB true), (1, .p 0 0)], [⟨62, [vI x.kind, vI x.client, vI x.session, vI x.seq, vI x.acked, vI x.op.kind, vS x.op.a, vS x.op.b, vI x.op.n]⟩]⟩ [] [] (by kernel_rfl) on wn ?_
          refine l_nil (q_then_normal ?_)
          refine c_if true rfl ?_
          refine c_seq ?_
          refine c_region ?_
          refine JL_run 1 [] [2] 0 ⟨[(2, vI 2)], []⟩ [] [] (by kernel_rfl) on wn ?_
          refine l_nil (q_then_normal ?_)
          refine c_ret ?_
          refine q_then_ret (q_then_ret (q_ret (.inl rfl) [vI 2] rfl (fun bs w hS => ?_)))
          refine ⟨?_, hS.kp⟩
          simp only [retOf, den, List.map_cons, List.map_nil]
          unfold mCmd
          try simp only [h1, h2, h3, h4, emp_size, ne_eq, not_true_eq_false, not_false_eq_true, true_or, or_true, false_or, or_false, and_true, true_and, and_false, false_and, and_self, or_self, if_true, if_false, Bool.true_eq_false, Bool.false_eq_true, reduceIte, Classical.not_not, Bool.and_eq_true, decide_eq_true_eq]
          repeat (first | rw [if_pos (by omega)] | rw [if_neg (by omega)])
          all_goals first | rfl | (exfalso; omega)
      | false =>
        have h3 := of_decide_eq_false h3
        refine c_if false rfl ?_
        refine c_skip ?_
        refine q_then_normal ?_
        refine c_seq ?_
        refine c_seq ?_
        refine c_region ?_
        refine JL_run 4 [] [39, 1] 1 ⟨[(39, vB (!(decide (x.session = 0)))), (1, .p 0 0)], [⟨62, [vI x.kind, vI x.client, vI x.session, vI x.seq, vI x.acked, vI x.op.kind, vS x.op.a, vS x.op.b, vI x.op.n]⟩]⟩ [] [] (by kernel_rfl) on wn ?_
        cases h7 : decide (x.session = 0) with
        | true =>
          have h7 := of_decide_eq_true h7
          refine JL_run 5 [] [44, 1] 1 ⟨[(44, vB (!(decide (x.seq = 0)))), (1, .p 0 0)], [⟨62, [vI x.kind, vI x.client, vI x.session, vI x.seq, vI x.acked, vI x.op.kind, vS x.op.a, vS x.op.b, vI x.op.n]⟩]⟩ [] [] (by kernel_rfl) on wn ?_
          cases h8 : decide (x.seq = 0) with
          | true =>
            have h8 := of_decide_eq_true h8
            refine JL_run 5 [] [49, 1] 1 ⟨[(49, vB (!(decide (x.acked = 0)))), (1, .p 0 0)], [⟨62, [vI x.kind, vI x.client, vI x.session, vI x.seq, vI x.acked, vI x.op.kind, vS x.op.a, vS x.op.b, vI x.op.n]⟩]⟩ [] [] (by kernel_rfl) on wn ?_
            cases h9 : decide (x.acked = 0) with
            | true =>
              have h9 := of_decide_eq_true h9
              refine JL_run 6 [] [55, 1] 1 ⟨[(55, vB (!(decide (x.op.kind = 0)))), (1, .p 0 0)], [⟨62, [vI x.kind, vI x.client, vI x.session, vI x.seq, vI x.acked, vI x.op.kind, vS x.op.a, vS x.op.b, vI x.op.n]⟩]⟩ [] [] (by kernel_rfl) on wn ?_
              cases h10 : decide (x.op.kind = 0) with
              | true =>
                have h10 := of_decide_eq_true h10
                refine JL_run 6 [] [61, 1] 1 ⟨[(61, vB (!(decide (x.op.a = emp)))), (1, .p 0 0)], [⟨62, [vI x.kind, vI x.client, vI x.session, vI x.seq, vI x.acked, vI x.op.kind, vS x.op.a, vS x.op.b, vI x.op.n]⟩]⟩ [] [] (by kernel_rfl) on wn ?_
                cases h11 : decide (x.op.a = emp) with
                | true =>
                  have h11 := of_decide_eq_true h11
                  have hzh11 : x.op.a.size = 0 := by rw [h11]; rfl
                  refine JL_run 6 [] [67, 1] 1 ⟨[(67, vB (!(decide (x.op.b = emp)))), (1, .p 0 0)], [⟨62, [vI x.kind, vI x.client, vI x.session, vI x.seq, vI x.acked, vI x.op.kind, vS x.op.a, vS x.op.b, vI x.op.n]⟩]⟩ [] [] (by kernel_rfl) on wn ?_
                  cases h12 : decide (x.op.b = emp) with
                  | true =>
                    have h12 := of_decide_eq_true h12
                    have hzh12 : x.op.b.size = 0 := by rw [h12]; rfl
                    refine JL_run 5 [] [72] 0 ⟨[(72, vB (!(decide (x.op.n = 0))))], []⟩ [] [] (by kernel_rfl) on wn ?_
                    refine l_nil (q_then_normal ?_)
                    cases h13 : decide (x.op.n = 0) with
                    | true =>
                      have h13 := of_decide_eq_true h13
                      refine c_if false rfl ?_
                      refine c_skip ?_
                      refine q_then_normal ?_
                      refine c_seq ?_
                      refine c_region ?_
                      refine JL_run 1 [] [2] 0 ⟨[(2, vI 0)], []⟩ [] [] (by kernel_rfl) on wn ?_
                      refine l_nil (q_then_normal ?_)
                      refine c_ret ?_
                      refine q_ret (.inl rfl) [vI 0] rfl (fun bs w hS => ?_)
                      refine ⟨?_, hS.kp⟩
                      simp only [retOf, den, List.map_cons, List.map_nil]
                      unfold mCmd
                      try simp only [h1, h2, h3, h7, h8, h9, h10, h11, h12, h13, emp_size, ne_eq, not_true_eq_false, not_false_eq_true, true_or, or_true, false_or, or_false, and_true, true_and, and_false, false_and, and_self, or_self, if_true, if_false, Bool.true_eq_false, Bool.false_eq_true, reduceIte, Classical.not_not, Bool.and_eq_true, decide_eq_true_eq]
                      repeat (first | rw [if_pos (by omega)] | rw [if_neg (by omega)])
                      all_goals first | rfl | (exfalso; omega)
                    | false =>
                      have h13 := of_decide_eq_false h13
                      refine c_if true rfl ?_
                      refine c_seq ?_
                      refine c_region ?_
                      refine JL_run 1 [] [2] 0 ⟨[(2, vI 4)], []⟩ [] [] (by kernel_rfl) on wn ?_
                      refine l_nil (q_then_normal ?_)
                      refine c_ret ?_
                      refine q_then_ret (q_ret (.inl rfl) [vI 4] rfl (fun bs w hS => ?_))
                      refine ⟨?_, hS.kp⟩
                      simp only [retOf, den, List.map_cons, List.map_nil]
                      unfold mCmd
                      try simp only [h1, h2, h3, h7, h8, h9, h10, h11, h12, h13, emp_size, ne_eq, not_true_eq_false, not_false_eq_true, true_or, or_true, false_or, or_false, and_true, true_and, and_false, false_and, and_self, or_self, if_true, if_false, Bool.true_eq_false, Bool.false_eq_true, reduceIte, Classical.not_not, Bool.and_eq_true, decide_eq_true_eq]
                      repeat (first | rw [if_pos (by omega)] | rw [if_neg (by omega)])
                      all_goals first | rfl | (exfalso; omega)
                  | false =>
                    have h12 := of_decide_eq_false h12
                    refine JL_run 5 [] [72] 0 ⟨[(72, vB true)], []⟩ [] [] (by kernel_rfl) on wn ?_
                    refine l_nil (q_then_normal ?_)
                    refine c_if true rfl ?_
                    refine c_seq ?_
                    refine c_region ?_
                    refine JL_run 1 [] [2] 0 ⟨[(2, vI 4)], []⟩ [] [] (by kernel_rfl) on wn ?_
                    refine l_nil (q_then_normal ?_)
                    refine c_ret ?_
                    refine q_then_ret (q_ret (.inl rfl) [vI 4] rfl (fun bs w hS => ?_))
                    refine ⟨?_, hS.kp⟩
                    simp only [retOf, den, List.map_cons, List.map_nil]
                    unfold mCmd
                    try simp only [h1, h2, h3, h7, h8, h9, h10, h11, h12, emp_size, ne_eq, not_true_eq_false, not_false_eq_true, true_or, or_true, false_or, or_false, and_true, true_and, and_false, false_and, and_self, or_self, if_true, if_false, Bool.true_eq_false, Bool.false_eq_true, reduceIte, Classical.not_not, Bool.and_eq_true, decide_eq_true_eq]
                    repeat (first | rw [if_pos (by omega)] | rw [if_neg (by omega)])
                    all_goals first | rfl | (exfalso; omega)
                | false =>
                  have h11 := of_decide_eq_false h11
                  refine JL_run 11 [] [72] 0 ⟨[(72, vB true)], []⟩ [] [] (by kernel_rfl) on wn ?_
                  refine l_nil (q_then_normal ?_)
                  refine c_if true rfl ?_
                  refine c_seq ?_
                  refine c_region ?_
                  refine JL_run 1 [] [2] 0 ⟨[(2, vI 4)], []⟩ [] [] (by kernel_rfl) on wn ?_
                  refine l_nil (q_then_normal ?_)
                  refine c_ret ?_
                  refine q_then_ret (q_ret (.inl rfl) [vI 4] rfl (fun bs w hS => ?_))
                  refine ⟨?_, hS.kp⟩
                  simp only [retOf, den, List.map_cons, List.map_nil]
                  unfold mCmd
                  try simp only [h1, h2, h3, h7, h8, h9, h10, h11, emp_size, ne_eq, not_true_eq_false, not_false_eq_true, true_or, or_true, false_or, or_false, and_true, true_and, and_false, false_and, and_self, or_self, if_true, if_false, Bool.true_eq_false, Bool.false_eq_true, reduceIte, Classical.not_not, Bool.and_eq_true, decide_eq_true_eq]
                  repeat (first | rw [if_pos (by omega)] | rw [if_neg (by omega)])
                  all_goals first | rfl | (exfalso; omega)
              | false =>
                have h10 := of_decide_eq_false h10
                refine JL_run 17 [] [72] 0 ⟨[(72, vB true)], []⟩ [] [] (by kernel_rfl) on wn ?_
                refine l_nil (q_then_normal ?_)
                refine c_if true rfl ?_
                refine c_seq ?_
                refine c_region ?_
                refine JL_run 1 [] [2] 0 ⟨[(2, vI 4)], []⟩ [] [] (by kernel_rfl) on wn ?_
                refine l_nil (q_then_normal ?_)
                refine c_ret ?_
                refine q_then_ret (q_ret (.inl rfl) [vI 4] rfl (fun bs w hS => ?_))
                refine ⟨?_, hS.kp⟩
                simp only [retOf, den, List.map_cons, List.map_nil]
                unfold mCmd
                try simp only [h1, h2, h3, h7, h8, h9, h10, emp_size, ne_eq, not_true_eq_false, not_false_eq_true, true_or, or_true, false_or, or_false, and_true, true_and, and_false, false_and, and_self, or_self, if_true, if_false, Bool.true_eq_false, Bool.false_eq_true, reduceIte, Classical.not_not, Bool.and_eq_true, decide_eq_true_eq]
                repeat (first | rw [if_pos (by omega)] | rw [if_neg (by omega)])
                all_goals first | rfl | (exfalso; omega)
            | false =>
              have h9 := of_decide_eq_false h9
              refine JL_run 23 [] [72] 0 ⟨[(72, vB true)], []⟩ [] [] (by kernel_rfl) on wn ?_
              refine l_nil (q_then_normal ?_)
              refine c_if true rfl ?_
              refine c_seq ?_
              refine c_region ?_
              refine JL_run 1 [] [2] 0 ⟨[(2, vI 4)], []⟩ [] [] (by kernel_rfl) on wn ?_
              refine l_nil (q_then_normal ?_)
              refine c_ret ?_
              refine q_then_ret (q_ret (.inl rfl) [vI 4] rfl (fun bs w hS => ?_))
              refine ⟨?_, hS.kp⟩
              simp only [retOf, den, List.map_cons, List.map_nil]
              unfold mCmd
              try simp only [h1, h2, h3, h7, h8, h9, emp_size, ne_eq, not_true_eq_false, not_false_eq_true, true_or, or_true, false_or, or_false, and_true, true_and, and_false, false_and, and_self, or_self, if_true, if_false, Bool.true_eq_false, Bool.false_eq_true, reduceIte, Classical.not_not, Bool.and_eq_true, decide_eq_true_eq]
              repeat (first | rw [if_pos (by omega)] | rw [if_neg (by omega)])
              all_goals first | rfl | (exfalso; omega)
          | false =>
            have h8 := of_decide_eq_false h8
            refine JL_run 28 [] [72] 0 ⟨[(72, vB true)], []⟩ [] [] (by kernel_rfl) on wn ?_
            refine l_nil (q_then_normal ?_)
            refine c_if true rfl ?_
            refine c_seq ?_
            refine c_region ?_
            refine JL_run 1 [] [2] 0 ⟨[(2, vI 4)], []⟩ [] [] (by kernel_rfl) on wn ?_
            refine l_nil (q_then_normal ?_)
            refine c_ret ?_
            refine q_then_ret (q_ret (.inl rfl) [vI 4] rfl (fun bs w hS => ?_))
            refine ⟨?_, hS.kp⟩
            simp only [retOf, den, List.map_cons, List.map_nil]
            unfold mCmd
            try simp only [h1, h2, h3, h7, h8, emp_size, ne_eq, not_true_eq_false, not_false_eq_true, true_or, or_true, false_or, or_false, and_true, true_and, and_false, false_and, and_self, or_self, if_true, if_false, Bool.true_eq_false, Bool.false_eq_true, reduceIte, Classical.not_not, Bool.and_eq_true, decide_eq_true_eq]
            repeat (first | rw [if_pos (by omega)] | rw [if_neg (by omega)])
            all_goals first | rfl | (exfalso; omega)
        | false =>
          have h7 := of_decide_eq_false h7
          refine JL_run 33 [] [72] 0 ⟨[(72, vB true)], []⟩ [] [] (by kernel_rfl) on wn ?_
          refine l_nil (q_then_normal ?_)
          refine c_if true rfl ?_
          refine c_seq ?_
          refine c_region ?_
          refine JL_run 1 [] [2] 0 ⟨[(2, vI 4)], []⟩ [] [] (by kernel_rfl) on wn ?_
          refine l_nil (q_then_normal ?_)
          refine c_ret ?_
          refine q_then_ret (q_ret (.inl rfl) [vI 4] rfl (fun bs w hS => ?_))
          refine ⟨?_, hS.kp⟩
          simp only [retOf, den, List.map_cons, List.map_nil]
          unfold mCmd
          try simp only [h1, h2, h3, h7, emp_size, ne_eq, not_true_eq_false, not_false_eq_true, true_or, or_true, false_or, or_false, and_true, true_and, and_false, false_and, and_self, or_self, if_true, if_false, Bool.true_eq_false, Bool.false_eq_true, reduceIte, Classical.not_not, Bool.and_eq_true, decide_eq_true_eq]
          repeat (first | rw [if_pos (by omega)] | rw [if_neg (by omega)])
          all_goals first | rfl | (exfalso; omega)
    | false =>
      simp only [inB, Bool.and_eq_true, Bool.and_eq_false_iff, decide_eq_true_eq, decide_eq_false_iff_not] at h2
      refine c_if true rfl ?_
      refine c_seq ?_
      refine c_region ?_
      refine JL_run 1 [] [2] 0 ⟨[(2, vI 2)], []⟩ [] [] (by kernel_rfl) on wn ?_
      refine l_nil (q_then_normal ?_)
      refine c_ret ?_
      refine q_then_ret (q_ret (.inl rfl) [vI 2] rfl (fun bs w hS => ?_))
      refine ⟨?_, hS.kp⟩
      simp only [retOf, den, List.map_cons, List.map_nil]
      unfold mCmd
      try simp only [h1, h2, emp_size, ne_eq, not_true_eq_false, not_false_eq_true, true_or, or_true, false_or, or_false, and_true, true_and, and_false, false_and, and_self, or_self, if_true, if_false, Bool.true_eq_false, Bool.false_eq_true, reduceIte, Classical.not_not, Bool.and_eq_true, decide_eq_true_eq]
      repeat (first | rw [if_pos (by omega)] | rw [if_neg (by omega)])
      all_goals first | rfl | (exfalso; omega)
  | false =>
    simp only [inB, Bool.and_eq_true, Bool.and_eq_false_iff, decide_eq_true_eq, decide_eq_false_iff_not] at h1
    refine c_if true rfl ?_
    refine c_seq ?_
    refine c_region ?_
    refine JL_run 1 [] [2] 0 ⟨[(2, vI 3)], []⟩ [] [] (by kernel_rfl) on wn ?_
    refine l_nil (q_then_normal ?_)
    refine c_ret ?_
    refine q_then_ret (q_ret (.inl rfl) [vI 3] rfl (fun bs w hS => ?_))
    refine ⟨?_, hS.kp⟩
    simp only [retOf, den, List.map_cons, List.map_nil]
    unfold mCmd
    try simp only [h1, emp_size, ne_eq, not_true_eq_false, not_false_eq_true, true_or, or_true, false_or, or_false, and_true, true_and, and_false, false_and, and_self, or_self, if_true, if_false, Bool.true_eq_false, Bool.false_eq_true, reduceIte, Classical.not_not, Bool.and_eq_true, decide_eq_true_eq]
    repeat (first | rw [if_pos (by omega)] | rw [if_neg (by omega)])
    all_goals first | rfl | (exfalso; omega)

theorem ref_CommandOf (s : ByteArray) (w : World) (hs : s.size ≤ 9223372036854775807) : Calls Try.prog 39 #[.string s] w fun e w' => e = .returned (.tuple #[.agg #[.int .i64 ((mDecode s).1.kind), .int .i64 ((mDecode s).1.client), .int .i64 ((mDecode s).1.session), .int .i64 ((mDecode s).1.seq), .int .i64 ((mDecode s).1.acked), .int .i64 ((mDecode s).1.op.kind), .string ((mDecode s).1.op.a), .string ((mDecode s).1.op.b), .int .i64 ((mDecode s).1.op.n)], .int .i64 ((mDecode s).2)]) ∧ Kp [] w w' := by
  have hu0 := (s.data.getD 0 0).toNat_lt
  have hu1 := (s.data.getD 1 0).toNat_lt
  have hex : (s.extract 2 s.size).size ≤ s.size := by simp
  refine calls_J0 110 Try.func39 rfl rfl [.string s] rfl ?_
  refine c_seq ?_
  refine c_region ?_
  refine JL_run 2 [] [2, 0] 1 ⟨[(2, .p 0 0), (0, vS s)], [⟨62, [vI 0, vI 0, vI 0, vI 0, vI 0, vI 0, vS emp, vS emp, vI 0]⟩]⟩ [] [] (by kernel_rfl) on wn ?_
  refine l_nil (q_then_normal ?_)
  refine c_seq ?_
  refine c_seq ?_
  refine c_region ?_
  refine JL_run 3 [] [20, 2, 0] 1 ⟨[(20, vB (decide ((5000 : Int) < (s.size : Int)))), (2, .p 0 0), (0, vS s)], [⟨62, [vI 0, vI 0, vI 0, vI 0, vI 0, vI 0, vS emp, vS emp, vI 0]⟩]⟩ [] [] (by kernel_rfl) on wn ?_
  refine l_nil (q_then_normal ?_)
  cases h1 : decide ((5000 : Int) < (s.size : Int)) with
  | true =>
    have h1 := of_decide_eq_true h1
    refine c_if true rfl ?_
    refine c_seq ?_
    refine c_region ?_
    refine JL_run 3 [] [3, 2] 1 ⟨[(3, vI 1), (2, .p 0 0)], [⟨62, [vI 0, vI 0, vI 0, vI 0, vI 0, vI 0, vS emp, vS emp, vI 0]⟩]⟩ [] [] (by kernel_rfl) on wn ?_
    refine l_nil (q_then_normal ?_)
    refine c_ret ?_
    refine q_then_ret (q_ret (.inl rfl) [.v (.agg #[.int .i64 0, .int .i64 0, .int .i64 0, .int .i64 0, .int .i64 0, .int .i64 0, .string emp, .string emp, .int .i64 0]), vI 1] rfl (fun bs w hS => ?_))
    refine ⟨?_, hS.kp⟩
    have hm : mDecode s = ((⟨0, 0, 0, 0, 0, ⟨0, emp, emp, 0⟩⟩ : DCommand), 1) := by
      have hk : (cmd0 s).kind = ((s.data.getD 0 0).toNat : Int) := rfl
      unfold mDecode
      repeat (first | rw [if_pos (by omega)] | rw [if_neg (by omega)])
      rfl
    rw [hm]
    rfl
  | false =>
    have h1 := of_decide_eq_false h1
    refine c_if false rfl ?_
    refine c_skip ?_
    refine q_then_normal ?_
    refine c_seq ?_
    refine c_seq ?_
    refine c_region ?_
    refine JL_run 3 [] [24, 2, 0] 1 ⟨[(24, vB (decide ((s.size : Int) < 2))), (2, .p 0 0), (0, vS s)], [⟨62, [vI 0, vI 0, vI 0, vI 0, vI 0, vI 0, vS emp, vS emp, vI 0]⟩]⟩ [] [] (by kernel_rfl) on wn ?_
    refine l_nil (q_then_normal ?_)
    cases h2 : decide ((s.size : Int) < 2) with
    | true =>
      have h2 := of_decide_eq_true h2
      refine c_if true rfl ?_
      refine c_seq ?_
      refine c_region ?_
      refine JL_run 3 [] [3, 2] 1 ⟨[(3, vI 5), (2, .p 0 0)], [⟨62, [vI 0, vI 0, vI 0, vI 0, vI 0, vI 0, vS emp, vS emp, vI 0]⟩]⟩ [] [] (by kernel_rfl) on wn ?_
      refine l_nil (q_then_normal ?_)
      refine c_ret ?_
      refine q_then_ret (q_ret (.inl rfl) [.v (.agg #[.int .i64 0, .int .i64 0, .int .i64 0, .int .i64 0, .int .i64 0, .int .i64 0, .string emp, .string emp, .int .i64 0]), vI 5] rfl (fun bs w hS => ?_))
      refine ⟨?_, hS.kp⟩
      have hm : mDecode s = ((⟨0, 0, 0, 0, 0, ⟨0, emp, emp, 0⟩⟩ : DCommand), 5) := by
        have hk : (cmd0 s).kind = ((s.data.getD 0 0).toNat : Int) := rfl
        unfold mDecode
        repeat (first | rw [if_pos (by omega)] | rw [if_neg (by omega)])
        rfl
      rw [hm]
      rfl
    | false =>
      have h2 := of_decide_eq_false h2
      refine c_if false rfl ?_
      refine c_skip ?_
      refine q_then_normal ?_
      refine c_seq ?_
      refine c_draw 8 [(0, false), (1, false), (2, false), (3, false), (4, false), (5, false), (6, false), (7, true)] [] [] Try_mixed (by kernel_rfl) (pq_then pq_body) (List.Sublist.refl _) ?_
      refine h_quiet [(1, .sidx 0), (4, .sidx 1)] 7 [(32, .v (.agg #[.int .i64 ((s.data.getD 0 0).toNat : Int), .int .i64 ((s.data.getD 1 0).toNat : Int), .int .i64 0, .int .i64 0, .int .i64 0, .int .i64 0, .string emp, .string emp, .int .i64 0])), (31, vI ((s.data.getD 1 0).toNat : Int)), (30, .v (.int .u8 ((s.data.getD 1 0).toNat : Int))), (29, vS s), (28, vI ((s.data.getD 0 0).toNat : Int)), (27, .v (.int .u8 ((s.data.getD 0 0).toNat : Int))), (26, vS s), (24, vB false), (2, .p 0 0), (0, vS s)] [(0 : Int) = ((0 : Nat) : Int), 0 < s.size, 0 ≤ ((s.data.getD 0 0).toNat : Int), ((s.data.getD 0 0).toNat : Int) ≤ 255, (1 : Int) = ((1 : Nat) : Int), 1 < s.size, 0 ≤ ((s.data.getD 1 0).toNat : Int), ((s.data.getD 1 0).toNat : Int) ≤ 255] [] rfl rfl (by kernel_rfl) (oc rfl (oc (by omega) (oc (by omega) (oc (by omega) (oc rfl (oc (by omega) (oc (by omega) (oc (by omega) on)))))))) wn ?_
      refine h_local ⟨[(4, .p 1 0), (32, .v (.agg #[.int .i64 ((s.data.getD 0 0).toNat : Int), .int .i64 ((s.data.getD 1 0).toNat : Int), .int .i64 0, .int .i64 0, .int .i64 0, .int .i64 0, .string emp, .string emp, .int .i64 0])), (31, vI ((s.data.getD 1 0).toNat : Int)), (30, .v (.int .u8 ((s.data.getD 1 0).toNat : Int))), (29, vS s), (28, vI ((s.data.getD 0 0).toNat : Int)), (27, .v (.int .u8 ((s.data.getD 0 0).toNat : Int))), (26, vS s), (24, vB false), (2, .p 0 0), (0, vS s)], [⟨62, [vI 0, vI 0, vI 0, vI 0, vI 0, vI 0, vS emp, vS emp, vI 0]⟩, ⟨62, [vI 0, vI 0, vI 0, vI 0, vI 0, vI 0, vS emp, vS emp, vI 0]⟩]⟩ (by kernel_rfl) (fun bs0 bs w hp hl hS => hS.down hp hl rfl (le_same le_nil) (List.Sublist.refl _)) ?_
      refine h_nil ?_
      refine JL_run 1 [] [4, 2, 0] 2 ⟨[(4, .p 1 0), (2, .p 0 0), (0, vS s)], [⟨62, [vI 0, vI 0, vI 0, vI 0, vI 0, vI 0, vS emp, vS emp, vI 0]⟩, ⟨62, [vI ((s.data.getD 0 0).toNat : Int), vI ((s.data.getD 1 0).toNat : Int), vI 0, vI 0, vI 0, vI 0, vS emp, vS emp, vI 0]⟩]⟩ [] [] (by kernel_rfl) on wn ?_
      refine l_nil (q_then_normal ?_)
      refine c_seq ?_
      refine c_region ?_
      refine JL_run 3 [(1, .sl 2 s.size)] [5, 4, 2] 2 ⟨[(5, vS (s.extract 2 s.size)), (4, .p 1 0), (2, .p 0 0)], [⟨62, [vI 0, vI 0, vI 0, vI 0, vI 0, vI 0, vS emp, vS emp, vI 0]⟩, ⟨62, [vI ((s.data.getD 0 0).toNat : Int), vI ((s.data.getD 1 0).toNat : Int), vI 0, vI 0, vI 0, vI 0, vS emp, vS emp, vI 0]⟩]⟩ [(2 : Int) = ((2 : Nat) : Int), s.size = s.size, 2 ≤ s.size] [] (by kernel_rfl) (oc rfl (oc rfl (oc (by omega) on))) wn ?_
      refine l_nil (q_then_normal ?_)
      refine c_seq ?_
      refine c_seq ?_
      refine c_region ?_
      refine JL_run 3 [] [37, 5, 4, 2] 2 ⟨[(37, vB (decide (((s.data.getD 0 0).toNat : Int) = 2))), (5, vS (s.extract 2 s.size)), (4, .p 1 0), (2, .p 0 0)], [⟨62, [vI 0, vI 0, vI 0, vI 0, vI 0, vI 0, vS emp, vS emp, vI 0]⟩, ⟨62, [vI ((s.data.getD 0 0).toNat : Int), vI ((s.data.getD 1 0).toNat : Int), vI 0, vI 0, vI 0, vI 0, vS emp, vS emp, vI 0]⟩]⟩ [] [] (by kernel_rfl) on wn ?_
      refine l_nil (q_then_normal ?_)
      cases h3 : decide (((s.data.getD 0 0).toNat : Int) = 2) with
      | true =>
        have h3 := of_decide_eq_true h3
        refine c_if true rfl ?_
        refine c_seq ?_
        refine c_region ?_
        refine JL_run 1 [] [6, 5, 4, 2] 3 ⟨[(6, .p 2 0), (5, vS (s.extract 2 s.size)), (4, .p 1 0), (2, .p 0 0)], [⟨62, [vI 0, vI 0, vI 0, vI 0, vI 0, vI 0, vS emp, vS emp, vI 0]⟩, ⟨62, [vI ((s.data.getD 0 0).toNat : Int), vI ((s.data.getD 1 0).toNat : Int), vI 0, vI 0, vI 0, vI 0, vS emp, vS emp, vI 0]⟩, ⟨86, [vI 0, vI 0, vI 0, vI 0, vI 0]⟩]⟩ [] [] (by kernel_rfl) on wn ?_
        refine l_nil (q_then_normal ?_)
        refine c_seq ?_
        refine c_seq ?_
        refine c_region ?_
        refine JL_run 1 [] [7, 6, 5, 4, 2] 3 ⟨[(7, vI 0), (6, .p 2 0), (5, vS (s.extract 2 s.size)), (4, .p 1 0), (2, .p 0 0)], [⟨62, [vI 0, vI 0, vI 0, vI 0, vI 0, vI 0, vS emp, vS emp, vI 0]⟩, ⟨62, [vI ((s.data.getD 0 0).toNat : Int), vI ((s.data.getD 1 0).toNat : Int), vI 0, vI 0, vI 0, vI 0, vS emp, vS emp, vI 0]⟩, ⟨86, [vI 0, vI 0, vI 0, vI 0, vI 0]⟩]⟩ [] [] (by kernel_rfl) on wn ?_
        refine l_nil (q_then_normal ?_)
        refine c_block ?_
        refine c_unroll (n := 6) ?_
        refine c_seq ?_
        refine c_seq ?_
        refine c_region ?_
        refine JL_run 2 [] [39, 7, 6, 5, 4, 2] 3 ⟨[(39, vB true), (7, vI 0), (6, .p 2 0), (5, vS (s.extract 2 s.size)), (4, .p 1 0), (2, .p 0 0)], [⟨62, [vI 0, vI 0, vI 0, vI 0, vI 0, vI 0, vS emp, vS emp, vI 0]⟩, ⟨62, [vI ((s.data.getD 0 0).toNat : Int), vI ((s.data.getD 1 0).toNat : Int), vI 0, vI 0, vI 0, vI 0, vS emp, vS emp, vI 0]⟩, ⟨86, [vI 0, vI 0, vI 0, vI 0, vI 0]⟩]⟩ [] [] (by kernel_rfl) on wn ?_
        refine l_nil (q_then_normal ?_)
        refine c_if true rfl ?_
        refine c_skip ?_
        refine q_then_normal ?_
        refine c_seq ?_
        refine c_block ?_
        refine c_seq ?_
        refine c_region ?_
        refine JL_run 1 [] [43, 7, 6, 4, 2] 3 ⟨[(43, vS (s.extract 2 s.size)), (7, vI 0), (6, .p 2 0), (4, .p 1 0), (2, .p 0 0)], [⟨62, [vI 0, vI 0, vI 0, vI 0, vI 0, vI 0, vS emp, vS emp, vI 0]⟩, ⟨62, [vI ((s.data.getD 0 0).toNat : Int), vI ((s.data.getD 1 0).toNat : Int), vI 0, vI 0, vI 0, vI 0, vS emp, vS emp, vI 0]⟩, ⟨86, [vI 0, vI 0, vI 0, vI 0, vI 0]⟩]⟩ [] [] (by kernel_rfl) on wn ?_
        refine l_pure 31 [] [vS (s.extract 2 s.size)] (.tuple #[.int .i64 ((mRead (s.extract 2 s.size)).1), .string ((mRead (s.extract 2 s.size)).2.1), .int .i64 ((mRead (s.extract 2 s.size)).2.2)]) Try.call31 rfl rfl rfl rfl (fun bs w hS => ref_NumberOf _ w (by first | assumption | omega | (simp only [emp_size]; omega))) ?_
        have hzr1 := mRead_bd (s.extract 2 s.size)
        generalize hr1 : mRead (s.extract 2 s.size) = r1 at hzr1 ⊢
        refine JL_run 7 [] [10, 9, 8, 7, 6, 4, 2] 3 ⟨[(10, vI r1.2.2), (9, vS r1.2.1), (8, vI r1.1), (7, vI 0), (6, .p 2 0), (4, .p 1 0), (2, .p 0 0)], [⟨62, [vI 0, vI 0, vI 0, vI 0, vI 0, vI 0, vS emp, vS emp, vI 0]⟩, ⟨62, [vI ((s.data.getD 0 0).toNat : Int), vI ((s.data.getD 1 0).toNat : Int), vI 0, vI 0, vI 0, vI 0, vS emp, vS emp, vI 0]⟩, ⟨86, [vI 0, vI 0, vI 0, vI 0, vI 0]⟩]⟩ [] [] (by kernel_rfl) on wn ?_
        refine l_nil (q_then_normal ?_)
        refine c_seq ?_
        refine c_seq ?_
        refine c_region ?_
        refine JL_run 2 [] [49, 10, 9, 8, 7, 6, 4, 2] 3 ⟨[(49, vB (!(decide (r1.2.2 = 0)))), (10, vI r1.2.2), (9, vS r1.2.1), (8, vI r1.1), (7, vI 0), (6, .p 2 0), (4, .p 1 0), (2, .p 0 0)], [⟨62, [vI 0, vI 0, vI 0, vI 0, vI 0, vI 0, vS emp, vS emp, vI 0]⟩, ⟨62, [vI ((s.data.getD 0 0).toNat : Int), vI ((s.data.getD 1 0).toNat : Int), vI 0, vI 0, vI 0, vI 0, vS emp, vS emp, vI 0]⟩, ⟨86, [vI 0, vI 0, vI 0, vI 0, vI 0]⟩]⟩ [] [] (by kernel_rfl) on wn ?_
        refine l_nil (q_then_normal ?_)
        cases h4 : decide (r1.2.2 = 0) with
        | true =>
          have h4 := of_decide_eq_true h4
          refine c_if false rfl ?_
          refine c_skip ?_
          refine q_then_normal ?_
          refine c_seq ?_
          refine c_region ?_
          refine JL_run 4 [(2, .idx default 0)] [9, 7, 6, 4, 2] 3 ⟨[(9, vS r1.2.1), (7, vI 0), (6, .p 2 0), (4, .p 1 0), (2, .p 0 0)], [⟨62, [vI 0, vI 0, vI 0, vI 0, vI 0, vI 0, vS emp, vS emp, vI 0]⟩, ⟨62, [vI ((s.data.getD 0 0).toNat : Int), vI ((s.data.getD 1 0).toNat : Int), vI 0, vI 0, vI 0, vI 0, vS emp, vS emp, vI 0]⟩, ⟨86, [vI r1.1, vI 0, vI 0, vI 0, vI 0]⟩]⟩ [(0 : Int) = ((0 : Nat) : Int), 0 < 5] [] (by kernel_rfl) (oc rfl (oc (by omega) on)) wn ?_
          refine l_nil (q_then_normal ?_)
          refine c_region ?_
          refine JL_run 2 [] [5, 7, 6, 4, 2] 3 ⟨[(5, vS r1.2.1), (7, vI 0), (6, .p 2 0), (4, .p 1 0), (2, .p 0 0)], [⟨62, [vI 0, vI 0, vI 0, vI 0, vI 0, vI 0, vS emp, vS emp, vI 0]⟩, ⟨62, [vI ((s.data.getD 0 0).toNat : Int), vI ((s.data.getD 1 0).toNat : Int), vI 0, vI 0, vI 0, vI 0, vS emp, vS emp, vI 0]⟩, ⟨86, [vI r1.1, vI 0, vI 0, vI 0, vI 0]⟩]⟩ [] [] (by kernel_rfl) on wn ?_
          refine l_nil (q_block_normal (q_then_normal ?_))
          refine c_region ?_
          refine JL_run 3 [] [7, 5, 6, 4, 2] 3 ⟨[(7, vI 1), (5, vS r1.2.1), (6, .p 2 0), (4, .p 1 0), (2, .p 0 0)], [⟨62, [vI 0, vI 0, vI 0, vI 0, vI 0, vI 0, vS emp, vS emp, vI 0]⟩, ⟨62, [vI ((s.data.getD 0 0).toNat : Int), vI ((s.data.getD 1 0).toNat : Int), vI 0, vI 0, vI 0, vI 0, vS emp, vS emp, vI 0]⟩, ⟨86, [vI r1.1, vI 0, vI 0, vI 0, vI 0]⟩]⟩ [inR (1)] [] (by kernel_rfl) (oc (by unfold inR; omega) on) wn ?_
          refine l_nil (q_round ?_)
          refine c_seq ?_
          refine c_seq ?_
          refine c_region ?_
          refine JL_run 2 [] [39, 7, 5, 6, 4, 2] 3 ⟨[(39, vB true), (7, vI 1), (5, vS r1.2.1), (6, .p 2 0), (4, .p 1 0), (2, .p 0 0)], [⟨62, [vI 0, vI 0, vI 0, vI 0, vI 0, vI 0, vS emp, vS emp, vI 0]⟩, ⟨62, [vI ((s.data.getD 0 0).toNat : Int), vI ((s.data.getD 1 0).toNat : Int), vI 0, vI 0, vI 0, vI 0, vS emp, vS emp, vI 0]⟩, ⟨86, [vI r1.1, vI 0, vI 0, vI 0, vI 0]⟩]⟩ [] [] (by kernel_rfl) on wn ?_
          refine l_nil (q_then_normal ?_)
          refine c_if true rfl ?_
          refine c_skip ?_
          refine q_then_normal ?_
          refine c_seq ?_
          refine c_block ?_
          refine c_seq ?_
          refine c_region ?_
          refine JL_run 1 [] [43, 7, 6, 4, 2] 3 ⟨[(43, vS r1.2.1), (7, vI 1), (6, .p 2 0), (4, .p 1 0), (2, .p 0 0)], [⟨62, [vI 0, vI 0, vI 0, vI 0, vI 0, vI 0, vS emp, vS emp, vI 0]⟩, ⟨62, [vI ((s.data.getD 0 0).toNat : Int), vI ((s.data.getD 1 0).toNat : Int), vI 0, vI 0, vI 0, vI 0, vS emp, vS emp, vI 0]⟩, ⟨86, [vI r1.1, vI 0, vI 0, vI 0, vI 0]⟩]⟩ [] [] (by kernel_rfl) on wn ?_
          refine l_pure 31 [] [vS r1.2.1] (.tuple #[.int .i64 ((mRead r1.2.1).1), .string ((mRead r1.2.1).2.1), .int .i64 ((mRead r1.2.1).2.2)]) Try.call31 rfl rfl rfl rfl (fun bs w hS => ref_NumberOf _ w (by first | assumption | omega | (simp only [emp_size]; omega))) ?_
          have hzr2 := mRead_bd r1.2.1
          generalize hr2 : mRead r1.2.1 = r2 at hzr2 ⊢
          refine JL_run 7 [] [10, 9, 8, 7, 6, 4, 2] 3 ⟨[(10, vI r2.2.2), (9, vS r2.2.1), (8, vI r2.1), (7, vI 1), (6, .p 2 0), (4, .p 1 0), (2, .p 0 0)], [⟨62, [vI 0, vI 0, vI 0, vI 0, vI 0, vI 0, vS emp, vS emp, vI 0]⟩, ⟨62, [vI ((s.data.getD 0 0).toNat : Int), vI ((s.data.getD 1 0).toNat : Int), vI 0, vI 0, vI 0, vI 0, vS emp, vS emp, vI 0]⟩, ⟨86, [vI r1.1, vI 0, vI 0, vI 0, vI 0]⟩]⟩ [] [] (by kernel_rfl) on wn ?_
          refine l_nil (q_then_normal ?_)
          refine c_seq ?_
          refine c_seq ?_
          refine c_region ?_
          refine JL_run 2 [] [49, 10, 9, 8, 7, 6, 4, 2] 3 ⟨[(49, vB (!(decide (r2.2.2 = 0)))), (10, vI r2.2.2), (9, vS r2.2.1), (8, vI r2.1), (7, vI 1), (6, .p 2 0), (4, .p 1 0), (2, .p 0 0)], [⟨62, [vI 0, vI 0, vI 0, vI 0, vI 0, vI 0, vS emp, vS emp, vI 0]⟩, ⟨62, [vI ((s.data.getD 0 0).toNat : Int), vI ((s.data.getD 1 0).toNat : Int), vI 0, vI 0, vI 0, vI 0, vS emp, vS emp, vI 0]⟩, ⟨86, [vI r1.1, vI 0, vI 0, vI 0, vI 0]⟩]⟩ [] [] (by kernel_rfl) on wn ?_
          refine l_nil (q_then_normal ?_)
          cases h5 : decide (r2.2.2 = 0) with
          | true =>
            have h5 := of_decide_eq_true h5
            refine c_if false rfl ?_
            refine c_skip ?_
            refine q_then_normal ?_
            refine c_seq ?_
            refine c_region ?_
            refine JL_run 4 [(2, .idx default 1)] [9, 7, 6, 4, 2] 3 ⟨[(9, vS r2.2.1), (7, vI 1), (6, .p 2 0), (4, .p 1 0), (2, .p 0 0)], [⟨62, [vI 0, vI 0, vI 0, vI 0, vI 0, vI 0, vS emp, vS emp, vI 0]⟩, ⟨62, [vI ((s.data.getD 0 0).toNat : Int), vI ((s.data.getD 1 0).toNat : Int), vI 0, vI 0, vI 0, vI 0, vS emp, vS emp, vI 0]⟩, ⟨86, [vI r1.1, vI r2.1, vI 0, vI 0, vI 0]⟩]⟩ [(1 : Int) = ((1 : Nat) : Int), 1 < 5] [] (by kernel_rfl) (oc rfl (oc (by omega) on)) wn ?_
            refine l_nil (q_then_normal ?_)
            refine c_region ?_
            refine JL_run 2 [] [5, 7, 6, 4, 2] 3 ⟨[(5, vS r2.2.1), (7, vI 1), (6, .p 2 0), (4, .p 1 0), (2, .p 0 0)], [⟨62, [vI 0, vI 0, vI 0, vI 0, vI 0, vI 0, vS emp, vS emp, vI 0]⟩, ⟨62, [vI ((s.data.getD 0 0).toNat : Int), vI ((s.data.getD 1 0).toNat : Int), vI 0, vI 0, vI 0, vI 0, vS emp, vS emp, vI 0]⟩, ⟨86, [vI r1.1, vI r2.1, vI 0, vI 0, vI 0]⟩]⟩ [] [] (by kernel_rfl) on wn ?_
            refine l_nil (q_block_normal (q_then_normal ?_))
            refine c_region ?_
            refine JL_run 3 [] [7, 5, 6, 4, 2] 3 ⟨[(7, vI 2), (5, vS r2.2.1), (6, .p 2 0), (4, .p 1 0), (2, .p 0 0)], [⟨62, [vI 0, vI 0, vI 0, vI 0, vI 0, vI 0, vS emp, vS emp, vI 0]⟩, ⟨62, [vI ((s.data.getD 0 0).toNat : Int), vI ((s.data.getD 1 0).toNat : Int), vI 0, vI 0, vI 0, vI 0, vS emp, vS emp, vI 0]⟩, ⟨86, [vI r1.1, vI r2.1, vI 0, vI 0, vI 0]⟩]⟩ [inR (2)] [] (by kernel_rfl) (oc (by unfold inR; omega) on) wn ?_
            refine l_nil (q_round ?_)
            refine c_seq ?_
            refine c_seq ?_
            refine c_region ?_
            refine JL_run 2 [] [39, 7, 5, 6, 4, 2] 3 ⟨[(39, vB true), (7, vI 2), (5, vS r2.2.1), (6, .p 2 0), (4, .p 1 0), (2, .p 0 0)], [⟨62, [vI 0, vI 0, vI 0, vI 0, vI 0, vI 0, vS emp, vS emp, vI 0]⟩, ⟨62, [vI ((s.data.getD 0 0).toNat : Int), vI ((s.data.getD 1 0).toNat : Int), vI 0, vI 0, vI 0, vI 0, vS emp, vS emp, vI 0]⟩, ⟨86, [vI r1.1, vI r2.1, vI 0, vI 0, vI 0]⟩]⟩ [] [] (by kernel_rfl) on wn ?_
            refine l_nil (q_then_normal ?_)
            refine c_if true rfl ?_
            refine c_skip ?_
            refine q_then_normal ?_
            refine c_seq ?_
            refine c_block ?_
            refine c_seq ?_
            refine c_region ?_
            refine JL_run 1 [] [43, 7, 6, 4, 2] 3 ⟨[(43, vS r2.2.1), (7, vI 2), (6, .p 2 0), (4, .p 1 0), (2, .p 0 0)], [⟨62, [vI 0, vI 0, vI 0, vI 0, vI 0, vI 0, vS emp, vS emp, vI 0]⟩, ⟨62, [vI ((s.data.getD 0 0).toNat : Int), vI ((s.data.getD 1 0).toNat : Int), vI 0, vI 0, vI 0, vI 0, vS emp, vS emp, vI 0]⟩, ⟨86, [vI r1.1, vI r2.1, vI 0, vI 0, vI 0]⟩]⟩ [] [] (by kernel_rfl) on wn ?_
            refine l_pure 31 [] [vS r2.2.1] (.tuple #[.int .i64 ((mRead r2.2.1).1), .string ((mRead r2.2.1).2.1), .int .i64 ((mRead r2.2.1).2.2)]) Try.call31 rfl rfl rfl rfl (fun bs w hS => ref_NumberOf _ w (by first | assumption | omega | (simp only [emp_size]; omega))) ?_
            have hzr3 := mRead_bd r2.2.1
            generalize hr3 : mRead r2.2.1 = r3 at hzr3 ⊢
            refine JL_run 7 [] [10, 9, 8, 7, 6, 4, 2] 3 ⟨[(10, vI r3.2.2), (9, vS r3.2.1), (8, vI r3.1), (7, vI 2), (6, .p 2 0), (4, .p 1 0), (2, .p 0 0)], [⟨62, [vI 0, vI 0, vI 0, vI 0, vI 0, vI 0, vS emp, vS emp, vI 0]⟩, ⟨62, [vI ((s.data.getD 0 0).toNat : Int), vI ((s.data.getD 1 0).toNat : Int), vI 0, vI 0, vI 0, vI 0, vS emp, vS emp, vI 0]⟩, ⟨86, [vI r1.1, vI r2.1, vI 0, vI 0, vI 0]⟩]⟩ [] [] (by kernel_rfl) on wn ?_
            refine l_nil (q_then_normal ?_)
            refine c_seq ?_
            refine c_seq ?_
            refine c_region ?_
            refine JL_run 2 [] [49, 10, 9, 8, 7, 6, 4, 2] 3 ⟨[(49, vB (!(decide (r3.2.2 = 0)))), (10, vI r3.2.2), (9, vS r3.2.1), (8, vI r3.1), (7, vI 2), (6, .p 2 0), (4, .p 1 0), (2, .p 0 0)], [⟨62, [vI 0, vI 0, vI 0, vI 0, vI 0, vI 0, vS emp, vS emp, vI 0]⟩, ⟨62, [vI ((s.data.getD 0 0).toNat : Int), vI ((s.data.getD 1 0).toNat : Int), vI 0, vI 0, vI 0, vI 0, vS emp, vS emp, vI 0]⟩, ⟨86, [vI r1.1, vI r2.1, vI 0, vI 0, vI 0]⟩]⟩ [] [] (by kernel_rfl) on wn ?_
            refine l_nil (q_then_normal ?_)
            cases h6 : decide (r3.2.2 = 0) with
            | true =>
              have h6 := of_decide_eq_true h6
              refine c_if false rfl ?_
              refine c_skip ?_
              refine q_then_normal ?_
              refine c_seq ?_
              refine c_region ?_
              refine JL_run 4 [(2, .idx default 2)] [9, 7, 6, 4, 2] 3 ⟨[(9, vS r3.2.1), (7, vI 2), (6, .p 2 0), (4, .p 1 0), (2, .p 0 0)], [⟨62, [vI 0, vI 0, vI 0, vI 0, vI 0, vI 0, vS emp, vS emp, vI 0]⟩, ⟨62, [vI ((s.data.getD 0 0).toNat : Int), vI ((s.data.getD 1 0).toNat : Int), vI 0, vI 0, vI 0, vI 0, vS emp, vS emp, vI 0]⟩, ⟨86, [vI r1.1, vI r2.1, vI r3.1, vI 0, vI 0]⟩]⟩ [(2 : Int) = ((2 : Nat) : Int), 2 < 5] [] (by kernel_rfl) (oc rfl (oc (by omega) on)) wn ?_
              refine l_nil (q_then_normal ?_)
              refine c_region ?_
              refine JL_run 2 [] [5, 7, 6, 4, 2] 3 ⟨[(5, vS r3.2.1), (7, vI 2), (6, .p 2 0), (4, .p 1 0), (2, .p 0 0)], [⟨62, [vI 0, vI 0, vI 0, vI 0, vI 0, vI 0, vS emp, vS emp, vI 0]⟩, ⟨62, [vI ((s.data.getD 0 0).toNat : Int), vI ((s.data.getD 1 0).toNat : Int), vI 0, vI 0, vI 0, vI 0, vS emp, vS emp, vI 0]⟩, ⟨86, [vI r1.1, vI r2.1, vI r3.1, vI 0, vI 0]⟩]⟩ [] [] (by kernel_rfl) on wn ?_
              refine l_nil (q_block_normal (q_then_normal ?_))
              refine c_region ?_
              refine JL_run 3 [] [7, 5, 6, 4, 2] 3 ⟨[(7, vI 3), (5, vS r3.2.1), (6, .p 2 0), (4, .p 1 0), (2, .p 0 0)], [⟨62, [vI 0, vI 0, vI 0, vI 0, vI 0, vI 0, vS emp, vS emp, vI 0]⟩, ⟨62, [vI ((s.data.getD 0 0).toNat : Int), vI ((s.data.getD 1 0).toNat : Int), vI 0, vI 0, vI 0, vI 0, vS emp, vS emp, vI 0]⟩, ⟨86, [vI r1.1, vI r2.1, vI r3.1, vI 0, vI 0]⟩]⟩ [inR (3)] [] (by kernel_rfl) (oc (by unfold inR; omega) on) wn ?_
              refine l_nil (q_round ?_)
              refine c_seq ?_
              refine c_seq ?_
              refine c_region ?_
              refine JL_run 2 [] [39, 7, 5, 6, 4, 2] 3 ⟨[(39, vB true), (7, vI 3), (5, vS r3.2.1), (6, .p 2 0), (4, .p 1 0), (2, .p 0 0)], [⟨62, [vI 0, vI 0, vI 0, vI 0, vI 0, vI 0, vS emp, vS emp, vI 0]⟩, ⟨62, [vI ((s.data.getD 0 0).toNat : Int), vI ((s.data.getD 1 0).toNat : Int), vI 0, vI 0, vI 0, vI 0, vS emp, vS emp, vI 0]⟩, ⟨86, [vI r1.1, vI r2.1, vI r3.1, vI 0, vI 0]⟩]⟩ [] [] (by kernel_rfl) on wn ?_
              refine l_nil (q_then_normal ?_)
              refine c_if true rfl ?_
              refine c_skip ?_
              refine q_then_normal ?_
              refine c_seq ?_
              refine c_block ?_
              refine c_seq ?_
              refine c_region ?_
              refine JL_run 1 [] [43, 7, 6, 4, 2] 3 ⟨[(43, vS r3.2.1), (7, vI 3), (6, .p 2 0), (4, .p 1 0), (2, .p 0 0)], [⟨62, [vI 0, vI 0, vI 0, vI 0, vI 0, vI 0, vS emp, vS emp, vI 0]⟩, ⟨62, [vI ((s.data.getD 0 0).toNat : Int), vI ((s.data.getD 1 0).toNat : Int), vI 0, vI 0, vI 0, vI 0, vS emp, vS emp, vI 0]⟩, ⟨86, [vI r1.1, vI r2.1, vI r3.1, vI 0, vI 0]⟩]⟩ [] [] (by kernel_rfl) on wn ?_
              refine l_pure 31 [] [vS r3.2.1] (.tuple #[.int .i64 ((mRead r3.2.1).1), .string ((mRead r3.2.1).2.1), .int .i64 ((mRead r3.2.1).2.2)]) Try.call31 rfl rfl rfl rfl (fun bs w hS => ref_NumberOf _ w (by first | assumption | omega | (simp only [emp_size]; omega))) ?_
              have hzr4 := mRead_bd r3.2.1
              generalize hr4 : mRead r3.2.1 = r4 at hzr4 ⊢
              refine JL_run 7 [] [10, 9, 8, 7, 6, 4, 2] 3 ⟨[(10, vI r4.2.2), (9, vS r4.2.1), (8, vI r4.1), (7, vI 3), (6, .p 2 0), (4, .p 1 0), (2, .p 0 0)], [⟨62, [vI 0, vI 0, vI 0, vI 0, vI 0, vI 0, vS emp, vS emp, vI 0]⟩, ⟨62, [vI ((s.data.getD 0 0).toNat : Int), vI ((s.data.getD 1 0).toNat : Int), vI 0, vI 0, vI 0, vI 0, vS emp, vS emp, vI 0]⟩, ⟨86, [vI r1.1, vI r2.1, vI r3.1, vI 0, vI 0]⟩]⟩ [] [] (by kernel_rfl) on wn ?_
              refine l_nil (q_then_normal ?_)
              refine c_seq ?_
              refine c_seq ?_
              refine c_region ?_
              refine JL_run 2 [] [49, 10, 9, 8, 7, 6, 4, 2] 3 ⟨[(49, vB (!(decide (r4.2.2 = 0)))), (10, vI r4.2.2), (9, vS r4.2.1), (8, vI r4.1), (7, vI 3), (6, .p 2 0), (4, .p 1 0), (2, .p 0 0)], [⟨62, [vI 0, vI 0, vI 0, vI 0, vI 0, vI 0, vS emp, vS emp, vI 0]⟩, ⟨62, [vI ((s.data.getD 0 0).toNat : Int), vI ((s.data.getD 1 0).toNat : Int), vI 0, vI 0, vI 0, vI 0, vS emp, vS emp, vI 0]⟩, ⟨86, [vI r1.1, vI r2.1, vI r3.1, vI 0, vI 0]⟩]⟩ [] [] (by kernel_rfl) on wn ?_
              refine l_nil (q_then_normal ?_)
              cases h7 : decide (r4.2.2 = 0) with
              | true =>
                have h7 := of_decide_eq_true h7
                refine c_if false rfl ?_
                refine c_skip ?_
                refine q_then_normal ?_
                refine c_seq ?_
                refine c_region ?_
                refine JL_run 4 [(2, .idx default 3)] [9, 7, 6, 4, 2] 3 ⟨[(9, vS r4.2.1), (7, vI 3), (6, .p 2 0), (4, .p 1 0), (2, .p 0 0)], [⟨62, [vI 0, vI 0, vI 0, vI 0, vI 0, vI 0, vS emp, vS emp, vI 0]⟩, ⟨62, [vI ((s.data.getD 0 0).toNat : Int), vI ((s.data.getD 1 0).toNat : Int), vI 0, vI 0, vI 0, vI 0, vS emp, vS emp, vI 0]⟩, ⟨86, [vI r1.1, vI r2.1, vI r3.1, vI r4.1, vI 0]⟩]⟩ [(3 : Int) = ((3 : Nat) : Int), 3 < 5] [] (by kernel_rfl) (oc rfl (oc (by omega) on)) wn ?_
                refine l_nil (q_then_normal ?_)
                refine c_region ?_
                refine JL_run 2 [] [5, 7, 6, 4, 2] 3 ⟨[(5, vS r4.2.1), (7, vI 3), (6, .p 2 0), (4, .p 1 0), (2, .p 0 0)], [⟨62, [vI 0, vI 0, vI 0, vI 0, vI 0, vI 0, vS emp, vS emp, vI 0]⟩, ⟨62, [vI ((s.data.getD 0 0).toNat : Int), vI ((s.data.getD 1 0).toNat : Int), vI 0, vI 0, vI 0, vI 0, vS emp, vS emp, vI 0]⟩, ⟨86, [vI r1.1, vI r2.1, vI r3.1, vI r4.1, vI 0]⟩]⟩ [] [] (by kernel_rfl) on wn ?_
                refine l_nil (q_block_normal (q_then_normal ?_))
                refine c_region ?_
                refine JL_run 3 [] [7, 5, 6, 4, 2] 3 ⟨[(7, vI 4), (5, vS r4.2.1), (6, .p 2 0), (4, .p 1 0), (2, .p 0 0)], [⟨62, [vI 0, vI 0, vI 0, vI 0, vI 0, vI 0, vS emp, vS emp, vI 0]⟩, ⟨62, [vI ((s.data.getD 0 0).toNat : Int), vI ((s.data.getD 1 0).toNat : Int), vI 0, vI 0, vI 0, vI 0, vS emp, vS emp, vI 0]⟩, ⟨86, [vI r1.1, vI r2.1, vI r3.1, vI r4.1, vI 0]⟩]⟩ [inR (4)] [] (by kernel_rfl) (oc (by unfold inR; omega) on) wn ?_
                refine l_nil (q_round ?_)
                refine c_seq ?_
                refine c_seq ?_
                refine c_region ?_
                refine JL_run 2 [] [39, 7, 5, 6, 4, 2] 3 ⟨[(39, vB true), (7, vI 4), (5, vS r4.2.1), (6, .p 2 0), (4, .p 1 0), (2, .p 0 0)], [⟨62, [vI 0, vI 0, vI 0, vI 0, vI 0, vI 0, vS emp, vS emp, vI 0]⟩, ⟨62, [vI ((s.data.getD 0 0).toNat : Int), vI ((s.data.getD 1 0).toNat : Int), vI 0, vI 0, vI 0, vI 0, vS emp, vS emp, vI 0]⟩, ⟨86, [vI r1.1, vI r2.1, vI r3.1, vI r4.1, vI 0]⟩]⟩ [] [] (by kernel_rfl) on wn ?_
                refine l_nil (q_then_normal ?_)
                refine c_if true rfl ?_
                refine c_skip ?_
                refine q_then_normal ?_
                refine c_seq ?_
                refine c_block ?_
                refine c_seq ?_
                refine c_region ?_
                refine JL_run 1 [] [43, 7, 6, 4, 2] 3 ⟨[(43, vS r4.2.1), (7, vI 4), (6, .p 2 0), (4, .p 1 0), (2, .p 0 0)], [⟨62, [vI 0, vI 0, vI 0, vI 0, vI 0, vI 0, vS emp, vS emp, vI 0]⟩, ⟨62, [vI ((s.data.getD 0 0).toNat : Int), vI ((s.data.getD 1 0).toNat : Int), vI 0, vI 0, vI 0, vI 0, vS emp, vS emp, vI 0]⟩, ⟨86, [vI r1.1, vI r2.1, vI r3.1, vI r4.1, vI 0]⟩]⟩ [] [] (by kernel_rfl) on wn ?_
                refine l_pure 31 [] [vS r4.2.1] (.tuple #[.int .i64 ((mRead r4.2.1).1), .string ((mRead r4.2.1).2.1), .int .i64 ((mRead r4.2.1).2.2)]) Try.call31 rfl rfl rfl rfl (fun bs w hS => ref_NumberOf _ w (by first | assumption | omega | (simp only [emp_size]; omega))) ?_
                have hzr5 := mRead_bd r4.2.1
                generalize hr5 : mRead r4.2.1 = r5 at hzr5 ⊢
                refine JL_run 7 [] [10, 9, 8, 7, 6, 4, 2] 3 ⟨[(10, vI r5.2.2), (9, vS r5.2.1), (8, vI r5.1), (7, vI 4), (6, .p 2 0), (4, .p 1 0), (2, .p 0 0)], [⟨62, [vI 0, vI 0, vI 0, vI 0, vI 0, vI 0, vS emp, vS emp, vI 0]⟩, ⟨62, [vI ((s.data.getD 0 0).toNat : Int), vI ((s.data.getD 1 0).toNat : Int), vI 0, vI 0, vI 0, vI 0, vS emp, vS emp, vI 0]⟩, ⟨86, [vI r1.1, vI r2.1, vI r3.1, vI r4.1, vI 0]⟩]⟩ [] [] (by kernel_rfl) on wn ?_
                refine l_nil (q_then_normal ?_)
                refine c_seq ?_
                refine c_seq ?_
                refine c_region ?_
                refine JL_run 2 [] [49, 10, 9, 8, 7, 6, 4, 2] 3 ⟨[(49, vB (!(decide (r5.2.2 = 0)))), (10, vI r5.2.2), (9, vS r5.2.1), (8, vI r5.1), (7, vI 4), (6, .p 2 0), (4, .p 1 0), (2, .p 0 0)], [⟨62, [vI 0, vI 0, vI 0, vI 0, vI 0, vI 0, vS emp, vS emp, vI 0]⟩, ⟨62, [vI ((s.data.getD 0 0).toNat : Int), vI ((s.data.getD 1 0).toNat : Int), vI 0, vI 0, vI 0, vI 0, vS emp, vS emp, vI 0]⟩, ⟨86, [vI r1.1, vI r2.1, vI r3.1, vI r4.1, vI 0]⟩]⟩ [] [] (by kernel_rfl) on wn ?_
                refine l_nil (q_then_normal ?_)
                cases h8 : decide (r5.2.2 = 0) with
                | true =>
                  have h8 := of_decide_eq_true h8
                  refine c_if false rfl ?_
                  refine c_skip ?_
                  refine q_then_normal ?_
                  refine c_seq ?_
                  refine c_region ?_
                  refine JL_run 4 [(2, .idx default 4)] [9, 7, 6, 4, 2] 3 ⟨[(9, vS r5.2.1), (7, vI 4), (6, .p 2 0), (4, .p 1 0), (2, .p 0 0)], [⟨62, [vI 0, vI 0, vI 0, vI 0, vI 0, vI 0, vS emp, vS emp, vI 0]⟩, ⟨62, [vI ((s.data.getD 0 0).toNat : Int), vI ((s.data.getD 1 0).toNat : Int), vI 0, vI 0, vI 0, vI 0, vS emp, vS emp, vI 0]⟩, ⟨86, [vI r1.1, vI r2.1, vI r3.1, vI r4.1, vI r5.1]⟩]⟩ [(4 : Int) = ((4 : Nat) : Int), 4 < 5] [] (by kernel_rfl) (oc rfl (oc (by omega) on)) wn ?_
                  refine l_nil (q_then_normal ?_)
                  refine c_region ?_
                  refine JL_run 2 [] [5, 7, 6, 4, 2] 3 ⟨[(5, vS r5.2.1), (7, vI 4), (6, .p 2 0), (4, .p 1 0), (2, .p 0 0)], [⟨62, [vI 0, vI 0, vI 0, vI 0, vI 0, vI 0, vS emp, vS emp, vI 0]⟩, ⟨62, [vI ((s.data.getD 0 0).toNat : Int), vI ((s.data.getD 1 0).toNat : Int), vI 0, vI 0, vI 0, vI 0, vS emp, vS emp, vI 0]⟩, ⟨86, [vI r1.1, vI r2.1, vI r3.1, vI r4.1, vI r5.1]⟩]⟩ [] [] (by kernel_rfl) on wn ?_
                  refine l_nil (q_block_normal (q_then_normal ?_))
                  refine c_region ?_
                  refine JL_run 3 [] [7, 5, 6, 4, 2] 3 ⟨[(7, vI 5), (5, vS r5.2.1), (6, .p 2 0), (4, .p 1 0), (2, .p 0 0)], [⟨62, [vI 0, vI 0, vI 0, vI 0, vI 0, vI 0, vS emp, vS emp, vI 0]⟩, ⟨62, [vI ((s.data.getD 0 0).toNat : Int), vI ((s.data.getD 1 0).toNat : Int), vI 0, vI 0, vI 0, vI 0, vS emp, vS emp, vI 0]⟩, ⟨86, [vI r1.1, vI r2.1, vI r3.1, vI r4.1, vI r5.1]⟩]⟩ [inR (5)] [] (by kernel_rfl) (oc (by unfold inR; omega) on) wn ?_
                  refine l_nil (q_round ?_)
                  refine c_seq ?_
                  refine c_seq ?_
                  refine c_region ?_
                  refine JL_run 2 [] [39, 7, 5, 6, 4, 2] 3 ⟨[(39, vB false), (7, vI 5), (5, vS r5.2.1), (6, .p 2 0), (4, .p 1 0), (2, .p 0 0)], [⟨62, [vI 0, vI 0, vI 0, vI 0, vI 0, vI 0, vS emp, vS emp, vI 0]⟩, ⟨62, [vI ((s.data.getD 0 0).toNat : Int), vI ((s.data.getD 1 0).toNat : Int), vI 0, vI 0, vI 0, vI 0, vS emp, vS emp, vI 0]⟩, ⟨86, [vI r1.1, vI r2.1, vI r3.1, vI r4.1, vI r5.1]⟩]⟩ [] [] (by kernel_rfl) on wn ?_
                  refine l_nil (q_then_normal ?_)
                  refine c_if false rfl ?_
                  refine c_exit ?_
                  refine q_then_exit (q_then_exit (q_block_hit (q_then_normal ?_)))
                  refine c_seq ?_
                  refine c_region ?_
                  refine JL_run 4 [(0, .idx default 0)] [5, 6, 4, 2] 3 ⟨[(5, vS r5.2.1), (6, .p 2 0), (4, .p 1 0), (2, .p 0 0)], [⟨62, [vI 0, vI 0, vI 0, vI 0, vI 0, vI 0, vS emp, vS emp, vI 0]⟩, ⟨62, [vI ((s.data.getD 0 0).toNat : Int), vI ((s.data.getD 1 0).toNat : Int), vI r1.1, vI 0, vI 0, vI 0, vS emp, vS emp, vI 0]⟩, ⟨86, [vI r1.1, vI r2.1, vI r3.1, vI r4.1, vI r5.1]⟩]⟩ [(0 : Int) = ((0 : Nat) : Int), 0 < 5] [] (by kernel_rfl) (oc rfl (oc (by omega) on)) wn ?_
                  refine l_nil (q_then_normal ?_)
                  refine c_seq ?_
                  refine c_region ?_
                  refine JL_run 4 [(0, .idx default 1)] [5, 6, 4, 2] 3 ⟨[(5, vS r5.2.1), (6, .p 2 0), (4, .p 1 0), (2, .p 0 0)], [⟨62, [vI 0, vI 0, vI 0, vI 0, vI 0, vI 0, vS emp, vS emp, vI 0]⟩, ⟨62, [vI ((s.data.getD 0 0).toNat : Int), vI ((s.data.getD 1 0).toNat : Int), vI r1.1, vI r2.1, vI 0, vI 0, vS emp, vS emp, vI 0]⟩, ⟨86, [vI r1.1, vI r2.1, vI r3.1, vI r4.1, vI r5.1]⟩]⟩ [(1 : Int) = ((1 : Nat) : Int), 1 < 5] [] (by kernel_rfl) (oc rfl (oc (by omega) on)) wn ?_
                  refine l_nil (q_then_normal ?_)
                  refine c_seq ?_
                  refine c_region ?_
                  refine JL_run 4 [(0, .idx default 2)] [5, 6, 4, 2] 3 ⟨[(5, vS r5.2.1), (6, .p 2 0), (4, .p 1 0), (2, .p 0 0)], [⟨62, [vI 0, vI 0, vI 0, vI 0, vI 0, vI 0, vS emp, vS emp, vI 0]⟩, ⟨62, [vI ((s.data.getD 0 0).toNat : Int), vI ((s.data.getD 1 0).toNat : Int), vI r1.1, vI r2.1, vI r3.1, vI 0, vS emp, vS emp, vI 0]⟩, ⟨86, [vI r1.1, vI r2.1, vI r3.1, vI r4.1, vI r5.1]⟩]⟩ [(2 : Int) = ((2 : Nat) : Int), 2 < 5] [] (by kernel_rfl) (oc rfl (oc (by omega) on)) wn ?_
                  refine l_nil (q_then_normal ?_)
                  refine c_seq ?_
                  refine c_region ?_
                  refine JL_run 5 [(0, .idx default 3)] [5, 6, 4, 2] 3 ⟨[(5, vS r5.2.1), (6, .p 2 0), (4, .p 1 0), (2, .p 0 0)], [⟨62, [vI 0, vI 0, vI 0, vI 0, vI 0, vI 0, vS emp, vS emp, vI 0]⟩, ⟨62, [vI ((s.data.getD 0 0).toNat : Int), vI ((s.data.getD 1 0).toNat : Int), vI r1.1, vI r2.1, vI r3.1, vI r4.1, vS emp, vS emp, vI 0]⟩, ⟨86, [vI r1.1, vI r2.1, vI r3.1, vI r4.1, vI r5.1]⟩]⟩ [(3 : Int) = ((3 : Nat) : Int), 3 < 5] [] (by kernel_rfl) (oc rfl (oc (by omega) on)) wn ?_
                  refine l_nil (q_then_normal ?_)
                  refine c_seq ?_
                  refine c_region ?_
                  refine JL_run 5 [(0, .idx default 4)] [5, 4, 2] 2 ⟨[(5, vS r5.2.1), (4, .p 1 0), (2, .p 0 0)], [⟨62, [vI 0, vI 0, vI 0, vI 0, vI 0, vI 0, vS emp, vS emp, vI 0]⟩, ⟨62, [vI ((s.data.getD 0 0).toNat : Int), vI ((s.data.getD 1 0).toNat : Int), vI r1.1, vI r2.1, vI r3.1, vI r4.1, vS emp, vS emp, vI r5.1]⟩]⟩ [(4 : Int) = ((4 : Nat) : Int), 4 < 5] [] (by kernel_rfl) (oc rfl (oc (by omega) on)) wn ?_
                  refine l_nil (q_then_normal ?_)
                  refine c_seq ?_
                  refine c_region ?_
                  refine JL_run 1 [] [74, 4, 2] 2 ⟨[(74, vS r5.2.1), (4, .p 1 0), (2, .p 0 0)], [⟨62, [vI 0, vI 0, vI 0, vI 0, vI 0, vI 0, vS emp, vS emp, vI 0]⟩, ⟨62, [vI ((s.data.getD 0 0).toNat : Int), vI ((s.data.getD 1 0).toNat : Int), vI r1.1, vI r2.1, vI r3.1, vI r4.1, vS emp, vS emp, vI r5.1]⟩]⟩ [] [] (by kernel_rfl) on wn ?_
                  refine l_pure 48 [] [vS r5.2.1] (.tuple #[.string ((mTell r5.2.1).1), .string ((mTell r5.2.1).2.1), .int .i64 ((mTell r5.2.1).2.2)]) Try.call48 rfl rfl rfl rfl (fun bs w hS => ref_TextOf _ w (by first | assumption | omega | (simp only [emp_size]; omega))) ?_
                  have hzr6 := mTell_bd r5.2.1
                  generalize hr6 : mTell r5.2.1 = r6 at hzr6 ⊢
                  refine JL_run 7 [] [13, 12, 11, 4, 2] 2 ⟨[(13, vI r6.2.2), (12, vS r6.2.1), (11, vS r6.1), (4, .p 1 0), (2, .p 0 0)], [⟨62, [vI 0, vI 0, vI 0, vI 0, vI 0, vI 0, vS emp, vS emp, vI 0]⟩, ⟨62, [vI ((s.data.getD 0 0).toNat : Int), vI ((s.data.getD 1 0).toNat : Int), vI r1.1, vI r2.1, vI r3.1, vI r4.1, vS emp, vS emp, vI r5.1]⟩]⟩ [] [] (by kernel_rfl) on wn ?_
                  refine l_nil (q_then_normal ?_)
                  refine c_seq ?_
                  refine c_seq ?_
                  refine c_region ?_
                  refine JL_run 2 [] [80, 13, 12, 11, 4, 2] 2 ⟨[(80, vB (!(decide (r6.2.2 = 0)))), (13, vI r6.2.2), (12, vS r6.2.1), (11, vS r6.1), (4, .p 1 0), (2, .p 0 0)], [⟨62, [vI 0, vI 0, vI 0, vI 0, vI 0, vI 0, vS emp, vS emp, vI 0]⟩, ⟨62, [vI ((s.data.getD 0 0).toNat : Int), vI ((s.data.getD 1 0).toNat : Int), vI r1.1, vI r2.1, vI r3.1, vI r4.1, vS emp, vS emp, vI r5.1]⟩]⟩ [] [] (by kernel_rfl) on wn ?_
                  refine l_nil (q_then_normal ?_)
                  cases h9 : decide (r6.2.2 = 0) with
                  | true =>
                    have h9 := of_decide_eq_true h9
                    refine c_if false rfl ?_
                    refine c_skip ?_
                    refine q_then_normal ?_
                    refine c_seq ?_
                    refine c_region ?_
                    refine JL_run 1 [] [84, 11, 4, 2] 2 ⟨[(84, vS r6.2.1), (11, vS r6.1), (4, .p 1 0), (2, .p 0 0)], [⟨62, [vI 0, vI 0, vI 0, vI 0, vI 0, vI 0, vS emp, vS emp, vI 0]⟩, ⟨62, [vI ((s.data.getD 0 0).toNat : Int), vI ((s.data.getD 1 0).toNat : Int), vI r1.1, vI r2.1, vI r3.1, vI r4.1, vS emp, vS emp, vI r5.1]⟩]⟩ [] [] (by kernel_rfl) on wn ?_
                    refine l_pure 48 [] [vS r6.2.1] (.tuple #[.string ((mTell r6.2.1).1), .string ((mTell r6.2.1).2.1), .int .i64 ((mTell r6.2.1).2.2)]) Try.call48 rfl rfl rfl rfl (fun bs w hS => ref_TextOf _ w (by first | assumption | omega | (simp only [emp_size]; omega))) ?_
                    have hzr7 := mTell_bd r6.2.1
                    generalize hr7 : mTell r6.2.1 = r7 at hzr7 ⊢
                    refine JL_run 7 [] [16, 15, 14, 11, 4, 2] 2 ⟨[(16, vI r7.2.2), (15, vS r7.2.1), (14, vS r7.1), (11, vS r6.1), (4, .p 1 0), (2, .p 0 0)], [⟨62, [vI 0, vI 0, vI 0, vI 0, vI 0, vI 0, vS emp, vS emp, vI 0]⟩, ⟨62, [vI ((s.data.getD 0 0).toNat : Int), vI ((s.data.getD 1 0).toNat : Int), vI r1.1, vI r2.1, vI r3.1, vI r4.1, vS emp, vS emp, vI r5.1]⟩]⟩ [] [] (by kernel_rfl) on wn ?_
                    refine l_nil (q_then_normal ?_)
                    refine c_seq ?_
                    refine c_seq ?_
                    refine c_region ?_
                    refine JL_run 2 [] [90, 16, 15, 14, 11, 4, 2] 2 ⟨[(90, vB (!(decide (r7.2.2 = 0)))), (16, vI r7.2.2), (15, vS r7.2.1), (14, vS r7.1), (11, vS r6.1), (4, .p 1 0), (2, .p 0 0)], [⟨62, [vI 0, vI 0, vI 0, vI 0, vI 0, vI 0, vS emp, vS emp, vI 0]⟩, ⟨62, [vI ((s.data.getD 0 0).toNat : Int), vI ((s.data.getD 1 0).toNat : Int), vI r1.1, vI r2.1, vI r3.1, vI r4.1, vS emp, vS emp, vI r5.1]⟩]⟩ [] [] (by kernel_rfl) on wn ?_
                    refine l_nil (q_then_normal ?_)
                    cases h10 : decide (r7.2.2 = 0) with
                    | true =>
                      have h10 := of_decide_eq_true h10
                      refine c_if false rfl ?_
                      refine c_skip ?_
                      refine q_then_normal ?_
                      refine c_seq ?_
                      refine c_region ?_
                      refine JL_run 4 [] [15, 14, 4, 2] 2 ⟨[(15, vS r7.2.1), (14, vS r7.1), (4, .p 1 0), (2, .p 0 0)], [⟨62, [vI 0, vI 0, vI 0, vI 0, vI 0, vI 0, vS emp, vS emp, vI 0]⟩, ⟨62, [vI ((s.data.getD 0 0).toNat : Int), vI ((s.data.getD 1 0).toNat : Int), vI r1.1, vI r2.1, vI r3.1, vI r4.1, vS r6.1, vS emp, vI r5.1]⟩]⟩ [] [] (by kernel_rfl) on wn ?_
                      refine l_nil (q_then_normal ?_)
                      refine c_seq ?_
                      refine c_region ?_
                      refine JL_run 4 [] [15, 4, 2] 2 ⟨[(15, vS r7.2.1), (4, .p 1 0), (2, .p 0 0)], [⟨62, [vI 0, vI 0, vI 0, vI 0, vI 0, vI 0, vS emp, vS emp, vI 0]⟩, ⟨62, [vI ((s.data.getD 0 0).toNat : Int), vI ((s.data.getD 1 0).toNat : Int), vI r1.1, vI r2.1, vI r3.1, vI r4.1, vS r6.1, vS r7.1, vI r5.1]⟩]⟩ [] [] (by kernel_rfl) on wn ?_
                      refine l_nil (q_then_normal ?_)
                      refine c_region ?_
                      refine JL_run 2 [] [5, 4, 2] 2 ⟨[(5, vS r7.2.1), (4, .p 1 0), (2, .p 0 0)], [⟨62, [vI 0, vI 0, vI 0, vI 0, vI 0, vI 0, vS emp, vS emp, vI 0]⟩, ⟨62, [vI ((s.data.getD 0 0).toNat : Int), vI ((s.data.getD 1 0).toNat : Int), vI r1.1, vI r2.1, vI r3.1, vI r4.1, vS r6.1, vS r7.1, vI r5.1]⟩]⟩ [] [] (by kernel_rfl) on wn ?_
                      refine l_nil (q_then_normal ?_)
                      refine c_seq ?_
                      refine c_seq ?_
                      refine c_region ?_
                      refine JL_run 2 [] [101, 4, 2] 2 ⟨[(101, vB (!(decide (r7.2.1 = emp)))), (4, .p 1 0), (2, .p 0 0)], [⟨62, [vI 0, vI 0, vI 0, vI 0, vI 0, vI 0, vS emp, vS emp, vI 0]⟩, ⟨62, [vI ((s.data.getD 0 0).toNat : Int), vI ((s.data.getD 1 0).toNat : Int), vI r1.1, vI r2.1, vI r3.1, vI r4.1, vS r6.1, vS r7.1, vI r5.1]⟩]⟩ [] [] (by kernel_rfl) on wn ?_
                      refine l_nil (q_then_normal ?_)
                      cases h11 : decide (r7.2.1 = emp) with
                      | true =>
                        have h11 := of_decide_eq_true h11
                        have hzh11 : r7.2.1.size = 0 := by rw [h11]; rfl
                        refine c_if false rfl ?_
                        refine c_skip ?_
                        refine q_then_normal ?_
                        refine c_seq ?_
                        refine c_region ?_
                        refine JL_run 1 [] [103, 4, 2] 2 ⟨[(103, .v (.agg #[.int .i64 ((s.data.getD 0 0).toNat : Int), .int .i64 ((s.data.getD 1 0).toNat : Int), .int .i64 r1.1, .int .i64 r2.1, .int .i64 r3.1, .int .i64 r4.1, .string r6.1, .string r7.1, .int .i64 r5.1])), (4, .p 1 0), (2, .p 0 0)], [⟨62, [vI 0, vI 0, vI 0, vI 0, vI 0, vI 0, vS emp, vS emp, vI 0]⟩, ⟨62, [vI ((s.data.getD 0 0).toNat : Int), vI ((s.data.getD 1 0).toNat : Int), vI r1.1, vI r2.1, vI r3.1, vI r4.1, vS r6.1, vS r7.1, vI r5.1]⟩]⟩ [] [] (by kernel_rfl) on wn ?_
                        refine l_pure 49 [] [.v (.agg #[.int .i64 ((s.data.getD 0 0).toNat : Int), .int .i64 ((s.data.getD 1 0).toNat : Int), .int .i64 r1.1, .int .i64 r2.1, .int .i64 r3.1, .int .i64 r4.1, .string r6.1, .string r7.1, .int .i64 r5.1])] (.int .i64 (mCmd (⟨((s.data.getD 0 0).toNat : Int), ((s.data.getD 1 0).toNat : Int), r1.1, r2.1, r3.1, ⟨r4.1, r6.1, r7.1, r5.1⟩⟩ : DCommand))) Try.call49 rfl rfl rfl rfl (fun bs w hS => ref_CommandFault (B := anyB) (⟨((s.data.getD 0 0).toNat : Int), ((s.data.getD 1 0).toNat : Int), r1.1, r2.1, r3.1, ⟨r4.1, r6.1, r7.1, r5.1⟩⟩ : DCommand) w ⟨(show r6.1.size ≤ 9223372036854775807 from (by first | assumption | omega | (simp only [emp_size]; omega))), (show r7.1.size ≤ 9223372036854775807 from (by first | assumption | omega | (simp only [emp_size]; omega)))⟩) ?_
                        refine JL_run 1 [] [17, 4, 2] 2 ⟨[(17, vI (mCmd (⟨((s.data.getD 0 0).toNat : Int), ((s.data.getD 1 0).toNat : Int), r1.1, r2.1, r3.1, ⟨r4.1, r6.1, r7.1, r5.1⟩⟩ : DCommand))), (4, .p 1 0), (2, .p 0 0)], [⟨62, [vI 0, vI 0, vI 0, vI 0, vI 0, vI 0, vS emp, vS emp, vI 0]⟩, ⟨62, [vI ((s.data.getD 0 0).toNat : Int), vI ((s.data.getD 1 0).toNat : Int), vI r1.1, vI r2.1, vI r3.1, vI r4.1, vS r6.1, vS r7.1, vI r5.1]⟩]⟩ [] [] (by kernel_rfl) on wn ?_
                        refine l_nil (q_then_normal ?_)
                        refine c_seq ?_
                        refine c_seq ?_
                        refine c_region ?_
                        refine JL_run 2 [] [106, 17, 4, 2] 2 ⟨[(106, vB (!(decide (mCmd (⟨((s.data.getD 0 0).toNat : Int), ((s.data.getD 1 0).toNat : Int), r1.1, r2.1, r3.1, ⟨r4.1, r6.1, r7.1, r5.1⟩⟩ : DCommand) = 0)))), (17, vI (mCmd (⟨((s.data.getD 0 0).toNat : Int), ((s.data.getD 1 0).toNat : Int), r1.1, r2.1, r3.1, ⟨r4.1, r6.1, r7.1, r5.1⟩⟩ : DCommand))), (4, .p 1 0), (2, .p 0 0)], [⟨62, [vI 0, vI 0, vI 0, vI 0, vI 0, vI 0, vS emp, vS emp, vI 0]⟩, ⟨62, [vI ((s.data.getD 0 0).toNat : Int), vI ((s.data.getD 1 0).toNat : Int), vI r1.1, vI r2.1, vI r3.1, vI r4.1, vS r6.1, vS r7.1, vI r5.1]⟩]⟩ [] [] (by kernel_rfl) on wn ?_
                        refine l_nil (q_then_normal ?_)
                        cases h12 : decide (mCmd (⟨((s.data.getD 0 0).toNat : Int), ((s.data.getD 1 0).toNat : Int), r1.1, r2.1, r3.1, ⟨r4.1, r6.1, r7.1, r5.1⟩⟩ : DCommand) = 0) with
                        | true =>
                          have h12 := of_decide_eq_true h12
                          refine c_if false rfl ?_
                          refine c_skip ?_
                          refine q_then_normal ?_
                          refine c_seq ?_
                          refine c_region ?_
                          refine JL_run 3 [] [3, 2] 1 ⟨[(3, vI 0), (2, .p 0 0)], [⟨62, [vI ((s.data.getD 0 0).toNat : Int), vI ((s.data.getD 1 0).toNat : Int), vI r1.1, vI r2.1, vI r3.1, vI r4.1, vS r6.1, vS r7.1, vI r5.1]⟩]⟩ [] [] (by kernel_rfl) on wn ?_
                          refine l_nil (q_then_normal ?_)
                          refine c_ret ?_
                          refine q_ret (.inl rfl) [.v (.agg #[.int .i64 ((s.data.getD 0 0).toNat : Int), .int .i64 ((s.data.getD 1 0).toNat : Int), .int .i64 r1.1, .int .i64 r2.1, .int .i64 r3.1, .int .i64 r4.1, .string r6.1, .string r7.1, .int .i64 r5.1]), vI 0] rfl (fun bs w hS => ?_)
                          refine ⟨?_, hS.kp⟩
                          have hm : mDecode s = ((⟨((s.data.getD 0 0).toNat : Int), ((s.data.getD 1 0).toNat : Int), r1.1, r2.1, r3.1, ⟨r4.1, r6.1, r7.1, r5.1⟩⟩ : DCommand), 0) := by
                            have hk : (cmd0 s).kind = ((s.data.getD 0 0).toNat : Int) := rfl
                            unfold mDecode
                            repeat (first | rw [if_pos (by omega)] | rw [if_neg (by omega)])
                            all_goals (simp only [mFin, mBody, cmd0, zOp, hr1, hr2, hr3, hr4, hr5, hr6, hr7, h4, h5, h6, h7, h8, h9, h10, h11, h12, ne_eq, not_true_eq_false, not_false_eq_true, if_true, if_false, reduceIte]; try rfl)
                          rw [hm]
                          rfl
                        | false =>
                          have h12 := of_decide_eq_false h12
                          refine c_if true rfl ?_
                          refine c_seq ?_
                          refine c_region ?_
                          refine JL_run 4 [] [3, 2] 1 ⟨[(3, vI (mCmd (⟨((s.data.getD 0 0).toNat : Int), ((s.data.getD 1 0).toNat : Int), r1.1, r2.1, r3.1, ⟨r4.1, r6.1, r7.1, r5.1⟩⟩ : DCommand))), (2, .p 0 0)], [⟨62, [vI 0, vI 0, vI 0, vI 0, vI 0, vI 0, vS emp, vS emp, vI 0]⟩]⟩ [] [] (by kernel_rfl) on wn ?_
                          refine l_nil (q_then_normal ?_)
                          refine c_ret ?_
                          refine q_then_ret (q_ret (.inl rfl) [.v (.agg #[.int .i64 0, .int .i64 0, .int .i64 0, .int .i64 0, .int .i64 0, .int .i64 0, .string emp, .string emp, .int .i64 0]), vI (mCmd (⟨((s.data.getD 0 0).toNat : Int), ((s.data.getD 1 0).toNat : Int), r1.1, r2.1, r3.1, ⟨r4.1, r6.1, r7.1, r5.1⟩⟩ : DCommand))] rfl (fun bs w hS => ?_))
                          refine ⟨?_, hS.kp⟩
                          have hm : mDecode s = ((⟨0, 0, 0, 0, 0, ⟨0, emp, emp, 0⟩⟩ : DCommand), mCmd (⟨((s.data.getD 0 0).toNat : Int), ((s.data.getD 1 0).toNat : Int), r1.1, r2.1, r3.1, ⟨r4.1, r6.1, r7.1, r5.1⟩⟩ : DCommand)) := by
                            have hk : (cmd0 s).kind = ((s.data.getD 0 0).toNat : Int) := rfl
                            unfold mDecode
                            repeat (first | rw [if_pos (by omega)] | rw [if_neg (by omega)])
                            all_goals (simp only [mFin, mBody, cmd0, zOp, hr1, hr2, hr3, hr4, hr5, hr6, hr7, h4, h5, h6, h7, h8, h9, h10, h11, h12, ne_eq, not_true_eq_false, not_false_eq_true, if_true, if_false, reduceIte]; try rfl)
                          rw [hm]
                          rfl
                      | false =>
                        have h11 := of_decide_eq_false h11
                        refine c_if true rfl ?_
                        refine c_seq ?_
                        refine c_region ?_
                        refine JL_run 3 [] [3, 2] 1 ⟨[(3, vI 4), (2, .p 0 0)], [⟨62, [vI 0, vI 0, vI 0, vI 0, vI 0, vI 0, vS emp, vS emp, vI 0]⟩]⟩ [] [] (by kernel_rfl) on wn ?_
                        refine l_nil (q_then_normal ?_)
                        refine c_ret ?_
                        refine q_then_ret (q_ret (.inl rfl) [.v (.agg #[.int .i64 0, .int .i64 0, .int .i64 0, .int .i64 0, .int .i64 0, .int .i64 0, .string emp, .string emp, .int .i64 0]), vI 4] rfl (fun bs w hS => ?_))
                        refine ⟨?_, hS.kp⟩
                        have hm : mDecode s = ((⟨0, 0, 0, 0, 0, ⟨0, emp, emp, 0⟩⟩ : DCommand), 4) := by
                          have hk : (cmd0 s).kind = ((s.data.getD 0 0).toNat : Int) := rfl
                          unfold mDecode
                          repeat (first | rw [if_pos (by omega)] | rw [if_neg (by omega)])
                          all_goals (simp only [mFin, mBody, cmd0, zOp, hr1, hr2, hr3, hr4, hr5, hr6, hr7, h4, h5, h6, h7, h8, h9, h10, h11, ne_eq, not_true_eq_false, not_false_eq_true, if_true, if_false, reduceIte]; try rfl)
                        rw [hm]
                        rfl
                    | false =>
                      have h10 := of_decide_eq_false h10
                      refine c_if true rfl ?_
                      refine c_seq ?_
                      refine c_region ?_
                      refine JL_run 4 [] [3, 2] 1 ⟨[(3, vI r7.2.2), (2, .p 0 0)], [⟨62, [vI 0, vI 0, vI 0, vI 0, vI 0, vI 0, vS emp, vS emp, vI 0]⟩]⟩ [] [] (by kernel_rfl) on wn ?_
                      refine l_nil (q_then_normal ?_)
                      refine c_ret ?_
                      refine q_then_ret (q_then_ret (q_ret (.inl rfl) [.v (.agg #[.int .i64 0, .int .i64 0, .int .i64 0, .int .i64 0, .int .i64 0, .int .i64 0, .string emp, .string emp, .int .i64 0]), vI r7.2.2] rfl (fun bs w hS => ?_)))
                      refine ⟨?_, hS.kp⟩
                      have hm : mDecode s = ((⟨0, 0, 0, 0, 0, ⟨0, emp, emp, 0⟩⟩ : DCommand), r7.2.2) := by
                        have hk : (cmd0 s).kind = ((s.data.getD 0 0).toNat : Int) := rfl
                        unfold mDecode
                        repeat (first | rw [if_pos (by omega)] | rw [if_neg (by omega)])
                        all_goals (simp only [mFin, mBody, cmd0, zOp, hr1, hr2, hr3, hr4, hr5, hr6, hr7, h4, h5, h6, h7, h8, h9, h10, ne_eq, not_true_eq_false, not_false_eq_true, if_true, if_false, reduceIte]; try rfl)
                      rw [hm]
                      rfl
                  | false =>
                    have h9 := of_decide_eq_false h9
                    refine c_if true rfl ?_
                    refine c_seq ?_
                    refine c_region ?_
                    refine JL_run 4 [] [3, 2] 1 ⟨[(3, vI r6.2.2), (2, .p 0 0)], [⟨62, [vI 0, vI 0, vI 0, vI 0, vI 0, vI 0, vS emp, vS emp, vI 0]⟩]⟩ [] [] (by kernel_rfl) on wn ?_
                    refine l_nil (q_then_normal ?_)
                    refine c_ret ?_
                    refine q_then_ret (q_then_ret (q_ret (.inl rfl) [.v (.agg #[.int .i64 0, .int .i64 0, .int .i64 0, .int .i64 0, .int .i64 0, .int .i64 0, .string emp, .string emp, .int .i64 0]), vI r6.2.2] rfl (fun bs w hS => ?_)))
                    refine ⟨?_, hS.kp⟩
                    have hm : mDecode s = ((⟨0, 0, 0, 0, 0, ⟨0, emp, emp, 0⟩⟩ : DCommand), r6.2.2) := by
                      have hk : (cmd0 s).kind = ((s.data.getD 0 0).toNat : Int) := rfl
                      unfold mDecode
                      repeat (first | rw [if_pos (by omega)] | rw [if_neg (by omega)])
                      all_goals (simp only [mFin, mBody, cmd0, zOp, hr1, hr2, hr3, hr4, hr5, hr6, h4, h5, h6, h7, h8, h9, ne_eq, not_true_eq_false, not_false_eq_true, if_true, if_false, reduceIte]; try rfl)
                    rw [hm]
                    rfl
                | false =>
                  have h8 := of_decide_eq_false h8
                  refine c_if true rfl ?_
                  refine c_seq ?_
                  refine c_region ?_
                  refine JL_run 4 [] [3, 2] 1 ⟨[(3, vI r5.2.2), (2, .p 0 0)], [⟨62, [vI 0, vI 0, vI 0, vI 0, vI 0, vI 0, vS emp, vS emp, vI 0]⟩]⟩ [] [] (by kernel_rfl) on wn ?_
                  refine l_nil (q_then_normal ?_)
                  refine c_ret ?_
                  refine q_then_ret (q_block_ret (q_then_ret (q_then_ret (q_block_ret (q_then_ret (q_then_ret (q_ret (.inl rfl) [.v (.agg #[.int .i64 0, .int .i64 0, .int .i64 0, .int .i64 0, .int .i64 0, .int .i64 0, .string emp, .string emp, .int .i64 0]), vI r5.2.2] rfl (fun bs w hS => ?_))))))))
                  refine ⟨?_, hS.kp⟩
                  have hm : mDecode s = ((⟨0, 0, 0, 0, 0, ⟨0, emp, emp, 0⟩⟩ : DCommand), r5.2.2) := by
                    have hk : (cmd0 s).kind = ((s.data.getD 0 0).toNat : Int) := rfl
                    unfold mDecode
                    repeat (first | rw [if_pos (by omega)] | rw [if_neg (by omega)])
                    all_goals (simp only [mFin, mBody, cmd0, zOp, hr1, hr2, hr3, hr4, hr5, h4, h5, h6, h7, h8, ne_eq, not_true_eq_false, not_false_eq_true, if_true, if_false, reduceIte]; try rfl)
                  rw [hm]
                  rfl
              | false =>
                have h7 := of_decide_eq_false h7
                refine c_if true rfl ?_
                refine c_seq ?_
                refine c_region ?_
                refine JL_run 4 [] [3, 2] 1 ⟨[(3, vI r4.2.2), (2, .p 0 0)], [⟨62, [vI 0, vI 0, vI 0, vI 0, vI 0, vI 0, vS emp, vS emp, vI 0]⟩]⟩ [] [] (by kernel_rfl) on wn ?_
                refine l_nil (q_then_normal ?_)
                refine c_ret ?_
                refine q_then_ret (q_block_ret (q_then_ret (q_then_ret (q_block_ret (q_then_ret (q_then_ret (q_ret (.inl rfl) [.v (.agg #[.int .i64 0, .int .i64 0, .int .i64 0, .int .i64 0, .int .i64 0, .int .i64 0, .string emp, .string emp, .int .i64 0]), vI r4.2.2] rfl (fun bs w hS => ?_))))))))
                refine ⟨?_, hS.kp⟩
                have hm : mDecode s = ((⟨0, 0, 0, 0, 0, ⟨0, emp, emp, 0⟩⟩ : DCommand), r4.2.2) := by
                  have hk : (cmd0 s).kind = ((s.data.getD 0 0).toNat : Int) := rfl
                  unfold mDecode
                  repeat (first | rw [if_pos (by omega)] | rw [if_neg (by omega)])
                  all_goals (simp only [mFin, mBody, cmd0, zOp, hr1, hr2, hr3, hr4, h4, h5, h6, h7, ne_eq, not_true_eq_false, not_false_eq_true, if_true, if_false, reduceIte]; try rfl)
                rw [hm]
                rfl
            | false =>
              have h6 := of_decide_eq_false h6
              refine c_if true rfl ?_
              refine c_seq ?_
              refine c_region ?_
              refine JL_run 4 [] [3, 2] 1 ⟨[(3, vI r3.2.2), (2, .p 0 0)], [⟨62, [vI 0, vI 0, vI 0, vI 0, vI 0, vI 0, vS emp, vS emp, vI 0]⟩]⟩ [] [] (by kernel_rfl) on wn ?_
              refine l_nil (q_then_normal ?_)
              refine c_ret ?_
              refine q_then_ret (q_block_ret (q_then_ret (q_then_ret (q_block_ret (q_then_ret (q_then_ret (q_ret (.inl rfl) [.v (.agg #[.int .i64 0, .int .i64 0, .int .i64 0, .int .i64 0, .int .i64 0, .int .i64 0, .string emp, .string emp, .int .i64 0]), vI r3.2.2] rfl (fun bs w hS => ?_))))))))
              refine ⟨?_, hS.kp⟩
              have hm : mDecode s = ((⟨0, 0, 0, 0, 0, ⟨0, emp, emp, 0⟩⟩ : DCommand), r3.2.2) := by
                have hk : (cmd0 s).kind = ((s.data.getD 0 0).toNat : Int) := rfl
                unfold mDecode
                repeat (first | rw [if_pos (by omega)] | rw [if_neg (by omega)])
                all_goals (simp only [mFin, mBody, cmd0, zOp, hr1, hr2, hr3, h4, h5, h6, ne_eq, not_true_eq_false, not_false_eq_true, if_true, if_false, reduceIte]; try rfl)
              rw [hm]
              rfl
          | false =>
            have h5 := of_decide_eq_false h5
            refine c_if true rfl ?_
            refine c_seq ?_
            refine c_region ?_
            refine JL_run 4 [] [3, 2] 1 ⟨[(3, vI r2.2.2), (2, .p 0 0)], [⟨62, [vI 0, vI 0, vI 0, vI 0, vI 0, vI 0, vS emp, vS emp, vI 0]⟩]⟩ [] [] (by kernel_rfl) on wn ?_
            refine l_nil (q_then_normal ?_)
            refine c_ret ?_
            refine q_then_ret (q_block_ret (q_then_ret (q_then_ret (q_block_ret (q_then_ret (q_then_ret (q_ret (.inl rfl) [.v (.agg #[.int .i64 0, .int .i64 0, .int .i64 0, .int .i64 0, .int .i64 0, .int .i64 0, .string emp, .string emp, .int .i64 0]), vI r2.2.2] rfl (fun bs w hS => ?_))))))))
            refine ⟨?_, hS.kp⟩
            have hm : mDecode s = ((⟨0, 0, 0, 0, 0, ⟨0, emp, emp, 0⟩⟩ : DCommand), r2.2.2) := by
              have hk : (cmd0 s).kind = ((s.data.getD 0 0).toNat : Int) := rfl
              unfold mDecode
              repeat (first | rw [if_pos (by omega)] | rw [if_neg (by omega)])
              all_goals (simp only [mFin, mBody, cmd0, zOp, hr1, hr2, h4, h5, ne_eq, not_true_eq_false, not_false_eq_true, if_true, if_false, reduceIte]; try rfl)
            rw [hm]
            rfl
        | false =>
          have h4 := of_decide_eq_false h4
          refine c_if true rfl ?_
          refine c_seq ?_
          refine c_region ?_
          refine JL_run 4 [] [3, 2] 1 ⟨[(3, vI r1.2.2), (2, .p 0 0)], [⟨62, [vI 0, vI 0, vI 0, vI 0, vI 0, vI 0, vS emp, vS emp, vI 0]⟩]⟩ [] [] (by kernel_rfl) on wn ?_
          refine l_nil (q_then_normal ?_)
          refine c_ret ?_
          refine q_then_ret (q_block_ret (q_then_ret (q_then_ret (q_block_ret (q_then_ret (q_then_ret (q_ret (.inl rfl) [.v (.agg #[.int .i64 0, .int .i64 0, .int .i64 0, .int .i64 0, .int .i64 0, .int .i64 0, .string emp, .string emp, .int .i64 0]), vI r1.2.2] rfl (fun bs w hS => ?_))))))))
          refine ⟨?_, hS.kp⟩
          have hm : mDecode s = ((⟨0, 0, 0, 0, 0, ⟨0, emp, emp, 0⟩⟩ : DCommand), r1.2.2) := by
            have hk : (cmd0 s).kind = ((s.data.getD 0 0).toNat : Int) := rfl
            unfold mDecode
            repeat (first | rw [if_pos (by omega)] | rw [if_neg (by omega)])
            all_goals (simp only [mFin, mBody, cmd0, zOp, hr1, h4, ne_eq, not_true_eq_false, not_false_eq_true, if_true, if_false, reduceIte]; try rfl)
          rw [hm]
          rfl
      | false =>
        have h3 := of_decide_eq_false h3
        refine c_if false rfl ?_
        refine c_skip ?_
        refine q_then_normal ?_
        refine c_seq ?_
        refine c_seq ?_
        refine c_region ?_
        refine JL_run 2 [] [101, 4, 2] 2 ⟨[(101, vB (!(decide ((s.extract 2 s.size) = emp)))), (4, .p 1 0), (2, .p 0 0)], [⟨62, [vI 0, vI 0, vI 0, vI 0, vI 0, vI 0, vS emp, vS emp, vI 0]⟩, ⟨62, [vI ((s.data.getD 0 0).toNat : Int), vI ((s.data.getD 1 0).toNat : Int), vI 0, vI 0, vI 0, vI 0, vS emp, vS emp, vI 0]⟩]⟩ [] [] (by kernel_rfl) on wn ?_
        refine l_nil (q_then_normal ?_)
        cases h13 : decide ((s.extract 2 s.size) = emp) with
        | true =>
          have h13 := of_decide_eq_true h13
          have hzh13 : (s.extract 2 s.size).size = 0 := by rw [h13]; rfl
          refine c_if false rfl ?_
          refine c_skip ?_
          refine q_then_normal ?_
          refine c_seq ?_
          refine c_region ?_
          refine JL_run 1 [] [103, 4, 2] 2 ⟨[(103, .v (.agg #[.int .i64 ((s.data.getD 0 0).toNat : Int), .int .i64 ((s.data.getD 1 0).toNat : Int), .int .i64 0, .int .i64 0, .int .i64 0, .int .i64 0, .string emp, .string emp, .int .i64 0])), (4, .p 1 0), (2, .p 0 0)], [⟨62, [vI 0, vI 0, vI 0, vI 0, vI 0, vI 0, vS emp, vS emp, vI 0]⟩, ⟨62, [vI ((s.data.getD 0 0).toNat : Int), vI ((s.data.getD 1 0).toNat : Int), vI 0, vI 0, vI 0, vI 0, vS emp, vS emp, vI 0]⟩]⟩ [] [] (by kernel_rfl) on wn ?_
          refine l_pure 49 [] [.v (.agg #[.int .i64 ((s.data.getD 0 0).toNat : Int), .int .i64 ((s.data.getD 1 0).toNat : Int), .int .i64 0, .int .i64 0, .int .i64 0, .int .i64 0, .string emp, .string emp, .int .i64 0])] (.int .i64 (mCmd (⟨((s.data.getD 0 0).toNat : Int), ((s.data.getD 1 0).toNat : Int), 0, 0, 0, ⟨0, emp, emp, 0⟩⟩ : DCommand))) Try.call49 rfl rfl rfl rfl (fun bs w hS => ref_CommandFault (B := anyB) (⟨((s.data.getD 0 0).toNat : Int), ((s.data.getD 1 0).toNat : Int), 0, 0, 0, ⟨0, emp, emp, 0⟩⟩ : DCommand) w ⟨(show emp.size ≤ 9223372036854775807 from (by first | assumption | omega | (simp only [emp_size]; omega))), (show emp.size ≤ 9223372036854775807 from (by first | assumption | omega | (simp only [emp_size]; omega)))⟩) ?_
          refine JL_run 1 [] [17, 4, 2] 2 ⟨[(17, vI (mCmd (⟨((s.data.getD 0 0).toNat : Int), ((s.data.getD 1 0).toNat : Int), 0, 0, 0, ⟨0, emp, emp, 0⟩⟩ : DCommand))), (4, .p 1 0), (2, .p 0 0)], [⟨62, [vI 0, vI 0, vI 0, vI 0, vI 0, vI 0, vS emp, vS emp, vI 0]⟩, ⟨62, [vI ((s.data.getD 0 0).toNat : Int), vI ((s.data.getD 1 0).toNat : Int), vI 0, vI 0, vI 0, vI 0, vS emp, vS emp, vI 0]⟩]⟩ [] [] (by kernel_rfl) on wn ?_
          refine l_nil (q_then_normal ?_)
          refine c_seq ?_
          refine c_seq ?_
          refine c_region ?_
          refine JL_run 2 [] [106, 17, 4, 2] 2 ⟨[(106, vB (!(decide (mCmd (⟨((s.data.getD 0 0).toNat : Int), ((s.data.getD 1 0).toNat : Int), 0, 0, 0, ⟨0, emp, emp, 0⟩⟩ : DCommand) = 0)))), (17, vI (mCmd (⟨((s.data.getD 0 0).toNat : Int), ((s.data.getD 1 0).toNat : Int), 0, 0, 0, ⟨0, emp, emp, 0⟩⟩ : DCommand))), (4, .p 1 0), (2, .p 0 0)], [⟨62, [vI 0, vI 0, vI 0, vI 0, vI 0, vI 0, vS emp, vS emp, vI 0]⟩, ⟨62, [vI ((s.data.getD 0 0).toNat : Int), vI ((s.data.getD 1 0).toNat : Int), vI 0, vI 0, vI 0, vI 0, vS emp, vS emp, vI 0]⟩]⟩ [] [] (by kernel_rfl) on wn ?_
          refine l_nil (q_then_normal ?_)
          cases h14 : decide (mCmd (⟨((s.data.getD 0 0).toNat : Int), ((s.data.getD 1 0).toNat : Int), 0, 0, 0, ⟨0, emp, emp, 0⟩⟩ : DCommand) = 0) with
          | true =>
            have h14 := of_decide_eq_true h14
            refine c_if false rfl ?_
            refine c_skip ?_
            refine q_then_normal ?_
            refine c_seq ?_
            refine c_region ?_
            refine JL_run 3 [] [3, 2] 1 ⟨[(3, vI 0), (2, .p 0 0)], [⟨62, [vI ((s.data.getD 0 0).toNat : Int), vI ((s.data.getD 1 0).toNat : Int), vI 0, vI 0, vI 0, vI 0, vS emp, vS emp, vI 0]⟩]⟩ [] [] (by kernel_rfl) on wn ?_
            refine l_nil (q_then_normal ?_)
            refine c_ret ?_
            refine q_ret (.inl rfl) [.v (.agg #[.int .i64 ((s.data.getD 0 0).toNat : Int), .int .i64 ((s.data.getD 1 0).toNat : Int), .int .i64 0, .int .i64 0, .int .i64 0, .int .i64 0, .string emp, .string emp, .int .i64 0]), vI 0] rfl (fun bs w hS => ?_)
            refine ⟨?_, hS.kp⟩
            have hm : mDecode s = ((⟨((s.data.getD 0 0).toNat : Int), ((s.data.getD 1 0).toNat : Int), 0, 0, 0, ⟨0, emp, emp, 0⟩⟩ : DCommand), 0) := by
              have hk : (cmd0 s).kind = ((s.data.getD 0 0).toNat : Int) := rfl
              unfold mDecode
              repeat (first | rw [if_pos (by omega)] | rw [if_neg (by omega)])
              all_goals (simp only [mFin, mBody, cmd0, zOp, h13, h14, ne_eq, not_true_eq_false, not_false_eq_true, if_true, if_false, reduceIte]; try rfl)
            rw [hm]
            rfl
          | false =>
            have h14 := of_decide_eq_false h14
            refine c_if true rfl ?_
            refine c_seq ?_
            refine c_region ?_
            refine JL_run 4 [] [3, 2] 1 ⟨[(3, vI (mCmd (⟨((s.data.getD 0 0).toNat : Int), ((s.data.getD 1 0).toNat : Int), 0, 0, 0, ⟨0, emp, emp, 0⟩⟩ : DCommand))), (2, .p 0 0)], [⟨62, [vI 0, vI 0, vI 0, vI 0, vI 0, vI 0, vS emp, vS emp, vI 0]⟩]⟩ [] [] (by kernel_rfl) on wn ?_
            refine l_nil (q_then_normal ?_)
            refine c_ret ?_
            refine q_then_ret (q_ret (.inl rfl) [.v (.agg #[.int .i64 0, .int .i64 0, .int .i64 0, .int .i64 0, .int .i64 0, .int .i64 0, .string emp, .string emp, .int .i64 0]), vI (mCmd (⟨((s.data.getD 0 0).toNat : Int), ((s.data.getD 1 0).toNat : Int), 0, 0, 0, ⟨0, emp, emp, 0⟩⟩ : DCommand))] rfl (fun bs w hS => ?_))
            refine ⟨?_, hS.kp⟩
            have hm : mDecode s = ((⟨0, 0, 0, 0, 0, ⟨0, emp, emp, 0⟩⟩ : DCommand), mCmd (⟨((s.data.getD 0 0).toNat : Int), ((s.data.getD 1 0).toNat : Int), 0, 0, 0, ⟨0, emp, emp, 0⟩⟩ : DCommand)) := by
              have hk : (cmd0 s).kind = ((s.data.getD 0 0).toNat : Int) := rfl
              unfold mDecode
              repeat (first | rw [if_pos (by omega)] | rw [if_neg (by omega)])
              all_goals (simp only [mFin, mBody, cmd0, zOp, h13, h14, ne_eq, not_true_eq_false, not_false_eq_true, if_true, if_false, reduceIte]; try rfl)
            rw [hm]
            rfl
        | false =>
          have h13 := of_decide_eq_false h13
          refine c_if true rfl ?_
          refine c_seq ?_
          refine c_region ?_
          refine JL_run 3 [] [3, 2] 1 ⟨[(3, vI 4), (2, .p 0 0)], [⟨62, [vI 0, vI 0, vI 0, vI 0, vI 0, vI 0, vS emp, vS emp, vI 0]⟩]⟩ [] [] (by kernel_rfl) on wn ?_
          refine l_nil (q_then_normal ?_)
          refine c_ret ?_
          refine q_then_ret (q_ret (.inl rfl) [.v (.agg #[.int .i64 0, .int .i64 0, .int .i64 0, .int .i64 0, .int .i64 0, .int .i64 0, .string emp, .string emp, .int .i64 0]), vI 4] rfl (fun bs w hS => ?_))
          refine ⟨?_, hS.kp⟩
          have hm : mDecode s = ((⟨0, 0, 0, 0, 0, ⟨0, emp, emp, 0⟩⟩ : DCommand), 4) := by
            have hk : (cmd0 s).kind = ((s.data.getD 0 0).toNat : Int) := rfl
            unfold mDecode
            repeat (first | rw [if_pos (by omega)] | rw [if_neg (by omega)])
            all_goals (simp only [mFin, mBody, cmd0, zOp, h13, ne_eq, not_true_eq_false, not_false_eq_true, if_true, if_false, reduceIte]; try rfl)
          rw [hm]
          rfl

theorem ref_LogFault {B : Nat → Prop} (x : CLog) (w : World) (hx : Rds.sub B w x) : Calls Try.prog 15 #[.agg #[.int .i64 x.base, .slice x.entries.A x.entries.n x.entries.c]] w fun e w' => e = .returned (.int .i64 (mLog x.abs)) ∧ Kp [] w w' := by
  have okx := Rds.okof hx
  have ncx := Sl.ok.nc okx
  have hnx : x.entries.n = x.entries.xs.length := rfl
  have q1 : x.abs.base = x.base := rfl
  have q2 : x.abs.entries = x.entries.xs := rfl
  have hat : ∀ q, x.entries.xs.getD q default = x.entries.at q := fun _ => rfl
  refine calls_J0 33 Try.func15 rfl rfl [.agg #[.int .i64 x.base, .slice x.entries.A x.entries.n x.entries.c]] rfl ?_
  refine c_seq ?_
  refine c_region ?_
  refine JL_run 2 [] [1] 1 ⟨[(1, .p 0 0)], [⟨28, [vI x.base, .v (.slice x.entries.A x.entries.n x.entries.c)]⟩]⟩ [] [] (by kernel_rfl) on wn ?_
  refine l_nil (q_then_normal ?_)
  refine c_seq ?_
  refine c_seq ?_
  refine c_region ?_
  refine JL_run 2 [] [7, 1] 1 ⟨[(7, vI x.base), (1, .p 0 0)], [⟨28, [vI x.base, .v (.slice x.entries.A x.entries.n x.entries.c)]⟩]⟩ [] [] (by kernel_rfl) on wn ?_
  refine l_pure 38 [] [vI x.base, vI 0, vI 1073741424] (.bool (inB x.base 0 1073741424)) Try.call38 rfl rfl rfl rfl (fun bs w hS => ref_In _ _ _ w) ?_
  refine JL_run 1 [] [9, 1] 1 ⟨[(9, vB (!(inB x.base 0 1073741424))), (1, .p 0 0)], [⟨28, [vI x.base, .v (.slice x.entries.A x.entries.n x.entries.c)]⟩]⟩ [] [] (by kernel_rfl) on wn ?_
  refine l_nil (q_then_normal ?_)
  cases h1 : inB x.base 0 1073741424 with
  | true =>
    simp only [inB, Bool.and_eq_true, Bool.and_eq_false_iff, decide_eq_true_eq, decide_eq_false_iff_not] at h1
    refine c_if false rfl ?_
    refine c_skip ?_
    refine q_then_normal ?_
    refine c_seq ?_
    refine c_seq ?_
    refine c_region ?_
    refine JL_run 4 [] [13, 1] 1 ⟨[(13, vB (decide ((400 : Int) < ((x.entries.n : Nat) : Int)))), (1, .p 0 0)], [⟨28, [vI x.base, .v (.slice x.entries.A x.entries.n x.entries.c)]⟩]⟩ [] [] (by kernel_rfl) on wn ?_
    refine l_nil (q_then_normal ?_)
    cases h2 : decide ((400 : Int) < ((x.entries.n : Nat) : Int)) with
    | true =>
      have h2 := of_decide_eq_true h2
      refine c_if true rfl ?_
      refine c_seq ?_
      refine c_region ?_
      refine JL_run 1 [] [2] 0 ⟨[(2, vI 1)], []⟩ [] [] (by kernel_rfl) on wn ?_
      refine l_nil (q_then_normal ?_)
      refine c_ret ?_
      refine q_then_ret (q_ret (.inl rfl) [vI 1] rfl (fun bs w hS => ?_))
      refine ⟨?_, hS.kp⟩
      simp only [retOf, den, List.map_cons, List.map_nil]
      have hm : mLog x.abs = 1 := by
        unfold mLog; rw [q1, q2]
        first | rw [if_pos (by omega)] | rw [if_neg (by omega), if_pos (by omega)]
      rw [hm]
    | false =>
      have h2 := of_decide_eq_false h2
      refine c_if false rfl ?_
      refine c_skip ?_
      refine q_then_normal ?_
      refine c_seq ?_
      refine c_seq ?_
      refine c_region ?_
      refine JL_run 1 [] [3, 1] 1 ⟨[(3, vI 0), (1, .p 0 0)], [⟨28, [vI x.base, .v (.slice x.entries.A x.entries.n x.entries.c)]⟩]⟩ [] [] (by kernel_rfl) on wn ?_
      refine l_nil (q_then_normal ?_)
      refine c_block ?_
      refine c_loop (σ := Nat) (fun i => i ≤ x.entries.n ∧ mLog x.abs = firstF (logF x.entries.xs) (x.entries.n - i) i) (fun i => x.entries.n - i) (fun i => []) (fun i => ⟨[(3, vI ((i : Nat) : Int)), (1, .p 0 0)], [⟨28, [vI x.base, .v (.slice x.entries.A x.entries.n x.entries.c)]⟩]⟩) 0 ⟨Nat.zero_le _, by unfold mLog; rw [q1, q2, if_neg (by omega), if_neg (by omega)]⟩ (s_start [3, 1] 1 (by kernel_rfl) rfl) ?_
      rintro i ⟨hi, hI⟩
      refine c_seq ?_
      refine c_seq ?_
      refine c_region ?_
      refine JL_run 5 [] [18, 3, 1] 1 ⟨[(18, vB (decide (((i : Nat) : Int) < ((x.entries.n : Nat) : Int)))), (3, vI ((i : Nat) : Int)), (1, .p 0 0)], [⟨28, [vI x.base, .v (.slice x.entries.A x.entries.n x.entries.c)]⟩]⟩ [] [] (by kernel_rfl) on wn ?_
      refine l_nil (q_then_normal ?_)
      cases h3 : decide (((i : Nat) : Int) < ((x.entries.n : Nat) : Int)) with
      | true =>
        have h3 := of_decide_eq_true h3
        refine c_if true rfl ?_
        refine c_skip ?_
        refine q_then_normal ?_
        refine c_seq ?_
        refine c_block ?_
        refine c_seq ?_
        refine c_region ?_
        refine JL_run 5 [(3, .idx x.entries.ad i), (4, .ext [.string (x.entries.at i)])] [26, 3, 1] 1 ⟨[(26, vS (x.entries.at i)), (3, vI ((i : Nat) : Int)), (1, .p 0 0)], [⟨28, [vI x.base, .v (.slice x.entries.A x.entries.n x.entries.c)]⟩]⟩ [x.entries.A = some x.entries.ad, ((i : Nat) : Int) = ((i : Nat) : Int), i < x.entries.n] [(x.entries.ad.add (i * 1), [.string (x.entries.at i)])] (by kernel_rfl) (oc (Sl.ok.own (s := x.entries) (i := i) okx (by omega)) (oc rfl (oc (by omega) on))) (fun w hk hr => ⟨(Sl.rd.all (s := x.entries) (i := i) (Rds.kp hx hk) (by omega) rfl), trivial⟩) ?_
        refine l_pure 39 [] [vS (x.entries.at i)] (.tuple #[.agg #[.int .i64 ((mDecode (x.entries.at i)).1.kind), .int .i64 ((mDecode (x.entries.at i)).1.client), .int .i64 ((mDecode (x.entries.at i)).1.session), .int .i64 ((mDecode (x.entries.at i)).1.seq), .int .i64 ((mDecode (x.entries.at i)).1.acked), .int .i64 ((mDecode (x.entries.at i)).1.op.kind), .string ((mDecode (x.entries.at i)).1.op.a), .string ((mDecode (x.entries.at i)).1.op.b), .int .i64 ((mDecode (x.entries.at i)).1.op.n)], .int .i64 ((mDecode (x.entries.at i)).2)]) Try.call39 rfl rfl rfl rfl (fun bs w hS => ref_CommandOf (x.entries.at i) w (Sl.ok.at (s := x.entries) (i := i) okx (by omega))) ?_
        refine JL_run 6 [] [5, 3, 1] 1 ⟨[(5, vI ((mDecode (x.entries.at i)).2)), (3, vI ((i : Nat) : Int)), (1, .p 0 0)], [⟨28, [vI x.base, .v (.slice x.entries.A x.entries.n x.entries.c)]⟩]⟩ [] [] (by kernel_rfl) on wn ?_
        refine l_nil (q_then_normal ?_)
        refine c_seq ?_
        refine c_region ?_
        refine JL_run 2 [] [31, 5, 3, 1] 1 ⟨[(31, vB (!(decide ((mDecode (x.entries.at i)).2 = 0)))), (5, vI ((mDecode (x.entries.at i)).2)), (3, vI ((i : Nat) : Int)), (1, .p 0 0)], [⟨28, [vI x.base, .v (.slice x.entries.A x.entries.n x.entries.c)]⟩]⟩ [] [] (by kernel_rfl) on wn ?_
        refine l_nil (q_then_normal ?_)
        cases h4 : decide ((mDecode (x.entries.at i)).2 = 0) with
        | true =>
          have h4 := of_decide_eq_true h4
          refine c_if false rfl ?_
          refine c_skip ?_
          refine q_block_normal (q_then_normal ?_)
          refine c_region ?_
          refine JL_run 3 [] [3, 1] 1 ⟨[(3, vI (((i : Nat) : Int) + 1)), (1, .p 0 0)], [⟨28, [vI x.base, .v (.slice x.entries.A x.entries.n x.entries.c)]⟩]⟩ [inR (((i : Nat) : Int) + 1)] [] (by kernel_rfl) (oc (by unfold inR; omega) on) wn ?_
          have hf0 : logF x.entries.xs i = 0 := by unfold logF; rw [hat]; assumption
          refine l_nil (q_loop (x := (i : Nat)) ((i + 1) : Nat) ⟨by omega, by rw [hI]; exact firstF_step (by omega) hf0⟩ (by omega) (s_start [3, 1] 1 (by kernel_rfl) rfl))
        | false =>
          have h4 := of_decide_eq_false h4
          refine c_if true rfl ?_
          refine c_seq ?_
          refine c_region ?_
          refine JL_run 2 [] [2] 0 ⟨[(2, vI ((mDecode (x.entries.at i)).2))], []⟩ [] [] (by kernel_rfl) on wn ?_
          refine l_nil (q_then_normal ?_)
          refine c_ret ?_
          refine q_block_ret (q_then_ret (q_then_ret (q_block_ret (q_then_ret (q_ret (.inl rfl) [vI ((mDecode (x.entries.at i)).2)] rfl (fun bs w hS => ?_))))))
          refine ⟨?_, hS.kp⟩
          simp only [retOf, den, List.map_cons, List.map_nil]
          have hf : logF x.entries.xs i = (mDecode (x.entries.at i)).2 := by unfold logF; rw [hat]
          rw [hI, firstF_here (by omega) hf (by assumption)]
      | false =>
        have h3 := of_decide_eq_false h3
        refine c_if false rfl ?_
        refine c_exit ?_
        refine q_then_exit (q_then_exit (q_block_hit (q_then_normal ?_)))
        refine c_seq ?_
        refine c_region ?_
        refine JL_run 1 [] [2] 0 ⟨[(2, vI 0)], []⟩ [] [] (by kernel_rfl) on wn ?_
        refine l_nil (q_then_normal ?_)
        refine c_ret ?_
        refine q_ret (.inl rfl) [vI 0] rfl (fun bs w hS => ?_)
        refine ⟨?_, hS.kp⟩
        simp only [retOf, den, List.map_cons, List.map_nil]
        rw [hI, firstF_end (by omega)]
  | false =>
    simp only [inB, Bool.and_eq_true, Bool.and_eq_false_iff, decide_eq_true_eq, decide_eq_false_iff_not] at h1
    refine c_if true rfl ?_
    refine c_seq ?_
    refine c_region ?_
    refine JL_run 1 [] [2] 0 ⟨[(2, vI 2)], []⟩ [] [] (by kernel_rfl) on wn ?_
    refine l_nil (q_then_normal ?_)
    refine c_ret ?_
    refine q_then_ret (q_ret (.inl rfl) [vI 2] rfl (fun bs w hS => ?_))
    refine ⟨?_, hS.kp⟩
    simp only [retOf, den, List.map_cons, List.map_nil]
    have hm : mLog x.abs = 2 := by
      unfold mLog; rw [q1, q2]
      first | rw [if_pos (by omega)] | rw [if_neg (by omega), if_pos (by omega)]
    rw [hm]

theorem log_Last {B : Nat → Prop} (x : CLog) (w : World) (hx : Rds.sub B w x) (hb : 0 ≤ x.base ∧ x.base ≤ 1073741424 ∧ x.entries.n ≤ 1048576) : Calls Try.prog 16 #[.agg #[.int .i64 x.base, .slice x.entries.A x.entries.n x.entries.c]] w fun e w' => e = .returned (.int .i64 (x.base + (x.entries.n : Int))) ∧ Kp [] w w' := by
  have okx := Rds.okof hx
  have ncx := Sl.ok.nc okx
  have hnx : x.entries.n = x.entries.xs.length := rfl
  have q1 : x.abs.base = x.base := rfl
  have q2 : x.abs.entries = x.entries.xs := rfl
  have hat : ∀ q, x.entries.xs.getD q default = x.entries.at q := fun _ => rfl
  refine calls_J0 9 Try.func16 rfl rfl [.agg #[.int .i64 x.base, .slice x.entries.A x.entries.n x.entries.c]] rfl ?_
  refine c_seq ?_
  refine c_region ?_
  refine JL_run 2 [] [1] 1 ⟨[(1, .p 0 0)], [⟨28, [vI x.base, .v (.slice x.entries.A x.entries.n x.entries.c)]⟩]⟩ [] [] (by kernel_rfl) on wn ?_
  refine l_nil (q_then_normal ?_)
  refine c_seq ?_
  refine c_region ?_
  refine JL_run 7 [] [2] 0 ⟨[(2, vI (x.base + ((x.entries.n : Nat) : Int)))], []⟩ [inR (x.base + ((x.entries.n : Nat) : Int))] [] (by kernel_rfl) (oc (by unfold inR; omega) on) wn ?_
  refine l_nil (q_then_normal ?_)
  refine c_ret ?_
  refine q_ret (.inl rfl) [vI (x.base + ((x.entries.n : Nat) : Int))] rfl (fun bs w hS => ?_)
  exact ⟨rfl, hS.kp⟩

theorem ref_LastOf {B : Nat → Prop} (x : CLog) (w : World) (hx : Rds.sub B w x) (hb : 0 ≤ x.base ∧ x.base ≤ 1073741424 ∧ x.entries.n ≤ 1048576) : Calls Try.prog 17 #[.agg #[.int .i64 x.base, .slice x.entries.A x.entries.n x.entries.c]] w fun e w' => e = .returned (.int .i64 (x.base + (x.entries.n : Int))) ∧ Kp [] w w' := by
  have okx := Rds.okof hx
  have ncx := Sl.ok.nc okx
  have hnx : x.entries.n = x.entries.xs.length := rfl
  have q1 : x.abs.base = x.base := rfl
  have q2 : x.abs.entries = x.entries.xs := rfl
  have hat : ∀ q, x.entries.xs.getD q default = x.entries.at q := fun _ => rfl
  refine calls_J0 9 Try.func17 rfl rfl [.agg #[.int .i64 x.base, .slice x.entries.A x.entries.n x.entries.c]] rfl ?_
  refine c_seq ?_
  refine c_region ?_
  refine JL_run 2 [] [1] 1 ⟨[(1, .p 0 0)], [⟨28, [vI x.base, .v (.slice x.entries.A x.entries.n x.entries.c)]⟩]⟩ [] [] (by kernel_rfl) on wn ?_
  refine l_nil (q_then_normal ?_)
  refine c_seq ?_
  refine c_region ?_
  refine JL_run 7 [] [2] 0 ⟨[(2, vI (x.base + ((x.entries.n : Nat) : Int)))], []⟩ [inR (x.base + ((x.entries.n : Nat) : Int))] [] (by kernel_rfl) (oc (by unfold inR; omega) on) wn ?_
  refine l_nil (q_then_normal ?_)
  refine c_ret ?_
  refine q_ret (.inl rfl) [vI (x.base + ((x.entries.n : Nat) : Int))] rfl (fun bs w hS => ?_)
  exact ⟨rfl, hS.kp⟩

theorem law_LogLasts {B : Nat → Prop} (x : CLog) (w : World) (hx : Rds.sub B w x) : Calls Try.prog 4 #[.agg #[.int .i64 x.base, .slice x.entries.A x.entries.n x.entries.c]] w fun e w' => e = .returned (.bool true) ∧ Kp [] w w' := by
  have okx := Rds.okof hx
  have q1 : x.abs.base = x.base := rfl
  have q2 : x.abs.entries = x.entries.xs := rfl
  have hat : ∀ q, x.entries.xs.getD q default = x.entries.at q := fun _ => rfl
  have hnx : x.entries.n = x.entries.xs.length := rfl
  refine calls_J0 15 Try.func4 rfl rfl [.agg #[.int .i64 x.base, .slice x.entries.A x.entries.n x.entries.c]] rfl ?_
  refine c_seq ?_
  refine c_region ?_
  refine JL_run 2 [] [1] 1 ⟨[(1, .p 0 0)], [⟨28, [vI x.base, .v (.slice x.entries.A x.entries.n x.entries.c)]⟩]⟩ [] [] (by kernel_rfl) on wn ?_
  refine l_nil (q_then_normal ?_)
  refine c_seq ?_
  refine c_seq ?_
  refine c_region ?_
  refine JL_run 1 [] [5, 1] 1 ⟨[(5, .v (.agg #[.int .i64 x.base, .slice x.entries.A x.entries.n x.entries.c])), (1, .p 0 0)], [⟨28, [vI x.base, .v (.slice x.entries.A x.entries.n x.entries.c)]⟩]⟩ [] [] (by kernel_rfl) on wn ?_
  refine l_pure 15 [] [.v (.agg #[.int .i64 x.base, .slice x.entries.A x.entries.n x.entries.c])] (.int .i64 (mLog x.abs)) Try.call15 rfl rfl rfl rfl (fun bs w hS => ref_LogFault x w (Rds.kp hx hS.kp)) ?_
  refine JL_run 1 [] [7, 1] 1 ⟨[(7, vB (!(decide (mLog x.abs = 0)))), (1, .p 0 0)], [⟨28, [vI x.base, .v (.slice x.entries.A x.entries.n x.entries.c)]⟩]⟩ [] [] (by kernel_rfl) on wn ?_
  refine l_nil (q_then_normal ?_)
  cases h1 : decide (mLog x.abs = 0) with
  | true =>
    have h1 := of_decide_eq_true h1
    obtain ⟨hb1, hb2, hb3, hb4⟩ := mLog_bd h1
    rw [q1] at hb1 hb2
    rw [q2] at hb3
    refine c_if false rfl ?_
    refine c_skip ?_
    refine q_then_normal ?_
    refine c_seq ?_
    refine c_region ?_
    refine JL_run 1 [] [8, 1] 1 ⟨[(8, .v (.agg #[.int .i64 x.base, .slice x.entries.A x.entries.n x.entries.c])), (1, .p 0 0)], [⟨28, [vI x.base, .v (.slice x.entries.A x.entries.n x.entries.c)]⟩]⟩ [] [] (by kernel_rfl) on wn ?_
    refine l_pure 16 [] [.v (.agg #[.int .i64 x.base, .slice x.entries.A x.entries.n x.entries.c])] (.int .i64 (x.base + (x.entries.n : Int))) Try.call16 rfl rfl rfl rfl (fun bs w hS => log_Last x w (Rds.kp hx hS.kp) (by first | exact ⟨by omega, by omega, by omega⟩ | omega)) ?_
    refine JL_run 1 [] [3, 1] 1 ⟨[(3, vI (x.base + (x.entries.n : Int))), (1, .p 0 0)], [⟨28, [vI x.base, .v (.slice x.entries.A x.entries.n x.entries.c)]⟩]⟩ [] [] (by kernel_rfl) on wn ?_
    refine l_nil (q_then_normal ?_)
    refine c_seq ?_
    refine c_region ?_
    refine JL_run 1 [] [10, 3] 0 ⟨[(10, .v (.agg #[.int .i64 x.base, .slice x.entries.A x.entries.n x.entries.c])), (3, vI (x.base + (x.entries.n : Int)))], []⟩ [] [] (by kernel_rfl) on wn ?_
    refine l_pure 17 [] [.v (.agg #[.int .i64 x.base, .slice x.entries.A x.entries.n x.entries.c])] (.int .i64 (x.base + (x.entries.n : Int))) Try.call17 rfl rfl rfl rfl (fun bs w hS => ref_LastOf x w (Rds.kp hx hS.kp) (by first | exact ⟨by omega, by omega, by omega⟩ | omega)) ?_
    refine JL_run 1 [] [4, 3] 0 ⟨[(4, vI (x.base + (x.entries.n : Int))), (3, vI (x.base + (x.entries.n : Int)))], []⟩ [] [] (by kernel_rfl) on wn ?_
    refine l_nil (q_then_normal ?_)
    refine c_seq ?_
    refine c_region ?_
    refine JL_run 4 [] [2] 0 ⟨[(2, vB (decide (x.base + (x.entries.n : Int) = x.base + (x.entries.n : Int))))], []⟩ [] [] (by kernel_rfl) on wn ?_
    refine l_nil (q_then_normal ?_)
    refine c_ret ?_
    refine q_ret (.inl rfl) [vB (decide (x.base + (x.entries.n : Int) = x.base + (x.entries.n : Int)))] rfl (fun bs w hS => ?_)
    refine ⟨?_, hS.kp⟩
    simp [retOf, den]
  | false =>
    have h1 := of_decide_eq_false h1
    refine c_if true rfl ?_
    refine c_seq ?_
    refine c_region ?_
    refine JL_run 1 [] [2] 0 ⟨[(2, vB true)], []⟩ [] [] (by kernel_rfl) on wn ?_
    refine l_nil (q_then_normal ?_)
    refine c_ret ?_
    refine q_then_ret (q_ret (.inl rfl) [vB true] rfl (fun bs w hS => ?_))
    refine ⟨?_, hS.kp⟩
    simp [retOf, den]

end Go.Proofs.Ytececkgjacccmaa.W
