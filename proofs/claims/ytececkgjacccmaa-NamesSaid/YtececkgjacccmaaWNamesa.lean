/-
  The functions that the law Names reaches, walked: each returns what its model says.
  Conditions: those that each theorem states.
-/
import Derived.Test.YtececkgjacccmaaMc
import Derived.Test.YtececkgjacccmaaChecked
set_option linter.unusedVariables false
set_option linter.unusedSimpArgs false
set_option maxRecDepth 100000
namespace Go.Proofs.Ytececkgjacccmaa.W
open Go.Proofs.Ytececkgjacccmaa.Fw Go.RowKit

theorem Try_mixed : Try.prog.follows .mixedOrders = true := by kernel_rfl
theorem laid : laidOutB Try.prog = true := by kernel_rfl

theorem law_Names (w : World) : Calls Try.prog 3 #[] w fun e w' => e = .returned (.bool true) ∧ Kp [] w w' := by
  refine calls_J0 42 Try.func3 rfl rfl [] rfl ?_
  refine c_seq ?_
  refine c_region ?_
  refine JL_run 1 [] [] 0 ⟨[], []⟩ [] [] (by kernel_rfl) on wn ?_
  refine l_nil (q_then_normal ?_)
  refine c_seq ?_
  refine c_region ?_
  have hsub1 : ∀ z, z ∈ ([0, 1, 2, 3, 4, 5, 6, 7, 8, 9, 10, 11, 12, 13, 14, 15] : List Int) → ∀ w, Rds.sub anyB w z := (fun _ _ _ => trivial)
  refine l_rowlitS (α := Int) 22 [0, 1, 2, 3, 4, 5, 6, 7, 8, 9, 10, 11, 12, 13, 14, 15] [vI 0, vI 1, vI 2, vI 3, vI 4, vI 5, vI 6, vI 7, vI 8, vI 9, vI 10, vI 11, vI 12, vI 13, vI 14, vI 15] hsub1 Try.underlying23 (by kernel_rfl) (by kernel_rfl) (by kernel_rfl) (by kernel_rfl) (by kernel_rfl) rfl (by kernel_rfl) rfl rfl rfl ?_
  intro y1 hx1 hok1
  have hlen1 : y1.xs.length = 16 := by rw [hx1]; rfl
  refine JL_run 1 [] [1] 0 ⟨[(1, .v (.slice y1.A y1.n y1.c))], []⟩ [] [] (by kernel_rfl) on wn ?_
  refine l_nil (q_then_normal ?_)
  refine c_seq ?_
  refine c_seq ?_
  refine c_region ?_
  refine JL_run 1 [] [2, 1] 0 ⟨[(2, vI 0), (1, .v (.slice y1.A y1.n y1.c))], []⟩ [] [] (by kernel_rfl) on wn ?_
  refine l_nil (q_then_normal ?_)
  refine c_block ?_
  have hn1 : y1.n = 16 := by rw [Sl.n, hx1]; rfl
  have hv : ∀ i, i < y1.n → y1.at i = (i : Int) := fun i hi => by rw [Sl.n, hx1] at hi; unfold Sl.at; rw [hx1]; revert i; decide
  refine c_loop (σ := Nat) (fun i => i ≤ y1.n) (fun i => y1.n - i) (fun i => [rowA 22 y1.A y1.c (y1.xs : List Int)]) (fun i => ⟨[(2, vI ((i : Nat) : Int)), (1, .v (.slice y1.A y1.n y1.c))], []⟩) 0 (Nat.zero_le _) (s_start [2, 1] 0 (by kernel_rfl) rfl) ?_
  rintro i hi
  refine c_seq ?_
  refine c_seq ?_
  refine c_region ?_
  refine JL_run 4 [] [10, 2, 1] 0 ⟨[(10, vB (decide (((i : Nat) : Int) < ((y1.n : Nat) : Int)))), (2, vI ((i : Nat) : Int)), (1, .v (.slice y1.A y1.n y1.c))], []⟩ [] [] (by kernel_rfl) on wn ?_
  refine l_nil (q_then_normal ?_)
  cases h1 : decide (((i : Nat) : Int) < ((y1.n : Nat) : Int)) with
  | true =>
    have h1 := of_decide_eq_true h1
    refine c_if true rfl ?_
    refine c_skip ?_
    refine q_then_normal ?_
    refine c_seq ?_
    refine c_block ?_
    refine c_seq ?_
    refine c_region ?_
    refine JL_run 6 [(2, .idx y1.ad i), (3, .ext [.int .i64 (y1.at i)])] [18, 2, 1] 0 ⟨[(18, vB (!(decide ((y1.at i) = ((i : Nat) : Int))))), (2, vI ((i : Nat) : Int)), (1, .v (.slice y1.A y1.n y1.c))], []⟩ [y1.A = some y1.ad, ((i : Nat) : Int) = ((i : Nat) : Int), i < y1.n] [(y1.ad.add (i * 1), [.int .i64 (y1.at i)])] (by kernel_rfl) (oc (Sl.ok.own (s := y1) (i := i) hok1 (by omega)) (oc rfl (oc (by omega) on))) (fun w hk hr => ⟨(Sl.rd.all (s := y1) (i := i) (rowA_rd (B := anyB) (hr _ (.head _)) (fun _ _ => trivial) (fun z hz => hsub1 z (hx1 ▸ hz) _)) (by omega) rfl), trivial⟩) ?_
    refine l_nil (q_then_normal ?_)
    cases h2 : decide ((y1.at i) = ((i : Nat) : Int)) with
    | true =>
      have h2 := of_decide_eq_true h2
      refine c_if false rfl ?_
      refine c_skip ?_
      refine q_block_normal (q_then_normal ?_)
      refine c_region ?_
      refine JL_run 3 [] [2, 1] 0 ⟨[(2, vI (((i : Nat) : Int) + 1)), (1, .v (.slice y1.A y1.n y1.c))], []⟩ [inR (((i : Nat) : Int) + 1)] [] (by kernel_rfl) (oc (by unfold inR; omega) on) wn ?_
      refine l_nil (q_loop (x := (i : Nat)) ((i + 1) : Nat) (by omega) (by omega) (s_start [2, 1] 0 (by kernel_rfl) rfl))
    | false =>
      have h2 := of_decide_eq_false h2
      exact absurd (hv i (by omega)) h2
  | false =>
    have h1 := of_decide_eq_false h1
    refine c_if false rfl ?_
    refine c_exit ?_
    refine q_then_exit (q_then_exit (q_block_hit (q_then_normal ?_)))
    refine c_seq ?_
    refine c_region ?_
    have hsub2 : ∀ z, z ∈ ([6, 5, 3, 1073741824, 5, 12, 4, 9, 1048576, 4, 40, 1099511627776, 5000, 1073741824, 400, 3, 400, 60] : List Int) → ∀ w, Rds.sub anyB w z := (fun _ _ _ => trivial)
    refine l_rowlitS (α := Int) 3 [6, 5, 3, 1073741824, 5, 12, 4, 9, 1048576, 4, 40, 1099511627776, 5000, 1073741824, 400, 3, 400, 60] [vI 6, vI 5, vI 3, vI 1073741824, vI 5, vI 12, vI 4, vI 9, vI 1048576, vI 4, vI 40, vI 1099511627776, vI 5000, vI 1073741824, vI 400, vI 3, vI 400, vI 60] hsub2 Try.underlying24 (by kernel_rfl) (by kernel_rfl) (by kernel_rfl) (by kernel_rfl) (by kernel_rfl) rfl (by kernel_rfl) rfl rfl rfl ?_
    intro y2 hx2 hok2
    have hlen2 : y2.xs.length = 18 := by rw [hx2]; rfl
    refine JL_run 1 [] [3] 0 ⟨[(3, .v (.slice y2.A y2.n y2.c))], []⟩ [] [] (by kernel_rfl) on wn ?_
    refine l_nil (q_then_normal ?_)
    refine c_seq ?_
    refine c_region ?_
    have hsub3 : ∀ z, z ∈ ([6, 5, 3, 1073741824, 5, 12, 4, 9, 1048576, 4, 40, 1099511627776, 5000, 1073741824, 400, 3, 400, 60] : List Int) → ∀ w, Rds.sub anyB w z := (fun _ _ _ => trivial)
    refine l_rowlitS (α := Int) 3 [6, 5, 3, 1073741824, 5, 12, 4, 9, 1048576, 4, 40, 1099511627776, 5000, 1073741824, 400, 3, 400, 60] [vI 6, vI 5, vI 3, vI 1073741824, vI 5, vI 12, vI 4, vI 9, vI 1048576, vI 4, vI 40, vI 1099511627776, vI 5000, vI 1073741824, vI 400, vI 3, vI 400, vI 60] hsub3 Try.underlying24 (by kernel_rfl) (by kernel_rfl) (by kernel_rfl) (by kernel_rfl) (by kernel_rfl) rfl (by kernel_rfl) rfl rfl rfl ?_
    intro y3 hx3 hok3
    have hlen3 : y3.xs.length = 18 := by rw [hx3]; rfl
    refine JL_run 1 [] [4, 3] 0 ⟨[(4, .v (.slice y3.A y3.n y3.c)), (3, .v (.slice y2.A y2.n y2.c))], []⟩ [] [] (by kernel_rfl) on wn ?_
    refine l_nil (q_then_normal ?_)
    refine c_seq ?_
    refine c_region ?_
    refine JL_run 2 [] [22, 21, 4] 1 ⟨[(22, .s 0 0 20 20), (21, .v (.slice y2.A y2.n y2.c)), (4, .v (.slice y3.A y3.n y3.c))], [⟨3, [vI 1, vI 2, vI 3, vI 4, vI 5, vI 6, vI 1, vI 2, vI 3, vI 1, vI 2, vI 3, vI 4, vI 5, vI 6, vI 7, vI 8, vI 9, vI 10, vI 11]⟩]⟩ [] [] (by kernel_rfl) on wn ?_
    refine l_perm (R' := [rowA 3 y2.A y2.c (y2.xs : List Int), rowA 3 y3.A y3.c (y3.xs : List Int), rowA 22 y1.A y1.c (y1.xs : List Int)]) (permfront 1 rfl) ?_
    refine l_appendA (α := Int) 3 8 y2.A y2.c (y2.xs) (.s 0 0 20 20) ([1, 2, 3, 4, 5, 6, 1, 2, 3, 1, 2, 3, 4, 5, 6, 7, 8, 9, 10, 11]) Try.underlying24 (by kernel_rfl) rfl rfl rfl (fun bs w hS => by obtain ⟨q1, q2, q3, q4⟩ := src_loc (i := 0) (off := 0) (k := 20) (c := 20) (q := 20) (vs := [.int .i64 1, .int .i64 2, .int .i64 3, .int .i64 4, .int .i64 5, .int .i64 6, .int .i64 1, .int .i64 2, .int .i64 3, .int .i64 1, .int .i64 2, .int .i64 3, .int .i64 4, .int .i64 5, .int .i64 6, .int .i64 7, .int .i64 8, .int .i64 9, .int .i64 10, .int .i64 11]) hS rfl rfl; exact ⟨some q1, q2, q3, q4⟩) (by first | omega | (simp only [List.length_nil, List.length_cons, List.length_append]; omega)) (by first | omega | (simp only [List.length_nil, List.length_cons, List.length_append]; omega)) ?_
    intro A4 c4
    refine l_know (F := RowOk A4 c4 (y2.xs ++ [1, 2, 3, 4, 5, 6, 1, 2, 3, 1, 2, 3, 4, 5, 6, 7, 8, 9, 10, 11] : List Int)) (fun bs w hS => rowA_rok (hS.res _ (.head _))) fun hrow4 => ?_
    have nchrow4 := hrow4.2
    refine JL_run 1 [] [3, 4] 0 ⟨[(3, .v (.slice A4 (y2.xs ++ [1, 2, 3, 4, 5, 6, 1, 2, 3, 1, 2, 3, 4, 5, 6, 7, 8, 9, 10, 11]).length c4)), (4, .v (.slice y3.A y3.n y3.c))], []⟩ [] [] (by kernel_rfl) on wn ?_
    refine l_nil (q_then_normal ?_)
    refine c_seq ?_
    refine c_region ?_
    refine JL_run 2 [] [25, 24, 3] 1 ⟨[(25, .s 0 0 20 20), (24, .v (.slice y3.A y3.n y3.c)), (3, .v (.slice A4 (y2.xs ++ [1, 2, 3, 4, 5, 6, 1, 2, 3, 1, 2, 3, 4, 5, 6, 7, 8, 9, 10, 11]).length c4))], [⟨3, [vI 1, vI 2, vI 3, vI 4, vI 5, vI 6, vI 1, vI 2, vI 3, vI 1, vI 2, vI 3, vI 4, vI 5, vI 6, vI 7, vI 8, vI 9, vI 10, vI 11]⟩]⟩ [] [] (by kernel_rfl) on wn ?_
    refine l_perm (R' := [rowA 3 y3.A y3.c (y3.xs : List Int), rowA 3 A4 c4 (y2.xs ++ [1, 2, 3, 4, 5, 6, 1, 2, 3, 1, 2, 3, 4, 5, 6, 7, 8, 9, 10, 11] : List Int), rowA 22 y1.A y1.c (y1.xs : List Int)]) (permfront 1 rfl) ?_
    refine l_appendA (α := Int) 3 8 y3.A y3.c (y3.xs) (.s 0 0 20 20) ([1, 2, 3, 4, 5, 6, 1, 2, 3, 1, 2, 3, 4, 5, 6, 7, 8, 9, 10, 11]) Try.underlying24 (by kernel_rfl) rfl rfl rfl (fun bs w hS => by obtain ⟨q1, q2, q3, q4⟩ := src_loc (i := 0) (off := 0) (k := 20) (c := 20) (q := 20) (vs := [.int .i64 1, .int .i64 2, .int .i64 3, .int .i64 4, .int .i64 5, .int .i64 6, .int .i64 1, .int .i64 2, .int .i64 3, .int .i64 1, .int .i64 2, .int .i64 3, .int .i64 4, .int .i64 5, .int .i64 6, .int .i64 7, .int .i64 8, .int .i64 9, .int .i64 10, .int .i64 11]) hS rfl rfl; exact ⟨some q1, q2, q3, q4⟩) (by first | omega | (simp only [List.length_nil, List.length_cons, List.length_append]; omega)) (by first | omega | (simp only [List.length_nil, List.length_cons, List.length_append]; omega)) ?_
    intro A5 c5
    refine l_know (F := RowOk A5 c5 (y3.xs ++ [1, 2, 3, 4, 5, 6, 1, 2, 3, 1, 2, 3, 4, 5, 6, 7, 8, 9, 10, 11] : List Int)) (fun bs w hS => rowA_rok (hS.res _ (.head _))) fun hrow5 => ?_
    have nchrow5 := hrow5.2
    refine JL_run 1 [] [4, 3] 0 ⟨[(4, .v (.slice A5 (y3.xs ++ [1, 2, 3, 4, 5, 6, 1, 2, 3, 1, 2, 3, 4, 5, 6, 7, 8, 9, 10, 11]).length c5)), (3, .v (.slice A4 (y2.xs ++ [1, 2, 3, 4, 5, 6, 1, 2, 3, 1, 2, 3, 4, 5, 6, 7, 8, 9, 10, 11]).length c4))], []⟩ [] [] (by kernel_rfl) on wn ?_
    refine l_nil (q_then_normal ?_)
    refine c_seq ?_
    refine c_seq ?_
    refine c_region ?_
    refine JL_run 1 [] [5, 4, 3] 0 ⟨[(5, vI 0), (4, .v (.slice A5 (y3.xs ++ [1, 2, 3, 4, 5, 6, 1, 2, 3, 1, 2, 3, 4, 5, 6, 7, 8, 9, 10, 11]).length c5)), (3, .v (.slice A4 (y2.xs ++ [1, 2, 3, 4, 5, 6, 1, 2, 3, 1, 2, 3, 4, 5, 6, 7, 8, 9, 10, 11]).length c4))], []⟩ [] [] (by kernel_rfl) on wn ?_
    refine l_nil (q_then_normal ?_)
    refine c_block ?_
    have hl1 : (y2.xs ++ [1, 2, 3, 4, 5, 6, 1, 2, 3, 1, 2, 3, 4, 5, 6, 7, 8, 9, 10, 11]).length = 38 := by rw [hx2]; rfl
    have hl2 : (y3.xs ++ [1, 2, 3, 4, 5, 6, 1, 2, 3, 1, 2, 3, 4, 5, 6, 7, 8, 9, 10, 11]).length = 38 := by rw [hx3]; rfl
    have hall : ∀ j, j < 38 → (y2.xs ++ [1, 2, 3, 4, 5, 6, 1, 2, 3, 1, 2, 3, 4, 5, 6, 7, 8, 9, 10, 11]).getD j default = (y3.xs ++ [1, 2, 3, 4, 5, 6, 1, 2, 3, 1, 2, 3, 4, 5, 6, 7, 8, 9, 10, 11]).getD j default := by rw [hx2, hx3]; decide
    refine c_loop (σ := Nat) (fun j => j ≤ 38) (fun j => 38 - j) (fun j => [rowA 3 A5 c5 (y3.xs ++ [1, 2, 3, 4, 5, 6, 1, 2, 3, 1, 2, 3, 4, 5, 6, 7, 8, 9, 10, 11] : List Int), rowA 3 A4 c4 (y2.xs ++ [1, 2, 3, 4, 5, 6, 1, 2, 3, 1, 2, 3, 4, 5, 6, 7, 8, 9, 10, 11] : List Int), rowA 22 y1.A y1.c (y1.xs : List Int)]) (fun j => ⟨[(5, vI ((j : Nat) : Int)), (4, .v (.slice A5 (y3.xs ++ [1, 2, 3, 4, 5, 6, 1, 2, 3, 1, 2, 3, 4, 5, 6, 7, 8, 9, 10, 11]).length c5)), (3, .v (.slice A4 (y2.xs ++ [1, 2, 3, 4, 5, 6, 1, 2, 3, 1, 2, 3, 4, 5, 6, 7, 8, 9, 10, 11]).length c4))], []⟩) 0 (Nat.zero_le _) (s_start [5, 4, 3] 0 (by kernel_rfl) rfl) ?_
    rintro j hj
    refine c_seq ?_
    refine c_seq ?_
    refine c_region ?_
    refine JL_run 4 [] [30, 5, 4, 3] 0 ⟨[(30, vB (decide (((j : Nat) : Int) < (((y2.xs ++ [1, 2, 3, 4, 5, 6, 1, 2, 3, 1, 2, 3, 4, 5, 6, 7, 8, 9, 10, 11]).length : Nat) : Int)))), (5, vI ((j : Nat) : Int)), (4, .v (.slice A5 (y3.xs ++ [1, 2, 3, 4, 5, 6, 1, 2, 3, 1, 2, 3, 4, 5, 6, 7, 8, 9, 10, 11]).length c5)), (3, .v (.slice A4 (y2.xs ++ [1, 2, 3, 4, 5, 6, 1, 2, 3, 1, 2, 3, 4, 5, 6, 7, 8, 9, 10, 11]).length c4))], []⟩ [] [] (by kernel_rfl) on wn ?_
    refine l_nil (q_then_normal ?_)
    cases h3 : decide (((j : Nat) : Int) < (((y2.xs ++ [1, 2, 3, 4, 5, 6, 1, 2, 3, 1, 2, 3, 4, 5, 6, 7, 8, 9, 10, 11]).length : Nat) : Int)) with
    | true =>
      have h3 := of_decide_eq_true h3
      refine c_if true rfl ?_
      refine c_skip ?_
      refine q_then_normal ?_
      refine c_seq ?_
      refine c_block ?_
      refine c_seq ?_
      refine c_draw 9 [(0, false), (1, false), (2, false), (3, false), (4, false), (5, false), (6, false), (7, false), (8, false)] [] [rowA 3 A5 c5 (y3.xs ++ [1, 2, 3, 4, 5, 6, 1, 2, 3, 1, 2, 3, 4, 5, 6, 7, 8, 9, 10, 11] : List Int), rowA 3 A4 c4 (y2.xs ++ [1, 2, 3, 4, 5, 6, 1, 2, 3, 1, 2, 3, 4, 5, 6, 7, 8, 9, 10, 11] : List Int), rowA 22 y1.A y1.c (y1.xs : List Int)] Try_mixed (by kernel_rfl) (pq_then (pq_block (pq_then (pq_then (pq_block (pq_then pq_body)))))) (List.Sublist.refl _) ?_
      refine h_quiet [(2, .idx (oad A4) j), (3, .ext [.int .i64 ((y2.xs ++ [1, 2, 3, 4, 5, 6, 1, 2, 3, 1, 2, 3, 4, 5, 6, 7, 8, 9, 10, 11]).getD j default)]), (6, .idx (oad A5) j), (7, .ext [.int .i64 ((y3.xs ++ [1, 2, 3, 4, 5, 6, 1, 2, 3, 1, 2, 3, 4, 5, 6, 7, 8, 9, 10, 11]).getD j default)])] 9 [(41, vB (!(decide (((y2.xs ++ [1, 2, 3, 4, 5, 6, 1, 2, 3, 1, 2, 3, 4, 5, 6, 7, 8, 9, 10, 11]).getD j default) = ((y3.xs ++ [1, 2, 3, 4, 5, 6, 1, 2, 3, 1, 2, 3, 4, 5, 6, 7, 8, 9, 10, 11]).getD j default))))), (40, vI ((y3.xs ++ [1, 2, 3, 4, 5, 6, 1, 2, 3, 1, 2, 3, 4, 5, 6, 7, 8, 9, 10, 11]).getD j default)), (39, .v (.pointer (some ((oad A5).add (j * 1))))), (38, vI ((j : Nat) : Int)), (37, .v (.slice A5 (y3.xs ++ [1, 2, 3, 4, 5, 6, 1, 2, 3, 1, 2, 3, 4, 5, 6, 7, 8, 9, 10, 11]).length c5)), (36, vI ((y2.xs ++ [1, 2, 3, 4, 5, 6, 1, 2, 3, 1, 2, 3, 4, 5, 6, 7, 8, 9, 10, 11]).getD j default)), (35, .v (.pointer (some ((oad A4).add (j * 1))))), (34, vI ((j : Nat) : Int)), (33, .v (.slice A4 (y2.xs ++ [1, 2, 3, 4, 5, 6, 1, 2, 3, 1, 2, 3, 4, 5, 6, 7, 8, 9, 10, 11]).length c4)), (30, vB true), (5, vI ((j : Nat) : Int)), (4, .v (.slice A5 (y3.xs ++ [1, 2, 3, 4, 5, 6, 1, 2, 3, 1, 2, 3, 4, 5, 6, 7, 8, 9, 10, 11]).length c5)), (3, .v (.slice A4 (y2.xs ++ [1, 2, 3, 4, 5, 6, 1, 2, 3, 1, 2, 3, 4, 5, 6, 7, 8, 9, 10, 11]).length c4))] [A4 = some (oad A4), ((j : Nat) : Int) = ((j : Nat) : Int), j < (y2.xs ++ [1, 2, 3, 4, 5, 6, 1, 2, 3, 1, 2, 3, 4, 5, 6, 7, 8, 9, 10, 11]).length, A5 = some (oad A5), ((j : Nat) : Int) = ((j : Nat) : Int), j < (y3.xs ++ [1, 2, 3, 4, 5, 6, 1, 2, 3, 1, 2, 3, 4, 5, 6, 7, 8, 9, 10, 11]).length] [((oad A4).add (j * 1), [.int .i64 ((y2.xs ++ [1, 2, 3, 4, 5, 6, 1, 2, 3, 1, 2, 3, 4, 5, 6, 7, 8, 9, 10, 11]).getD j default)]), ((oad A5).add (j * 1), [.int .i64 ((y3.xs ++ [1, 2, 3, 4, 5, 6, 1, 2, 3, 1, 2, 3, 4, 5, 6, 7, 8, 9, 10, 11]).getD j default)])] rfl rfl (by kernel_rfl) (oc (hrow4.1 j (by omega)) (oc rfl (oc (by omega) (oc (hrow5.1 j (by omega)) (oc rfl (oc (by omega) on)))))) (fun w hk hr => ⟨(rowA_all (i := j) (hr _ (.tail _ (.head _))) (by omega) rfl), ⟨(rowA_all (i := j) (hr _ (.head _)) (by omega) rfl), trivial⟩⟩) ?_
      refine h_nil ?_
      refine l_nil (q_then_normal ?_)
      cases h4 : decide (((y2.xs ++ [1, 2, 3, 4, 5, 6, 1, 2, 3, 1, 2, 3, 4, 5, 6, 7, 8, 9, 10, 11]).getD j default) = ((y3.xs ++ [1, 2, 3, 4, 5, 6, 1, 2, 3, 1, 2, 3, 4, 5, 6, 7, 8, 9, 10, 11]).getD j default)) with
      | true =>
        have h4 := of_decide_eq_true h4
        refine c_if false rfl ?_
        refine c_skip ?_
        refine q_block_normal (q_then_normal ?_)
        refine c_region ?_
        refine JL_run 3 [] [5, 4, 3] 0 ⟨[(5, vI (((j : Nat) : Int) + 1)), (4, .v (.slice A5 (y3.xs ++ [1, 2, 3, 4, 5, 6, 1, 2, 3, 1, 2, 3, 4, 5, 6, 7, 8, 9, 10, 11]).length c5)), (3, .v (.slice A4 (y2.xs ++ [1, 2, 3, 4, 5, 6, 1, 2, 3, 1, 2, 3, 4, 5, 6, 7, 8, 9, 10, 11]).length c4))], []⟩ [inR (((j : Nat) : Int) + 1)] [] (by kernel_rfl) (oc (by unfold inR; omega) on) wn ?_
        refine l_nil (q_loop (x := (j : Nat)) ((j + 1) : Nat) (by omega) (by omega) (s_start [5, 4, 3] 0 (by kernel_rfl) rfl))
      | false =>
        have h4 := of_decide_eq_false h4
        exact absurd (hall j (by omega)) h4
    | false =>
      have h3 := of_decide_eq_false h3
      refine c_if false rfl ?_
      refine c_exit ?_
      refine q_then_exit (q_then_exit (q_block_hit (q_then_normal ?_)))
      refine c_seq ?_
      refine c_region ?_
      refine JL_run 1 [] [0] 0 ⟨[(0, vB true)], []⟩ [] [] (by kernel_rfl) on wn ?_
      refine l_nil (q_then_normal ?_)
      refine c_ret ?_
      refine q_ret (.inl rfl) [vB true] rfl (fun bs w hS => ?_)
      exact ⟨rfl, hS.kp⟩

end Go.Proofs.Ytececkgjacccmaa.W
