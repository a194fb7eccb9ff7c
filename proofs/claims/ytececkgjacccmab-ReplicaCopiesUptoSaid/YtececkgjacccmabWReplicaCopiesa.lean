/-
  The functions that the law ReplicaCopies reaches, walked: each returns what its model says.
  Conditions: those that each theorem states.
-/
import Derived.Test.YtececkgjacccmabMc
import Derived.Test.YtececkgjacccmabChecked
set_option linter.unusedVariables false
set_option linter.unusedSimpArgs false
set_option maxRecDepth 100000
namespace Go.Proofs.Ytececkgjacccmab.W
open Go.Proofs.Ytececkgjacccmab.Fw Go.RowKit

theorem Try_mixed : Try.prog.follows .mixedOrders = true := by kernel_rfl
theorem laid : laidOutB Try.prog = true := by kernel_rfl

theorem same_texts {B B' : Nat → Prop} (a b : Sl ByteArray) (w : World) (ha : a.rd B w) (hb : b.rd B' w) (he : a.xs = b.xs) : Calls Try.prog 73 #[.slice a.A a.n a.c, .slice b.A b.n b.c] w fun e w' => e = .returned (.bool true) ∧ Kp [] w w' := by
  have oka := Sl.rd.ok ha
  have okb := Sl.rd.ok hb
  have hn := xs_n he
  have nca := Sl.ok.nc oka
  refine calls_J0 26 Try.func73 rfl rfl [.slice a.A a.n a.c, .slice b.A b.n b.c] rfl ?_
  refine c_seq ?_
  refine c_region ?_
  refine JL_run 1 [] [0, 1] 0 ⟨[(0, .v (.slice a.A a.n a.c)), (1, .v (.slice b.A b.n b.c))], []⟩ [] [] (by kernel_rfl) on wn ?_
  refine l_nil (q_then_normal ?_)
  refine c_seq ?_
  refine c_seq ?_
  refine c_region ?_
  refine JL_run 5 [] [10, 0, 1] 0 ⟨[(10, vB (!(decide (((a.n : Nat) : Int) = ((b.n : Nat) : Int))))), (0, .v (.slice a.A a.n a.c)), (1, .v (.slice b.A b.n b.c))], []⟩ [] [] (by kernel_rfl) on wn ?_
  refine l_nil (q_then_normal ?_)
  cases h1 : decide (((a.n : Nat) : Int) = ((b.n : Nat) : Int)) with
  | true =>
    have h1 := of_decide_eq_true h1
    refine c_if false rfl ?_
    refine c_skip ?_
    refine q_then_normal ?_
    refine c_seq ?_
    refine c_seq ?_
    refine c_region ?_
    refine JL_run 1 [] [5, 0, 1] 0 ⟨[(5, vI 0), (0, .v (.slice a.A a.n a.c)), (1, .v (.slice b.A b.n b.c))], []⟩ [] [] (by kernel_rfl) on wn ?_
    refine l_nil (q_then_normal ?_)
    refine c_block ?_
    refine c_loop (σ := Nat) (fun i => True) (fun i => a.n - i) (fun i => []) (fun i => ⟨[(5, vI ((i : Nat) : Int)), (0, .v (.slice a.A a.n a.c)), (1, .v (.slice b.A b.n b.c))], []⟩) 0 trivial (s_start [5, 0, 1] 0 (by kernel_rfl) rfl) ?_
    rintro i _
    have hat := xs_at he i
    refine c_seq ?_
    refine c_seq ?_
    refine c_region ?_
    refine JL_run 4 [] [14, 5, 0, 1] 0 ⟨[(14, vB (decide (((i : Nat) : Int) < ((a.n : Nat) : Int)))), (5, vI ((i : Nat) : Int)), (0, .v (.slice a.A a.n a.c)), (1, .v (.slice b.A b.n b.c))], []⟩ [] [] (by kernel_rfl) on wn ?_
    refine l_nil (q_then_normal ?_)
    cases h2 : decide (((i : Nat) : Int) < ((a.n : Nat) : Int)) with
    | true =>
      have h2 := of_decide_eq_true h2
      refine c_if true rfl ?_
      refine c_skip ?_
      refine q_then_normal ?_
      refine c_seq ?_
      refine c_block ?_
      refine c_seq ?_
      refine c_draw 9 [(0, false), (1, false), (2, false), (3, false), (4, false), (5, false), (6, false), (7, false), (8, false)] [] [] Try_mixed (by kernel_rfl) (pq_then (pq_block (pq_then (pq_then (pq_block (pq_then pq_body)))))) (List.Sublist.refl _) ?_
      refine h_quiet [(2, .idx a.ad i), (3, .ext [.string (a.at i)]), (6, .idx b.ad i), (7, .ext [.string (b.at i)])] 9 [(25, vB (!(decide ((a.at i) = (b.at i))))), (24, vS (b.at i)), (23, .v (.pointer (some (b.ad.add (i * 1))))), (22, vI ((i : Nat) : Int)), (21, .v (.slice b.A b.n b.c)), (20, vS (a.at i)), (19, .v (.pointer (some (a.ad.add (i * 1))))), (18, vI ((i : Nat) : Int)), (17, .v (.slice a.A a.n a.c)), (14, vB true), (5, vI ((i : Nat) : Int)), (0, .v (.slice a.A a.n a.c)), (1, .v (.slice b.A b.n b.c))] [a.A = some a.ad, ((i : Nat) : Int) = ((i : Nat) : Int), i < a.n, b.A = some b.ad, ((i : Nat) : Int) = ((i : Nat) : Int), i < b.n] [(a.ad.add (i * 1), [.string (a.at i)]), (b.ad.add (i * 1), [.string (b.at i)])] rfl rfl (by kernel_rfl) (oc (Sl.ok.own (s := a) (i := i) oka (by omega)) (oc rfl (oc (by omega) (oc (Sl.ok.own (s := b) (i := i) okb (by omega)) (oc rfl (oc (by omega) on)))))) (fun w hk hr => ⟨(Sl.rd.all (s := a) (i := i) (Sl.rd.kp ha hk) (by omega) rfl), ⟨(Sl.rd.all (s := b) (i := i) (Sl.rd.kp hb hk) (by omega) rfl), trivial⟩⟩) ?_
      refine h_nil ?_
      refine l_nil (q_then_normal ?_)
      cases h3 : decide ((a.at i) = (b.at i)) with
      | true =>
        have h3 := of_decide_eq_true h3
        refine c_if false rfl ?_
        refine c_skip ?_
        refine q_block_normal (q_then_normal ?_)
        refine c_region ?_
        refine JL_run 3 [] [5, 0, 1] 0 ⟨[(5, vI (((i : Nat) : Int) + 1)), (0, .v (.slice a.A a.n a.c)), (1, .v (.slice b.A b.n b.c))], []⟩ [inR (((i : Nat) : Int) + 1)] [] (by kernel_rfl) (oc (by unfold inR; omega) on) wn ?_
        refine l_nil (q_loop (x := (i : Nat)) ((i + 1) : Nat) trivial (by omega) (s_start [5, 0, 1] 0 (by kernel_rfl) rfl))
      | false =>
        have h3 := of_decide_eq_false h3
        exfalso; first | omega | exact h3 (xs_at he i)
    | false =>
      have h2 := of_decide_eq_false h2
      refine c_if false rfl ?_
      refine c_exit ?_
      refine q_then_exit (q_then_exit (q_block_hit (q_then_normal ?_)))
      refine c_seq ?_
      refine c_region ?_
      refine JL_run 1 [] [4] 0 ⟨[(4, vB true)], []⟩ [] [] (by kernel_rfl) on wn ?_
      refine l_nil (q_then_normal ?_)
      refine c_ret ?_
      refine q_ret (.inl rfl) [vB true] rfl (fun bs w hS => ?_)
      exact ⟨rfl, hS.kp⟩
  | false =>
    have h1 := of_decide_eq_false h1
    exfalso; first | omega | exact h1 (xs_at he i)

theorem same_ints {B B' : Nat → Prop} (a b : Sl Int) (w : World) (ha : a.rd B w) (hb : b.rd B' w) (he : a.xs = b.xs) : Calls Try.prog 69 #[.slice a.A a.n a.c, .slice b.A b.n b.c] w fun e w' => e = .returned (.bool true) ∧ Kp [] w w' := by
  have oka := Sl.rd.ok ha
  have okb := Sl.rd.ok hb
  have hn := xs_n he
  have nca := Sl.ok.nc oka
  refine calls_J0 26 Try.func69 rfl rfl [.slice a.A a.n a.c, .slice b.A b.n b.c] rfl ?_
  refine c_seq ?_
  refine c_region ?_
  refine JL_run 1 [] [0, 1] 0 ⟨[(0, .v (.slice a.A a.n a.c)), (1, .v (.slice b.A b.n b.c))], []⟩ [] [] (by kernel_rfl) on wn ?_
  refine l_nil (q_then_normal ?_)
  refine c_seq ?_
  refine c_seq ?_
  refine c_region ?_
  refine JL_run 5 [] [10, 0, 1] 0 ⟨[(10, vB (!(decide (((a.n : Nat) : Int) = ((b.n : Nat) : Int))))), (0, .v (.slice a.A a.n a.c)), (1, .v (.slice b.A b.n b.c))], []⟩ [] [] (by kernel_rfl) on wn ?_
  refine l_nil (q_then_normal ?_)
  cases h1 : decide (((a.n : Nat) : Int) = ((b.n : Nat) : Int)) with
  | true =>
    have h1 := of_decide_eq_true h1
    refine c_if false rfl ?_
    refine c_skip ?_
    refine q_then_normal ?_
    refine c_seq ?_
    refine c_seq ?_
    refine c_region ?_
    refine JL_run 1 [] [5, 0, 1] 0 ⟨[(5, vI 0), (0, .v (.slice a.A a.n a.c)), (1, .v (.slice b.A b.n b.c))], []⟩ [] [] (by kernel_rfl) on wn ?_
    refine l_nil (q_then_normal ?_)
    refine c_block ?_
    refine c_loop (σ := Nat) (fun i => True) (fun i => a.n - i) (fun i => []) (fun i => ⟨[(5, vI ((i : Nat) : Int)), (0, .v (.slice a.A a.n a.c)), (1, .v (.slice b.A b.n b.c))], []⟩) 0 trivial (s_start [5, 0, 1] 0 (by kernel_rfl) rfl) ?_
    rintro i _
    have hat := xs_at he i
    refine c_seq ?_
    refine c_seq ?_
    refine c_region ?_
    refine JL_run 4 [] [14, 5, 0, 1] 0 ⟨[(14, vB (decide (((i : Nat) : Int) < ((a.n : Nat) : Int)))), (5, vI ((i : Nat) : Int)), (0, .v (.slice a.A a.n a.c)), (1, .v (.slice b.A b.n b.c))], []⟩ [] [] (by kernel_rfl) on wn ?_
    refine l_nil (q_then_normal ?_)
    cases h2 : decide (((i : Nat) : Int) < ((a.n : Nat) : Int)) with
    | true =>
      have h2 := of_decide_eq_true h2
      refine c_if true rfl ?_
      refine c_skip ?_
      refine q_then_normal ?_
      refine c_seq ?_
      refine c_block ?_
      refine c_seq ?_
      refine c_draw 9 [(0, false), (1, false), (2, false), (3, false), (4, false), (5, false), (6, false), (7, false), (8, false)] [] [] Try_mixed (by kernel_rfl) (pq_then (pq_block (pq_then (pq_then (pq_block (pq_then pq_body)))))) (List.Sublist.refl _) ?_
      refine h_quiet [(2, .idx a.ad i), (3, .ext [.int .i64 (a.at i)]), (6, .idx b.ad i), (7, .ext [.int .i64 (b.at i)])] 9 [(25, vB (!(decide ((a.at i) = (b.at i))))), (24, vI (b.at i)), (23, .v (.pointer (some (b.ad.add (i * 1))))), (22, vI ((i : Nat) : Int)), (21, .v (.slice b.A b.n b.c)), (20, vI (a.at i)), (19, .v (.pointer (some (a.ad.add (i * 1))))), (18, vI ((i : Nat) : Int)), (17, .v (.slice a.A a.n a.c)), (14, vB true), (5, vI ((i : Nat) : Int)), (0, .v (.slice a.A a.n a.c)), (1, .v (.slice b.A b.n b.c))] [a.A = some a.ad, ((i : Nat) : Int) = ((i : Nat) : Int), i < a.n, b.A = some b.ad, ((i : Nat) : Int) = ((i : Nat) : Int), i < b.n] [(a.ad.add (i * 1), [.int .i64 (a.at i)]), (b.ad.add (i * 1), [.int .i64 (b.at i)])] rfl rfl (by kernel_rfl) (oc (Sl.ok.own (s := a) (i := i) oka (by omega)) (oc rfl (oc (by omega) (oc (Sl.ok.own (s := b) (i := i) okb (by omega)) (oc rfl (oc (by omega) on)))))) (fun w hk hr => ⟨(Sl.rd.all (s := a) (i := i) (Sl.rd.kp ha hk) (by omega) rfl), ⟨(Sl.rd.all (s := b) (i := i) (Sl.rd.kp hb hk) (by omega) rfl), trivial⟩⟩) ?_
      refine h_nil ?_
      refine l_nil (q_then_normal ?_)
      cases h3 : decide ((a.at i) = (b.at i)) with
      | true =>
        have h3 := of_decide_eq_true h3
        refine c_if false rfl ?_
        refine c_skip ?_
        refine q_block_normal (q_then_normal ?_)
        refine c_region ?_
        refine JL_run 3 [] [5, 0, 1] 0 ⟨[(5, vI (((i : Nat) : Int) + 1)), (0, .v (.slice a.A a.n a.c)), (1, .v (.slice b.A b.n b.c))], []⟩ [inR (((i : Nat) : Int) + 1)] [] (by kernel_rfl) (oc (by unfold inR; omega) on) wn ?_
        refine l_nil (q_loop (x := (i : Nat)) ((i + 1) : Nat) trivial (by omega) (s_start [5, 0, 1] 0 (by kernel_rfl) rfl))
      | false =>
        have h3 := of_decide_eq_false h3
        exfalso; first | omega | exact h3 (xs_at he i)
    | false =>
      have h2 := of_decide_eq_false h2
      refine c_if false rfl ?_
      refine c_exit ?_
      refine q_then_exit (q_then_exit (q_block_hit (q_then_normal ?_)))
      refine c_seq ?_
      refine c_region ?_
      refine JL_run 1 [] [4] 0 ⟨[(4, vB true)], []⟩ [] [] (by kernel_rfl) on wn ?_
      refine l_nil (q_then_normal ?_)
      refine c_ret ?_
      refine q_ret (.inl rfl) [vB true] rfl (fun bs w hS => ?_)
      exact ⟨rfl, hS.kp⟩
  | false =>
    have h1 := of_decide_eq_false h1
    exfalso; first | omega | exact h1 (xs_at he i)

theorem clone_ByteArray {B : Nat → Prop} (s : Sl ByteArray) (w : World) (hs : s.rd B w) (hb : s.n ≤ 1048576) : Calls Try.prog 72 #[.slice s.A s.n s.c] w fun e w' => ∃ y : Sl ByteArray, e = .returned y.val ∧ y.xs = s.xs ∧ Kp [] w w' ∧ Fresh w w' (rowA 9 y.A y.c y.xs) := by
  have oks := Sl.rd.ok hs
  have ncs := Sl.ok.nc oks
  have hns : s.n = s.xs.length := rfl
  refine calls_J0 8 Try.func72 rfl rfl [.slice s.A s.n s.c] rfl ?_
  refine c_seq ?_
  refine c_region ?_
  refine JL_run 1 [] [0] 0 ⟨[(0, .v (.slice s.A s.n s.c))], []⟩ [] [] (by kernel_rfl) on wn ?_
  refine l_nil (q_then_normal ?_)
  refine c_seq ?_
  refine c_seq ?_
  refine c_region ?_
  refine JL_run 2 [(1, .val (.bool s.A.isNone))] [4, 0] 0 ⟨[(4, vB s.A.isNone), (0, .v (.slice s.A s.n s.c))], []⟩ [∀ w, (do eqGuard .eql 40 (.tmp 3) (.const (.slice none 0 0)) (.slice s.A s.n s.c) (.slice none 0 0); binOp .eql 40 (.slice s.A s.n s.c) (.slice none 0 0) : Sem Value).run Try.prog w = .ok (.bool s.A.isNone) w] [] (by kernel_rfl) (oc (eq_nil Try.underlying40) on) wn ?_
  refine l_nil (q_then_normal ?_)
  cases h1 : s.A.isNone with
  | true =>
    refine c_if true rfl ?_
    refine c_seq ?_
    refine c_region ?_
    refine JL_run 1 [] [2] 0 ⟨[(2, .v (.slice none 0 0))], []⟩ [] [] (by kernel_rfl) on wn ?_
    refine l_nil (q_then_normal ?_)
    refine c_ret ?_
    refine q_then_ret (q_ret (.inl rfl) [.v (.slice none 0 0)] rfl (fun bs w hS => ?_))
    have hnil : s.xs = [] := Sl.ok.empty oks (by cases h : s.A <;> simp_all)
    exact ⟨Sl.nil, rfl, hnil.symm, hS.kp, rowA_nil 9 w⟩
  | false =>
    refine c_if false rfl ?_
    refine c_skip ?_
    refine q_then_normal ?_
    refine c_seq ?_
    refine c_region ?_
    refine l_row0A (α := ByteArray) 9 Try.underlying40 (by kernel_rfl) (by kernel_rfl) (by kernel_rfl) rfl ?_
    intro A1
    refine JL_run 1 [] [6, 5] 0 ⟨[(6, .v (.slice s.A s.n s.c)), (5, .v (.slice A1 ([] : List ByteArray).length 0))], []⟩ [] [] (by kernel_rfl) on wn ?_
    refine l_appendA (α := ByteArray) 9 16 A1 0 ([]) (.v (.slice s.A s.n s.c)) (s.xs) Try.underlying40 (by kernel_rfl) rfl rfl rfl (fun bs w hS => ⟨_, _, rfl, Sl.rd.src (s := s) (Sl.rd.kp hs hS.kp)⟩) (by simp only [List.length_nil]; omega) (by simp only [List.length_nil]; omega) ?_
    intro A2 c2
    refine JL_run 1 [] [2] 0 ⟨[(2, .v (.slice A2 ([] ++ s.xs).length c2))], []⟩ [] [] (by kernel_rfl) on wn ?_
    refine l_nil (q_then_normal ?_)
    refine c_ret ?_
    refine q_ret (.inl rfl) [.v (.slice A2 ([] ++ s.xs).length c2)] rfl (fun bs w hS => ?_)
    exact ⟨⟨A2, c2, [] ++ s.xs⟩, rfl, by simp, hS.kp, hS.out1⟩

theorem clone_Int {B : Nat → Prop} (s : Sl Int) (w : World) (hs : s.rd B w) (hb : s.n ≤ 1048576) : Calls Try.prog 67 #[.slice s.A s.n s.c] w fun e w' => ∃ y : Sl Int, e = .returned y.val ∧ y.xs = s.xs ∧ Kp [] w w' ∧ Fresh w w' (rowA 3 y.A y.c y.xs) := by
  have oks := Sl.rd.ok hs
  have ncs := Sl.ok.nc oks
  have hns : s.n = s.xs.length := rfl
  refine calls_J0 8 Try.func67 rfl rfl [.slice s.A s.n s.c] rfl ?_
  refine c_seq ?_
  refine c_region ?_
  refine JL_run 1 [] [0] 0 ⟨[(0, .v (.slice s.A s.n s.c))], []⟩ [] [] (by kernel_rfl) on wn ?_
  refine l_nil (q_then_normal ?_)
  refine c_seq ?_
  refine c_seq ?_
  refine c_region ?_
  refine JL_run 2 [(1, .val (.bool s.A.isNone))] [4, 0] 0 ⟨[(4, vB s.A.isNone), (0, .v (.slice s.A s.n s.c))], []⟩ [∀ w, (do eqGuard .eql 89 (.tmp 3) (.const (.slice none 0 0)) (.slice s.A s.n s.c) (.slice none 0 0); binOp .eql 89 (.slice s.A s.n s.c) (.slice none 0 0) : Sem Value).run Try.prog w = .ok (.bool s.A.isNone) w] [] (by kernel_rfl) (oc (eq_nil Try.underlying89) on) wn ?_
  refine l_nil (q_then_normal ?_)
  cases h1 : s.A.isNone with
  | true =>
    refine c_if true rfl ?_
    refine c_seq ?_
    refine c_region ?_
    refine JL_run 1 [] [2] 0 ⟨[(2, .v (.slice none 0 0))], []⟩ [] [] (by kernel_rfl) on wn ?_
    refine l_nil (q_then_normal ?_)
    refine c_ret ?_
    refine q_then_ret (q_ret (.inl rfl) [.v (.slice none 0 0)] rfl (fun bs w hS => ?_))
    have hnil : s.xs = [] := Sl.ok.empty oks (by cases h : s.A <;> simp_all)
    exact ⟨Sl.nil, rfl, hnil.symm, hS.kp, rowA_nil 3 w⟩
  | false =>
    refine c_if false rfl ?_
    refine c_skip ?_
    refine q_then_normal ?_
    refine c_seq ?_
    refine c_region ?_
    refine l_row0A (α := Int) 3 Try.underlying89 (by kernel_rfl) (by kernel_rfl) (by kernel_rfl) rfl ?_
    intro A1
    refine JL_run 1 [] [6, 5] 0 ⟨[(6, .v (.slice s.A s.n s.c)), (5, .v (.slice A1 ([] : List Int).length 0))], []⟩ [] [] (by kernel_rfl) on wn ?_
    refine l_appendA (α := Int) 3 8 A1 0 ([]) (.v (.slice s.A s.n s.c)) (s.xs) Try.underlying89 (by kernel_rfl) rfl rfl rfl (fun bs w hS => ⟨_, _, rfl, Sl.rd.src (s := s) (Sl.rd.kp hs hS.kp)⟩) (by simp only [List.length_nil]; omega) (by simp only [List.length_nil]; omega) ?_
    intro A2 c2
    refine JL_run 1 [] [2] 0 ⟨[(2, .v (.slice A2 ([] ++ s.xs).length c2))], []⟩ [] [] (by kernel_rfl) on wn ?_
    refine l_nil (q_then_normal ?_)
    refine c_ret ?_
    refine q_ret (.inl rfl) [.v (.slice A2 ([] ++ s.xs).length c2)] rfl (fun bs w hS => ?_)
    exact ⟨⟨A2, c2, [] ++ s.xs⟩, rfl, by simp, hS.kp, hS.out1⟩

theorem clone_Kept {B : Nat → Prop} (s : Sl DKept) (w : World) (hs : s.rd B w) (hb : s.n ≤ 1048576) : Calls Try.prog 68 #[.slice s.A s.n s.c] w fun e w' => ∃ y : Sl DKept, e = .returned y.val ∧ y.xs = s.xs ∧ Kp [] w w' ∧ Fresh w w' (rowA 100 y.A y.c y.xs) := by
  have oks := Sl.rd.ok hs
  have ncs := Sl.ok.nc oks
  have hns : s.n = s.xs.length := rfl
  refine calls_J0 8 Try.func68 rfl rfl [.slice s.A s.n s.c] rfl ?_
  refine c_seq ?_
  refine c_region ?_
  refine JL_run 1 [] [0] 0 ⟨[(0, .v (.slice s.A s.n s.c))], []⟩ [] [] (by kernel_rfl) on wn ?_
  refine l_nil (q_then_normal ?_)
  refine c_seq ?_
  refine c_seq ?_
  refine c_region ?_
  refine JL_run 2 [(1, .val (.bool s.A.isNone))] [4, 0] 0 ⟨[(4, vB s.A.isNone), (0, .v (.slice s.A s.n s.c))], []⟩ [∀ w, (do eqGuard .eql 81 (.tmp 3) (.const (.slice none 0 0)) (.slice s.A s.n s.c) (.slice none 0 0); binOp .eql 81 (.slice s.A s.n s.c) (.slice none 0 0) : Sem Value).run Try.prog w = .ok (.bool s.A.isNone) w] [] (by kernel_rfl) (oc (eq_nil Try.underlying81) on) wn ?_
  refine l_nil (q_then_normal ?_)
  cases h1 : s.A.isNone with
  | true =>
    refine c_if true rfl ?_
    refine c_seq ?_
    refine c_region ?_
    refine JL_run 1 [] [2] 0 ⟨[(2, .v (.slice none 0 0))], []⟩ [] [] (by kernel_rfl) on wn ?_
    refine l_nil (q_then_normal ?_)
    refine c_ret ?_
    refine q_then_ret (q_ret (.inl rfl) [.v (.slice none 0 0)] rfl (fun bs w hS => ?_))
    have hnil : s.xs = [] := Sl.ok.empty oks (by cases h : s.A <;> simp_all)
    exact ⟨Sl.nil, rfl, hnil.symm, hS.kp, rowA_nil 100 w⟩
  | false =>
    refine c_if false rfl ?_
    refine c_skip ?_
    refine q_then_normal ?_
    refine c_seq ?_
    refine c_region ?_
    refine l_row0A (α := DKept) 100 Try.underlying81 (by kernel_rfl) (by kernel_rfl) (by kernel_rfl) rfl ?_
    intro A1
    refine JL_run 1 [] [6, 5] 0 ⟨[(6, .v (.slice s.A s.n s.c)), (5, .v (.slice A1 ([] : List DKept).length 0))], []⟩ [] [] (by kernel_rfl) on wn ?_
    refine l_appendA (α := DKept) 100 40 A1 0 ([]) (.v (.slice s.A s.n s.c)) (s.xs) Try.underlying81 (by kernel_rfl) rfl rfl rfl (fun bs w hS => ⟨_, _, rfl, Sl.rd.src (s := s) (Sl.rd.kp hs hS.kp)⟩) (by simp only [List.length_nil]; omega) (by simp only [List.length_nil]; omega) ?_
    intro A2 c2
    refine JL_run 1 [] [2] 0 ⟨[(2, .v (.slice A2 ([] ++ s.xs).length c2))], []⟩ [] [] (by kernel_rfl) on wn ?_
    refine l_nil (q_then_normal ?_)
    refine c_ret ?_
    refine q_ret (.inl rfl) [.v (.slice A2 ([] ++ s.xs).length c2)] rfl (fun bs w hS => ?_)
    exact ⟨⟨A2, c2, [] ++ s.xs⟩, rfl, by simp, hS.kp, hS.out1⟩

theorem clone_Pair {B : Nat → Prop} (s : Sl DPair) (w : World) (hs : s.rd B w) (hb : s.n ≤ 1048576) : Calls Try.prog 42 #[.slice s.A s.n s.c] w fun e w' => ∃ y : Sl DPair, e = .returned y.val ∧ y.xs = s.xs ∧ Kp [] w w' ∧ Fresh w w' (rowA 75 y.A y.c y.xs) := by
  have oks := Sl.rd.ok hs
  have ncs := Sl.ok.nc oks
  have hns : s.n = s.xs.length := rfl
  refine calls_J0 8 Try.func42 rfl rfl [.slice s.A s.n s.c] rfl ?_
  refine c_seq ?_
  refine c_region ?_
  refine JL_run 1 [] [0] 0 ⟨[(0, .v (.slice s.A s.n s.c))], []⟩ [] [] (by kernel_rfl) on wn ?_
  refine l_nil (q_then_normal ?_)
  refine c_seq ?_
  refine c_seq ?_
  refine c_region ?_
  refine JL_run 2 [(1, .val (.bool s.A.isNone))] [4, 0] 0 ⟨[(4, vB s.A.isNone), (0, .v (.slice s.A s.n s.c))], []⟩ [∀ w, (do eqGuard .eql 23 (.tmp 3) (.const (.slice none 0 0)) (.slice s.A s.n s.c) (.slice none 0 0); binOp .eql 23 (.slice s.A s.n s.c) (.slice none 0 0) : Sem Value).run Try.prog w = .ok (.bool s.A.isNone) w] [] (by kernel_rfl) (oc (eq_nil Try.underlying23) on) wn ?_
  refine l_nil (q_then_normal ?_)
  cases h1 : s.A.isNone with
  | true =>
    refine c_if true rfl ?_
    refine c_seq ?_
    refine c_region ?_
    refine JL_run 1 [] [2] 0 ⟨[(2, .v (.slice none 0 0))], []⟩ [] [] (by kernel_rfl) on wn ?_
    refine l_nil (q_then_normal ?_)
    refine c_ret ?_
    refine q_then_ret (q_ret (.inl rfl) [.v (.slice none 0 0)] rfl (fun bs w hS => ?_))
    have hnil : s.xs = [] := Sl.ok.empty oks (by cases h : s.A <;> simp_all)
    exact ⟨Sl.nil, rfl, hnil.symm, hS.kp, rowA_nil 75 w⟩
  | false =>
    refine c_if false rfl ?_
    refine c_skip ?_
    refine q_then_normal ?_
    refine c_seq ?_
    refine c_region ?_
    refine l_row0A (α := DPair) 75 Try.underlying23 (by kernel_rfl) (by kernel_rfl) (by kernel_rfl) rfl ?_
    intro A1
    refine JL_run 1 [] [6, 5] 0 ⟨[(6, .v (.slice s.A s.n s.c)), (5, .v (.slice A1 ([] : List DPair).length 0))], []⟩ [] [] (by kernel_rfl) on wn ?_
    refine l_appendA (α := DPair) 75 40 A1 0 ([]) (.v (.slice s.A s.n s.c)) (s.xs) Try.underlying23 (by kernel_rfl) rfl rfl rfl (fun bs w hS => ⟨_, _, rfl, Sl.rd.src (s := s) (Sl.rd.kp hs hS.kp)⟩) (by simp only [List.length_nil]; omega) (by simp only [List.length_nil]; omega) ?_
    intro A2 c2
    refine JL_run 1 [] [2] 0 ⟨[(2, .v (.slice A2 ([] ++ s.xs).length c2))], []⟩ [] [] (by kernel_rfl) on wn ?_
    refine l_nil (q_then_normal ?_)
    refine c_ret ?_
    refine q_ret (.inl rfl) [.v (.slice A2 ([] ++ s.xs).length c2)] rfl (fun bs w hS => ?_)
    exact ⟨⟨A2, c2, [] ++ s.xs⟩, rfl, by simp, hS.kp, hS.out1⟩

theorem log_Copy {B : Nat → Prop} (x : CLog) (w : World) (hx : Rds.sub B w x) (hsm : Rds.small x) : Calls Try.prog 53 #[.agg #[.int .i64 x.base, .slice x.entries.A x.entries.n x.entries.c]] w fun e w' => ∃ y : CLog, e = .returned (y.val) ∧ y.abs = x.abs ∧ FreshS w w' y := by
  have okx := Rds.okof hx
  refine calls_J0 9 Try.func53 rfl rfl [.agg #[.int .i64 x.base, .slice x.entries.A x.entries.n x.entries.c]] rfl ?_
  refine c_seq ?_
  refine c_region ?_
  refine JL_run 2 [] [2, 1] 2 ⟨[(2, .p 1 0), (1, .p 0 0)], [⟨42, [vI x.base, .v (.slice x.entries.A x.entries.n x.entries.c)]⟩, ⟨42, [vI 0, .v (.slice none 0 0)]⟩]⟩ [] [] (by kernel_rfl) on wn ?_
  refine l_nil (q_then_normal ?_)
  refine c_seq ?_
  refine c_draw 6 [(0, false), (1, false), (2, false), (3, false), (4, true), (5, false)] [] [] Try_mixed (by kernel_rfl) (pq_then pq_body) (List.Sublist.refl _) ?_
  refine h_quiet [] 4 [(6, .v (.slice x.entries.A x.entries.n x.entries.c)), (5, .p 0 1), (4, vI x.base), (3, .p 0 0), (2, .p 1 0), (1, .p 0 0)] [] [] rfl rfl (by kernel_rfl) on wn ?_
  refine h_freshF (σ := Sl ByteArray) 72 [] [.v (.slice x.entries.A x.entries.n x.entries.c)] (fun y1 => .slice y1.A y1.n y1.c) (fun y1 => y1.xs = x.entries.xs) (fun y1 => rowA 9 y1.A y1.c (y1.xs : List ByteArray)) rfl Try.call72 rfl rfl rfl rfl (fun bs w hS => clone_ByteArray x.entries w (Rds.kp hx hS.kp) (And.left hsm)) (fun bs0 bs y w hp hl hS => hS.down hp hl rfl (le_same (le_same le_nil)) (.cons _ (List.Sublist.refl _))) ?_
  rintro y1 hF1
  refine h_quiet [] 1 [(8, .v (.agg #[.int .i64 x.base, .slice y1.A y1.n y1.c])), (7, .v (.slice y1.A y1.n y1.c)), (6, .v (.slice x.entries.A x.entries.n x.entries.c)), (5, .p 0 1), (4, vI x.base), (3, .p 0 0), (2, .p 1 0), (1, .p 0 0)] [] [] rfl rfl (by kernel_rfl) on wn ?_
  refine h_nil ?_
  refine JL_run 1 [] [2] 2 ⟨[(2, .p 1 0)], [⟨42, [vI x.base, .v (.slice x.entries.A x.entries.n x.entries.c)]⟩, ⟨42, [vI x.base, .v (.slice y1.A y1.n y1.c)]⟩]⟩ [] [] (by kernel_rfl) on wn ?_
  refine l_nil (q_then_normal ?_)
  refine c_ret ?_
  refine q_ret (.inl rfl) [.v (.agg #[.int .i64 x.base, .slice y1.A y1.n y1.c])] rfl (fun bs w hS => ?_)
  exact ⟨⟨x.base, y1⟩, rfl, by simp [CLog.abs, hF1], hS.outS (y := (⟨x.base, y1⟩ : CLog)) (allR_row (.head _) (hS.res _ (.head _)) (fun z hz => Sl.rd.mem (s := x.entries) hx z (hF1 ▸ hz)))⟩

theorem same_log {B B' : Nat → Prop} (a b : CLog) (w : World) (ha : Rds.sub B w a) (hb : Rds.sub B' w b) (he : a.abs = b.abs) : Calls Try.prog 54 #[.agg #[.int .i64 a.base, .slice a.entries.A a.entries.n a.entries.c], .agg #[.int .i64 b.base, .slice b.entries.A b.entries.n b.entries.c]] w fun e w' => e = .returned (.bool true) ∧ Kp [] w w' := by
  have oka := Rds.okof ha
  have okb := Rds.okof hb
  refine calls_J0 17 Try.func54 rfl rfl [.agg #[.int .i64 a.base, .slice a.entries.A a.entries.n a.entries.c], .agg #[.int .i64 b.base, .slice b.entries.A b.entries.n b.entries.c]] rfl ?_
  refine c_seq ?_
  refine c_region ?_
  refine JL_run 3 [] [3, 2] 2 ⟨[(3, .p 1 0), (2, .p 0 0)], [⟨42, [vI a.base, .v (.slice a.entries.A a.entries.n a.entries.c)]⟩, ⟨42, [vI b.base, .v (.slice b.entries.A b.entries.n b.entries.c)]⟩]⟩ [] [] (by kernel_rfl) on wn ?_
  refine l_nil (q_then_normal ?_)
  refine c_seq ?_
  refine c_region ?_
  refine JL_run 6 [] [10, 3, 2] 2 ⟨[(10, vB (decide (a.base = b.base))), (3, .p 1 0), (2, .p 0 0)], [⟨42, [vI a.base, .v (.slice a.entries.A a.entries.n a.entries.c)]⟩, ⟨42, [vI b.base, .v (.slice b.entries.A b.entries.n b.entries.c)]⟩]⟩ [] [] (by kernel_rfl) on wn ?_
  cases h1 : decide (a.base = b.base) with
  | true =>
    have h1 := of_decide_eq_true h1
    refine JL_run 4 [] [14, 12, 10] 0 ⟨[(14, .v (.slice b.entries.A b.entries.n b.entries.c)), (12, .v (.slice a.entries.A a.entries.n a.entries.c)), (10, vB true)], []⟩ [] [] (by kernel_rfl) on wn ?_
    refine l_pure 73 [] [.v (.slice a.entries.A a.entries.n a.entries.c), .v (.slice b.entries.A b.entries.n b.entries.c)] (.bool true) Try.call73 rfl rfl rfl rfl (fun bs w hS => same_texts _ _ w (Rds.kp ha hS.kp) (Rds.kp hb hS.kp) (congrArg DLog.entries he)) ?_
    refine JL_run 2 [] [4] 0 ⟨[(4, vB true)], []⟩ [] [] (by kernel_rfl) on wn ?_
    refine l_nil (q_then_normal ?_)
    refine c_ret ?_
    refine q_ret (.inl rfl) [vB true] rfl (fun bs w hS => ?_)
    exact ⟨rfl, hS.kp⟩
  | false =>
    have h1 := of_decide_eq_false h1
    exact absurd (congrArg (fun q => q.base) he) h1

theorem lock_Copy {B : Nat → Prop} (s : Sl CLock) (w : World) (hs : s.rd B w) (hsm : Rds.small s) : Calls Try.prog 41 #[.slice s.A s.n s.c] w fun e w' => ∃ y : Sl CLock, e = .returned y.val ∧ y.xs.map CLock.abs = s.xs.map CLock.abs ∧ Kp [] w w' ∧ Fresh w w' (locksR 91 3 y) := by
  have oks := Sl.rd.ok hs
  have ncs := Sl.ok.nc oks
  refine calls_J0 22 Try.func41 rfl rfl [.slice s.A s.n s.c] rfl ?_
  refine c_seq ?_
  refine c_region ?_
  refine JL_run 1 [] [0] 0 ⟨[(0, .v (.slice s.A s.n s.c))], []⟩ [] [] (by kernel_rfl) on wn ?_
  refine l_nil (q_then_normal ?_)
  refine c_seq ?_
  refine c_region ?_
  refine JL_run 1 [] [3, 0] 0 ⟨[(3, .v (.slice none 0 0)), (0, .v (.slice s.A s.n s.c))], []⟩ [] [] (by kernel_rfl) on wn ?_
  refine l_nil (q_then_normal ?_)
  refine c_seq ?_
  refine c_seq ?_
  refine c_region ?_
  refine JL_run 3 [] [8, 7, 6, 3] 0 ⟨[(8, vI 0), (7, vI ((s.n : Nat) : Int)), (6, .v (.slice s.A s.n s.c)), (3, .v (.slice none 0 0))], []⟩ [] [] (by kernel_rfl) on wn ?_
  refine l_nil (q_then_normal ?_)
  refine c_block ?_
  refine c_rowA (α := CLock) 91 ?_
  refine c_nores (ownL (lineR 3) []) rfl (fun w x hx => by cases hx) ?_
  refine c_loop (σ := Nat × Option Addr × Nat × List CLock) (fun ⟨i, A, c, L⟩ => i ≤ s.n ∧ L.length = i ∧ L.map CLock.abs = (s.xs.take i).map CLock.abs) (fun ⟨i, A, c, L⟩ => s.n - i) (fun ⟨i, A, c, L⟩ => [ownL (lineR 3) L, rowA 91 A c (L : List CLock)]) (fun ⟨i, A, c, L⟩ => ⟨[(8, vI ((i : Nat) : Int)), (7, vI ((s.n : Nat) : Int)), (6, .v (.slice s.A s.n s.c)), (3, .v (.slice A L.length c))], []⟩) ⟨0, none, 0, []⟩ ⟨Nat.zero_le _, rfl, by simp⟩ (s_start [8, 7, 6, 3] 0 (by kernel_rfl) rfl) ?_
  rintro ⟨i, A, c, L⟩ ⟨hi, hL, hI⟩
  have hsn := hsm.1
  refine c_seq ?_
  refine c_region ?_
  refine JL_run 1 [] [9, 8, 7, 6, 3] 0 ⟨[(9, vB (decide (((i : Nat) : Int) < ((s.n : Nat) : Int)))), (8, vI ((i : Nat) : Int)), (7, vI ((s.n : Nat) : Int)), (6, .v (.slice s.A s.n s.c)), (3, .v (.slice A L.length c))], []⟩ [] [] (by kernel_rfl) on wn ?_
  refine l_nil (q_then_normal ?_)
  refine c_seq ?_
  cases h1 : decide (((i : Nat) : Int) < ((s.n : Nat) : Int)) with
  | true =>
    have h1 := of_decide_eq_true h1
    refine c_if true rfl ?_
    refine c_skip ?_
    refine q_then_normal ?_
    refine c_seq ?_
    refine c_block ?_
    refine c_seq ?_
    refine c_region ?_
    refine JL_run 4 [(0, .idx s.ad i), (1, .ext [.string (s.at i).name, .int .i64 (s.at i).holder, .int .i64 (s.at i).fence, .slice (s.at i).line.A (s.at i).line.n (s.at i).line.c])] [5, 8, 7, 6, 3] 1 ⟨[(5, .p 0 0), (8, vI ((i : Nat) : Int)), (7, vI ((s.n : Nat) : Int)), (6, .v (.slice s.A s.n s.c)), (3, .v (.slice A L.length c))], [⟨91, [vS (s.at i).name, vI (s.at i).holder, vI (s.at i).fence, .v (.slice (s.at i).line.A (s.at i).line.n (s.at i).line.c)]⟩]⟩ [s.A = some s.ad, ((i : Nat) : Int) = ((i : Nat) : Int), i < s.n] [(s.ad.add (i * 4), [.string (s.at i).name, .int .i64 (s.at i).holder, .int .i64 (s.at i).fence, .slice (s.at i).line.A (s.at i).line.n (s.at i).line.c])] (by kernel_rfl) (oc (Sl.ok.own (s := s) (i := i) oks (by omega)) (oc rfl (oc (by omega) on))) (fun w hk hr => ⟨(Sl.rd.all (s := s) (i := i) (Sl.rd.kp hs hk) (by omega) rfl), trivial⟩) ?_
    refine l_nil (q_then_normal ?_)
    refine c_seq ?_
    refine c_region ?_
    refine JL_run 2 [] [13, 5, 8, 7, 6, 3] 1 ⟨[(13, .v (.slice (s.at i).line.A (s.at i).line.n (s.at i).line.c)), (5, .p 0 0), (8, vI ((i : Nat) : Int)), (7, vI ((s.n : Nat) : Int)), (6, .v (.slice s.A s.n s.c)), (3, .v (.slice A L.length c))], [⟨91, [vS (s.at i).name, vI (s.at i).holder, vI (s.at i).fence, .v (.slice (s.at i).line.A (s.at i).line.n (s.at i).line.c)]⟩]⟩ [] [] (by kernel_rfl) on wn ?_
    refine l_freshF (σ := Sl Int) 67 [] [.v (.slice (s.at i).line.A (s.at i).line.n (s.at i).line.c)] (fun y1 => .slice y1.A y1.n y1.c) (fun y1 => y1.xs = (s.at i).line.xs) (fun y1 => rowA 3 y1.A y1.c (y1.xs : List Int)) Try.call67 rfl rfl rfl rfl (fun bs w hS => clone_Int (s.at i).line w (And.right (Sl.rd.sub (s := s) (i := i) (Sl.rd.kp hs hS.kp) (by omega))) (hsm.2 i (by omega)).1) ?_
    rintro y1 hF1
    refine JL_run 2 [] [5, 8, 7, 6, 3] 1 ⟨[(5, .p 0 0), (8, vI ((i : Nat) : Int)), (7, vI ((s.n : Nat) : Int)), (6, .v (.slice s.A s.n s.c)), (3, .v (.slice A L.length c))], [⟨91, [vS (s.at i).name, vI (s.at i).holder, vI (s.at i).fence, .v (.slice y1.A y1.n y1.c)]⟩]⟩ [] [] (by kernel_rfl) on wn ?_
    refine l_nil (q_then_normal ?_)
    refine c_region ?_
    refine JL_run 3 [] [18, 16, 8, 7, 6] 2 ⟨[(18, .s 1 0 1 1), (16, .v (.slice A L.length c)), (8, vI ((i : Nat) : Int)), (7, vI ((s.n : Nat) : Int)), (6, .v (.slice s.A s.n s.c))], [⟨91, [vS (s.at i).name, vI (s.at i).holder, vI (s.at i).fence, .v (.slice y1.A y1.n y1.c)]⟩, ⟨91, [vS (s.at i).name, vI (s.at i).holder, vI (s.at i).fence, .v (.slice y1.A y1.n y1.c)]⟩]⟩ [] [] (by kernel_rfl) on wn ?_
    refine l_perm (R' := [rowA 91 A c (L : List CLock), rowA 3 y1.A y1.c (y1.xs : List Int), ownL (lineR 3) L]) (permfront 2 rfl) ?_
    refine l_appendA (α := CLock) 91 56 A c (L) (.s 1 0 1 1) ([(⟨(s.at i).name, (s.at i).holder, (s.at i).fence, y1⟩ : CLock)]) Try.underlying22 (by kernel_rfl) rfl rfl rfl (fun bs w hS => by obtain ⟨q1, q2, q3, q4⟩ := src_loc (i := 1) (off := 0) (k := 1) (c := 1) (q := 4) (vs := [.string (s.at i).name, .int .i64 (s.at i).holder, .int .i64 (s.at i).fence, .slice y1.A y1.n y1.c]) hS rfl rfl; exact ⟨some q1, q2, q3, q4⟩) (by first | omega | (simp only [List.length_nil, List.length_cons, List.length_append]; omega) | (have hq := (hsm.2 i (by omega)).1; simp only [Sl.n, List.length_nil] at hq ⊢; omega)) (by first | omega | (simp only [List.length_nil, List.length_cons, List.length_append]; omega) | (have hq := (hsm.2 i (by omega)).1; simp only [Sl.n, List.length_nil] at hq ⊢; omega)) ?_
    intro A3 c3
    refine JL_run 1 [] [3, 8, 7, 6] 0 ⟨[(3, .v (.slice A3 (L ++ [(⟨(s.at i).name, (s.at i).holder, (s.at i).fence, y1⟩ : CLock)]).length c3)), (8, vI ((i : Nat) : Int)), (7, vI ((s.n : Nat) : Int)), (6, .v (.slice s.A s.n s.c))], []⟩ [] [] (by kernel_rfl) on wn ?_
    refine l_nil (q_block_normal (q_then_normal ?_))
    refine c_region ?_
    refine JL_run 2 [] [8, 3, 7, 6] 0 ⟨[(8, vI (((i : Nat) : Int) + 1)), (3, .v (.slice A3 (L ++ [(⟨(s.at i).name, (s.at i).holder, (s.at i).fence, y1⟩ : CLock)]).length c3)), (7, vI ((s.n : Nat) : Int)), (6, .v (.slice s.A s.n s.c))], []⟩ [inR (((i : Nat) : Int) + 1)] [] (by kernel_rfl) (oc (by unfold inR; omega) on) wn ?_
    refine l_perm (R' := [rowA 3 y1.A y1.c (y1.xs : List Int), ownL (lineR 3) L, rowA 91 A3 c3 (L ++ [(⟨(s.at i).name, (s.at i).holder, (s.at i).fence, y1⟩ : CLock)] : List CLock)]) (by exact perm3 0 _ _ _) ?_
    refine l_join (ownL (lineR 3) (L ++ [(⟨(s.at i).name, (s.at i).holder, (s.at i).fence, y1⟩ : CLock)])) (ownL_app_fp (lineR 3) L (⟨(s.at i).name, (s.at i).holder, (s.at i).fence, y1⟩ : CLock)) (fun w => ownL_app_p (lineR 3) L (⟨(s.at i).name, (s.at i).holder, (s.at i).fence, y1⟩ : CLock) w) ?_
    refine l_nil (q_loop (x := (⟨i, A, c, L⟩ : Nat × Option Addr × Nat × List CLock)) (⟨i + 1, A3, c3, L ++ [(⟨(s.at i).name, (s.at i).holder, (s.at i).fence, y1⟩ : CLock)]⟩ : Nat × Option Addr × Nat × List CLock) ⟨by omega, by rw [List.length_append]; simp [hL], map_take_snoc (by omega) hI (by first | simp [CLock.abs, hF1] | simp [CLock.abs])⟩ (by show s.n - (i + 1) < s.n - i; omega) (s_start [8, 7, 6, 3] 0 (by kernel_rfl) rfl))
  | false =>
    have h1 := of_decide_eq_false h1
    refine c_if false rfl ?_
    refine c_exit ?_
    refine q_then_exit (q_then_exit (q_block_hit (q_then_normal ?_)))
    refine c_seq ?_
    refine c_region ?_
    refine JL_run 2 [] [2] 0 ⟨[(2, .v (.slice A L.length c))], []⟩ [] [] (by kernel_rfl) on wn ?_
    refine l_nil (q_then_normal ?_)
    refine c_ret ?_
    refine q_ret (.inl rfl) [.v (.slice A L.length c)] rfl (fun bs w hS => ?_)
    have hn : L.length = s.n := by omega
    exact ⟨⟨A, c, L⟩, rfl, by rw [hI, take_all (by omega)], hS.kp, hS.out⟩
theorem lock_CopyS {B : Nat → Prop} (s : Sl CLock) (w : World) (hs : s.rd B w) (hsm : Rds.small s) : Calls Try.prog 41 #[.slice s.A s.n s.c] w fun e w' => ∃ y : Sl CLock, e = .returned y.val ∧ y.xs.map CLock.abs = s.xs.map CLock.abs ∧ FreshS w w' y :=
  (lock_Copy s w hs hsm).mono fun e w' ⟨y, h1, h2, h3, h4⟩ => ⟨y, h1, h2, h3, h4.sub fun hp => locksR_rd hp (locks_names hs h2)⟩

theorem session_Copy {B : Nat → Prop} (s : Sl CSession) (w : World) (hs : s.rd B w) (hsm : Rds.small s) : Calls Try.prog 43 #[.slice s.A s.n s.c] w fun e w' => ∃ y : Sl CSession, e = .returned y.val ∧ y.xs.map CSession.abs = s.xs.map CSession.abs ∧ Kp [] w w' ∧ Fresh w w' (sessR 83 100 y) := by
  have oks := Sl.rd.ok hs
  have ncs := Sl.ok.nc oks
  refine calls_J0 22 Try.func43 rfl rfl [.slice s.A s.n s.c] rfl ?_
  refine c_seq ?_
  refine c_region ?_
  refine JL_run 1 [] [0] 0 ⟨[(0, .v (.slice s.A s.n s.c))], []⟩ [] [] (by kernel_rfl) on wn ?_
  refine l_nil (q_then_normal ?_)
  refine c_seq ?_
  refine c_region ?_
  refine JL_run 1 [] [3, 0] 0 ⟨[(3, .v (.slice none 0 0)), (0, .v (.slice s.A s.n s.c))], []⟩ [] [] (by kernel_rfl) on wn ?_
  refine l_nil (q_then_normal ?_)
  refine c_seq ?_
  refine c_seq ?_
  refine c_region ?_
  refine JL_run 3 [] [8, 7, 6, 3] 0 ⟨[(8, vI 0), (7, vI ((s.n : Nat) : Int)), (6, .v (.slice s.A s.n s.c)), (3, .v (.slice none 0 0))], []⟩ [] [] (by kernel_rfl) on wn ?_
  refine l_nil (q_then_normal ?_)
  refine c_block ?_
  refine c_rowA (α := CSession) 83 ?_
  refine c_nores (ownL (keptR 100) []) rfl (fun w x hx => by cases hx) ?_
  refine c_loop (σ := Nat × Option Addr × Nat × List CSession) (fun ⟨i, A, c, L⟩ => i ≤ s.n ∧ L.length = i ∧ L.map CSession.abs = (s.xs.take i).map CSession.abs) (fun ⟨i, A, c, L⟩ => s.n - i) (fun ⟨i, A, c, L⟩ => [ownL (keptR 100) L, rowA 83 A c (L : List CSession)]) (fun ⟨i, A, c, L⟩ => ⟨[(8, vI ((i : Nat) : Int)), (7, vI ((s.n : Nat) : Int)), (6, .v (.slice s.A s.n s.c)), (3, .v (.slice A L.length c))], []⟩) ⟨0, none, 0, []⟩ ⟨Nat.zero_le _, rfl, by simp⟩ (s_start [8, 7, 6, 3] 0 (by kernel_rfl) rfl) ?_
  rintro ⟨i, A, c, L⟩ ⟨hi, hL, hI⟩
  have hsn := hsm.1
  refine c_seq ?_
  refine c_region ?_
  refine JL_run 1 [] [9, 8, 7, 6, 3] 0 ⟨[(9, vB (decide (((i : Nat) : Int) < ((s.n : Nat) : Int)))), (8, vI ((i : Nat) : Int)), (7, vI ((s.n : Nat) : Int)), (6, .v (.slice s.A s.n s.c)), (3, .v (.slice A L.length c))], []⟩ [] [] (by kernel_rfl) on wn ?_
  refine l_nil (q_then_normal ?_)
  refine c_seq ?_
  cases h1 : decide (((i : Nat) : Int) < ((s.n : Nat) : Int)) with
  | true =>
    have h1 := of_decide_eq_true h1
    refine c_if true rfl ?_
    refine c_skip ?_
    refine q_then_normal ?_
    refine c_seq ?_
    refine c_block ?_
    refine c_seq ?_
    refine c_region ?_
    refine JL_run 4 [(0, .idx s.ad i), (1, .ext [.int .i64 (s.at i).client, .int .i64 (s.at i).id, .int .i64 (s.at i).acked, .int .i64 (s.at i).last, .slice (s.at i).replies.A (s.at i).replies.n (s.at i).replies.c])] [5, 8, 7, 6, 3] 1 ⟨[(5, .p 0 0), (8, vI ((i : Nat) : Int)), (7, vI ((s.n : Nat) : Int)), (6, .v (.slice s.A s.n s.c)), (3, .v (.slice A L.length c))], [⟨83, [vI (s.at i).client, vI (s.at i).id, vI (s.at i).acked, vI (s.at i).last, .v (.slice (s.at i).replies.A (s.at i).replies.n (s.at i).replies.c)]⟩]⟩ [s.A = some s.ad, ((i : Nat) : Int) = ((i : Nat) : Int), i < s.n] [(s.ad.add (i * 5), [.int .i64 (s.at i).client, .int .i64 (s.at i).id, .int .i64 (s.at i).acked, .int .i64 (s.at i).last, .slice (s.at i).replies.A (s.at i).replies.n (s.at i).replies.c])] (by kernel_rfl) (oc (Sl.ok.own (s := s) (i := i) oks (by omega)) (oc rfl (oc (by omega) on))) (fun w hk hr => ⟨(Sl.rd.all (s := s) (i := i) (Sl.rd.kp hs hk) (by omega) rfl), trivial⟩) ?_
    refine l_nil (q_then_normal ?_)
    refine c_seq ?_
    refine c_region ?_
    refine JL_run 2 [] [13, 5, 8, 7, 6, 3] 1 ⟨[(13, .v (.slice (s.at i).replies.A (s.at i).replies.n (s.at i).replies.c)), (5, .p 0 0), (8, vI ((i : Nat) : Int)), (7, vI ((s.n : Nat) : Int)), (6, .v (.slice s.A s.n s.c)), (3, .v (.slice A L.length c))], [⟨83, [vI (s.at i).client, vI (s.at i).id, vI (s.at i).acked, vI (s.at i).last, .v (.slice (s.at i).replies.A (s.at i).replies.n (s.at i).replies.c)]⟩]⟩ [] [] (by kernel_rfl) on wn ?_
    refine l_freshF (σ := Sl DKept) 68 [] [.v (.slice (s.at i).replies.A (s.at i).replies.n (s.at i).replies.c)] (fun y1 => .slice y1.A y1.n y1.c) (fun y1 => y1.xs = (s.at i).replies.xs) (fun y1 => rowA 100 y1.A y1.c (y1.xs : List DKept)) Try.call68 rfl rfl rfl rfl (fun bs w hS => clone_Kept (s.at i).replies w (Sl.rd.sub (s := s) (i := i) (Sl.rd.kp hs hS.kp) (by omega)) (hsm.2 i (by omega)).1) ?_
    rintro y1 hF1
    refine JL_run 2 [] [5, 8, 7, 6, 3] 1 ⟨[(5, .p 0 0), (8, vI ((i : Nat) : Int)), (7, vI ((s.n : Nat) : Int)), (6, .v (.slice s.A s.n s.c)), (3, .v (.slice A L.length c))], [⟨83, [vI (s.at i).client, vI (s.at i).id, vI (s.at i).acked, vI (s.at i).last, .v (.slice y1.A y1.n y1.c)]⟩]⟩ [] [] (by kernel_rfl) on wn ?_
    refine l_nil (q_then_normal ?_)
    refine c_region ?_
    refine JL_run 3 [] [18, 16, 8, 7, 6] 2 ⟨[(18, .s 1 0 1 1), (16, .v (.slice A L.length c)), (8, vI ((i : Nat) : Int)), (7, vI ((s.n : Nat) : Int)), (6, .v (.slice s.A s.n s.c))], [⟨83, [vI (s.at i).client, vI (s.at i).id, vI (s.at i).acked, vI (s.at i).last, .v (.slice y1.A y1.n y1.c)]⟩, ⟨83, [vI (s.at i).client, vI (s.at i).id, vI (s.at i).acked, vI (s.at i).last, .v (.slice y1.A y1.n y1.c)]⟩]⟩ [] [] (by kernel_rfl) on wn ?_
    refine l_perm (R' := [rowA 83 A c (L : List CSession), rowA 100 y1.A y1.c (y1.xs : List DKept), ownL (keptR 100) L]) (permfront 2 rfl) ?_
    refine l_appendA (α := CSession) 83 56 A c (L) (.s 1 0 1 1) ([(⟨(s.at i).client, (s.at i).id, (s.at i).acked, (s.at i).last, y1⟩ : CSession)]) Try.underlying24 (by kernel_rfl) rfl rfl rfl (fun bs w hS => by obtain ⟨q1, q2, q3, q4⟩ := src_loc (i := 1) (off := 0) (k := 1) (c := 1) (q := 5) (vs := [.int .i64 (s.at i).client, .int .i64 (s.at i).id, .int .i64 (s.at i).acked, .int .i64 (s.at i).last, .slice y1.A y1.n y1.c]) hS rfl rfl; exact ⟨some q1, q2, q3, q4⟩) (by first | omega | (simp only [List.length_nil, List.length_cons, List.length_append]; omega) | (have hq := (hsm.2 i (by omega)).1; simp only [Sl.n, List.length_nil] at hq ⊢; omega)) (by first | omega | (simp only [List.length_nil, List.length_cons, List.length_append]; omega) | (have hq := (hsm.2 i (by omega)).1; simp only [Sl.n, List.length_nil] at hq ⊢; omega)) ?_
    intro A3 c3
    refine JL_run 1 [] [3, 8, 7, 6] 0 ⟨[(3, .v (.slice A3 (L ++ [(⟨(s.at i).client, (s.at i).id, (s.at i).acked, (s.at i).last, y1⟩ : CSession)]).length c3)), (8, vI ((i : Nat) : Int)), (7, vI ((s.n : Nat) : Int)), (6, .v (.slice s.A s.n s.c))], []⟩ [] [] (by kernel_rfl) on wn ?_
    refine l_nil (q_block_normal (q_then_normal ?_))
    refine c_region ?_
    refine JL_run 2 [] [8, 3, 7, 6] 0 ⟨[(8, vI (((i : Nat) : Int) + 1)), (3, .v (.slice A3 (L ++ [(⟨(s.at i).client, (s.at i).id, (s.at i).acked, (s.at i).last, y1⟩ : CSession)]).length c3)), (7, vI ((s.n : Nat) : Int)), (6, .v (.slice s.A s.n s.c))], []⟩ [inR (((i : Nat) : Int) + 1)] [] (by kernel_rfl) (oc (by unfold inR; omega) on) wn ?_
    refine l_perm (R' := [rowA 100 y1.A y1.c (y1.xs : List DKept), ownL (keptR 100) L, rowA 83 A3 c3 (L ++ [(⟨(s.at i).client, (s.at i).id, (s.at i).acked, (s.at i).last, y1⟩ : CSession)] : List CSession)]) (by exact perm3 0 _ _ _) ?_
    refine l_join (ownL (keptR 100) (L ++ [(⟨(s.at i).client, (s.at i).id, (s.at i).acked, (s.at i).last, y1⟩ : CSession)])) (ownL_app_fp (keptR 100) L (⟨(s.at i).client, (s.at i).id, (s.at i).acked, (s.at i).last, y1⟩ : CSession)) (fun w => ownL_app_p (keptR 100) L (⟨(s.at i).client, (s.at i).id, (s.at i).acked, (s.at i).last, y1⟩ : CSession) w) ?_
    refine l_nil (q_loop (x := (⟨i, A, c, L⟩ : Nat × Option Addr × Nat × List CSession)) (⟨i + 1, A3, c3, L ++ [(⟨(s.at i).client, (s.at i).id, (s.at i).acked, (s.at i).last, y1⟩ : CSession)]⟩ : Nat × Option Addr × Nat × List CSession) ⟨by omega, by rw [List.length_append]; simp [hL], map_take_snoc (by omega) hI (by first | simp [CSession.abs, hF1] | simp [CSession.abs])⟩ (by show s.n - (i + 1) < s.n - i; omega) (s_start [8, 7, 6, 3] 0 (by kernel_rfl) rfl))
  | false =>
    have h1 := of_decide_eq_false h1
    refine c_if false rfl ?_
    refine c_exit ?_
    refine q_then_exit (q_then_exit (q_block_hit (q_then_normal ?_)))
    refine c_seq ?_
    refine c_region ?_
    refine JL_run 2 [] [2] 0 ⟨[(2, .v (.slice A L.length c))], []⟩ [] [] (by kernel_rfl) on wn ?_
    refine l_nil (q_then_normal ?_)
    refine c_ret ?_
    refine q_ret (.inl rfl) [.v (.slice A L.length c)] rfl (fun bs w hS => ?_)
    have hn : L.length = s.n := by omega
    exact ⟨⟨A, c, L⟩, rfl, by rw [hI, take_all (by omega)], hS.kp, hS.out⟩
theorem session_CopyS {B : Nat → Prop} (s : Sl CSession) (w : World) (hs : s.rd B w) (hsm : Rds.small s) : Calls Try.prog 43 #[.slice s.A s.n s.c] w fun e w' => ∃ y : Sl CSession, e = .returned y.val ∧ y.xs.map CSession.abs = s.xs.map CSession.abs ∧ FreshS w w' y :=
  (session_Copy s w hs hsm).mono fun e w' ⟨y, h1, h2, h3, h4⟩ => ⟨y, h1, h2, h3, h4.sub fun hp => sessR_rd hp (sess_texts hs h2)⟩

theorem same_locks {B B' : Nat → Prop} (a b : Sl CLock) (w : World) (ha : a.rd B w) (hb : b.rd B' w) (he : a.xs.map CLock.abs = b.xs.map CLock.abs) : Calls Try.prog 44 #[.slice a.A a.n a.c, .slice b.A b.n b.c] w fun e w' => e = .returned (.bool true) ∧ Kp [] w w' := by
  have oka := Sl.rd.ok ha
  have okb := Sl.rd.ok hb
  have hn := map_n he
  have nca := Sl.ok.nc oka
  refine calls_J0 68 Try.func44 rfl rfl [.slice a.A a.n a.c, .slice b.A b.n b.c] rfl ?_
  refine c_seq ?_
  refine c_region ?_
  refine JL_run 1 [] [0, 1] 0 ⟨[(0, .v (.slice a.A a.n a.c)), (1, .v (.slice b.A b.n b.c))], []⟩ [] [] (by kernel_rfl) on wn ?_
  refine l_nil (q_then_normal ?_)
  refine c_seq ?_
  refine c_seq ?_
  refine c_region ?_
  refine JL_run 5 [] [10, 0, 1] 0 ⟨[(10, vB (!(decide (((a.n : Nat) : Int) = ((b.n : Nat) : Int))))), (0, .v (.slice a.A a.n a.c)), (1, .v (.slice b.A b.n b.c))], []⟩ [] [] (by kernel_rfl) on wn ?_
  refine l_nil (q_then_normal ?_)
  cases h1 : decide (((a.n : Nat) : Int) = ((b.n : Nat) : Int)) with
  | true =>
    have h1 := of_decide_eq_true h1
    refine c_if false rfl ?_
    refine c_skip ?_
    refine q_then_normal ?_
    refine c_seq ?_
    refine c_seq ?_
    refine c_region ?_
    refine JL_run 1 [] [5, 0, 1] 0 ⟨[(5, vI 0), (0, .v (.slice a.A a.n a.c)), (1, .v (.slice b.A b.n b.c))], []⟩ [] [] (by kernel_rfl) on wn ?_
    refine l_nil (q_then_normal ?_)
    refine c_block ?_
    refine c_loop (σ := Nat) (fun i => True) (fun i => a.n - i) (fun i => []) (fun i => ⟨[(5, vI ((i : Nat) : Int)), (0, .v (.slice a.A a.n a.c)), (1, .v (.slice b.A b.n b.c))], []⟩) 0 trivial (s_start [5, 0, 1] 0 (by kernel_rfl) rfl) ?_
    rintro i _
    have hat := map_at (f := CLock.abs) (g := CLock.abs) rfl he i
    have q1 : (a.at i).name = (b.at i).name := congrArg DLock.name hat
    have q2 : (a.at i).holder = (b.at i).holder := congrArg DLock.holder hat
    have q3 : (a.at i).fence = (b.at i).fence := congrArg DLock.fence hat
    have q4 : (a.at i).line.xs = (b.at i).line.xs := congrArg DLock.line hat
    refine c_seq ?_
    refine c_seq ?_
    refine c_region ?_
    refine JL_run 4 [] [14, 5, 0, 1] 0 ⟨[(14, vB (decide (((i : Nat) : Int) < ((a.n : Nat) : Int)))), (5, vI ((i : Nat) : Int)), (0, .v (.slice a.A a.n a.c)), (1, .v (.slice b.A b.n b.c))], []⟩ [] [] (by kernel_rfl) on wn ?_
    refine l_nil (q_then_normal ?_)
    cases h2 : decide (((i : Nat) : Int) < ((a.n : Nat) : Int)) with
    | true =>
      have h2 := of_decide_eq_true h2
      refine c_if true rfl ?_
      refine c_skip ?_
      refine q_then_normal ?_
      refine c_seq ?_
      refine c_block ?_
      refine c_seq ?_
      refine c_draw 51 [(0, false), (1, false), (2, false), (3, false), (4, false), (5, false), (6, false), (7, false), (8, false), (9, false), (10, false), (11, false), (12, false), (13, false), (14, false), (15, false), (16, false), (17, false), (18, false), (19, false), (20, false), (21, false), (22, false), (23, false), (24, false), (25, false), (26, false), (27, false), (28, false), (29, false), (30, false), (31, false), (32, false), (33, false), (34, false), (35, false), (36, false), (37, false), (38, false), (39, false), (40, false), (41, false), (42, false), (43, false), (44, false), (45, false), (46, false), (47, false), (48, true), (49, false), (50, false)] [] [] Try_mixed (by kernel_rfl) (pq_then (pq_block (pq_then (pq_then (pq_block (pq_then pq_body)))))) (List.Sublist.refl _) ?_
      refine h_quiet [(2, .idx a.ad i), (4, .ext [.string (a.at i).name]), (7, .idx b.ad i), (9, .ext [.string (b.at i).name])] 12 [(28, vB (!(decide ((a.at i).name = (b.at i).name)))), (27, vB (!(decide ((a.at i).name = (b.at i).name)))), (26, vS (b.at i).name), (25, .v (.pointer (some ((b.ad.add (i * 4)).add 0)))), (24, .v (.pointer (some (b.ad.add (i * 4))))), (23, vI ((i : Nat) : Int)), (22, .v (.slice b.A b.n b.c)), (21, vS (a.at i).name), (20, .v (.pointer (some ((a.ad.add (i * 4)).add 0)))), (19, .v (.pointer (some (a.ad.add (i * 4))))), (18, vI ((i : Nat) : Int)), (17, .v (.slice a.A a.n a.c)), (14, vB true), (5, vI ((i : Nat) : Int)), (0, .v (.slice a.A a.n a.c)), (1, .v (.slice b.A b.n b.c))] [a.A = some a.ad, ((i : Nat) : Int) = ((i : Nat) : Int), i < a.n, b.A = some b.ad, ((i : Nat) : Int) = ((i : Nat) : Int), i < b.n] [((a.ad.add (i * 4)).add 0, [.string (a.at i).name]), ((b.ad.add (i * 4)).add 0, [.string (b.at i).name])] rfl rfl (by kernel_rfl) (oc (Sl.ok.own (s := a) (i := i) oka (by omega)) (oc rfl (oc (by omega) (oc (Sl.ok.own (s := b) (i := i) okb (by omega)) (oc rfl (oc (by omega) on)))))) (fun w hk hr => ⟨(Sl.rd.fld (s := a) (i := i) (Sl.rd.kp ha hk) (by omega) 0 1 rfl), ⟨(Sl.rd.fld (s := b) (i := i) (Sl.rd.kp hb hk) (by omega) 0 1 rfl), trivial⟩⟩) ?_
      cases h3 : decide ((a.at i).name = (b.at i).name) with
      | true =>
        have h3 := of_decide_eq_true h3
        refine h_quiet [(14, .idx a.ad i), (16, .ext [.int .i64 (a.at i).holder]), (19, .idx b.ad i), (21, .ext [.int .i64 (b.at i).holder])] 13 [(41, vB (!(decide ((a.at i).holder = (b.at i).holder)))), (40, vB (!(decide ((a.at i).holder = (b.at i).holder)))), (39, vB (!(decide ((a.at i).holder = (b.at i).holder)))), (38, vI (b.at i).holder), (37, .v (.pointer (some ((b.ad.add (i * 4)).add 1)))), (36, .v (.pointer (some (b.ad.add (i * 4))))), (35, vI ((i : Nat) : Int)), (34, .v (.slice b.A b.n b.c)), (33, vI (a.at i).holder), (32, .v (.pointer (some ((a.ad.add (i * 4)).add 1)))), (31, .v (.pointer (some (a.ad.add (i * 4))))), (30, vI ((i : Nat) : Int)), (29, .v (.slice a.A a.n a.c)), (28, vB false), (27, vB false), (26, vS (b.at i).name), (25, .v (.pointer (some ((b.ad.add (i * 4)).add 0)))), (24, .v (.pointer (some (b.ad.add (i * 4))))), (23, vI ((i : Nat) : Int)), (22, .v (.slice b.A b.n b.c)), (21, vS (a.at i).name), (20, .v (.pointer (some ((a.ad.add (i * 4)).add 0)))), (19, .v (.pointer (some (a.ad.add (i * 4))))), (18, vI ((i : Nat) : Int)), (17, .v (.slice a.A a.n a.c)), (14, vB true), (5, vI ((i : Nat) : Int)), (0, .v (.slice a.A a.n a.c)), (1, .v (.slice b.A b.n b.c))] [a.A = some a.ad, ((i : Nat) : Int) = ((i : Nat) : Int), i < a.n, b.A = some b.ad, ((i : Nat) : Int) = ((i : Nat) : Int), i < b.n] [((a.ad.add (i * 4)).add 1, [.int .i64 (a.at i).holder]), ((b.ad.add (i * 4)).add 1, [.int .i64 (b.at i).holder])] rfl rfl (by kernel_rfl) (oc (Sl.ok.own (s := a) (i := i) oka (by omega)) (oc rfl (oc (by omega) (oc (Sl.ok.own (s := b) (i := i) okb (by omega)) (oc rfl (oc (by omega) on)))))) (fun w hk hr => ⟨(Sl.rd.fld (s := a) (i := i) (Sl.rd.kp ha hk) (by omega) 1 1 rfl), ⟨(Sl.rd.fld (s := b) (i := i) (Sl.rd.kp hb hk) (by omega) 1 1 rfl), trivial⟩⟩) ?_
        cases h4 : decide ((a.at i).holder = (b.at i).holder) with
        | true =>
          have h4 := of_decide_eq_true h4
          refine h_quiet [(27, .idx a.ad i), (29, .ext [.int .i64 (a.at i).fence]), (32, .idx b.ad i), (34, .ext [.int .i64 (b.at i).fence])] 13 [(54, vB (!(decide ((a.at i).fence = (b.at i).fence)))), (53, vB (!(decide ((a.at i).fence = (b.at i).fence)))), (52, vB (!(decide ((a.at i).fence = (b.at i).fence)))), (51, vI (b.at i).fence), (50, .v (.pointer (some ((b.ad.add (i * 4)).add 2)))), (49, .v (.pointer (some (b.ad.add (i * 4))))), (48, vI ((i : Nat) : Int)), (47, .v (.slice b.A b.n b.c)), (46, vI (a.at i).fence), (45, .v (.pointer (some ((a.ad.add (i * 4)).add 2)))), (44, .v (.pointer (some (a.ad.add (i * 4))))), (43, vI ((i : Nat) : Int)), (42, .v (.slice a.A a.n a.c)), (41, vB false), (40, vB false), (39, vB false), (38, vI (b.at i).holder), (37, .v (.pointer (some ((b.ad.add (i * 4)).add 1)))), (36, .v (.pointer (some (b.ad.add (i * 4))))), (35, vI ((i : Nat) : Int)), (34, .v (.slice b.A b.n b.c)), (33, vI (a.at i).holder), (32, .v (.pointer (some ((a.ad.add (i * 4)).add 1)))), (31, .v (.pointer (some (a.ad.add (i * 4))))), (30, vI ((i : Nat) : Int)), (29, .v (.slice a.A a.n a.c)), (28, vB false), (27, vB false), (26, vS (b.at i).name), (25, .v (.pointer (some ((b.ad.add (i * 4)).add 0)))), (24, .v (.pointer (some (b.ad.add (i * 4))))), (23, vI ((i : Nat) : Int)), (22, .v (.slice b.A b.n b.c)), (21, vS (a.at i).name), (20, .v (.pointer (some ((a.ad.add (i * 4)).add 0)))), (19, .v (.pointer (some (a.ad.add (i * 4))))), (18, vI ((i : Nat) : Int)), (17, .v (.slice a.A a.n a.c)), (14, vB true), (5, vI ((i : Nat) : Int)), (0, .v (.slice a.A a.n a.c)), (1, .v (.slice b.A b.n b.c))] [a.A = some a.ad, ((i : Nat) : Int) = ((i : Nat) : Int), i < a.n, b.A = some b.ad, ((i : Nat) : Int) = ((i : Nat) : Int), i < b.n] [((a.ad.add (i * 4)).add 2, [.int .i64 (a.at i).fence]), ((b.ad.add (i * 4)).add 2, [.int .i64 (b.at i).fence])] rfl rfl (by kernel_rfl) (oc (Sl.ok.own (s := a) (i := i) oka (by omega)) (oc rfl (oc (by omega) (oc (Sl.ok.own (s := b) (i := i) okb (by omega)) (oc rfl (oc (by omega) on)))))) (fun w hk hr => ⟨(Sl.rd.fld (s := a) (i := i) (Sl.rd.kp ha hk) (by omega) 2 1 rfl), ⟨(Sl.rd.fld (s := b) (i := i) (Sl.rd.kp hb hk) (by omega) 2 1 rfl), trivial⟩⟩) ?_
          cases h5 : decide ((a.at i).fence = (b.at i).fence) with
          | true =>
            have h5 := of_decide_eq_true h5
            refine h_quiet [(40, .idx a.ad i), (42, .ext [.slice (a.at i).line.A (a.at i).line.n (a.at i).line.c]), (45, .idx b.ad i), (47, .ext [.slice (b.at i).line.A (b.at i).line.n (b.at i).line.c])] 10 [(64, .v (.slice (b.at i).line.A (b.at i).line.n (b.at i).line.c)), (63, .v (.pointer (some ((b.ad.add (i * 4)).add 3)))), (62, .v (.pointer (some (b.ad.add (i * 4))))), (61, vI ((i : Nat) : Int)), (60, .v (.slice b.A b.n b.c)), (59, .v (.slice (a.at i).line.A (a.at i).line.n (a.at i).line.c)), (58, .v (.pointer (some ((a.ad.add (i * 4)).add 3)))), (57, .v (.pointer (some (a.ad.add (i * 4))))), (56, vI ((i : Nat) : Int)), (55, .v (.slice a.A a.n a.c)), (54, vB false), (53, vB false), (52, vB false), (51, vI (b.at i).fence), (50, .v (.pointer (some ((b.ad.add (i * 4)).add 2)))), (49, .v (.pointer (some (b.ad.add (i * 4))))), (48, vI ((i : Nat) : Int)), (47, .v (.slice b.A b.n b.c)), (46, vI (a.at i).fence), (45, .v (.pointer (some ((a.ad.add (i * 4)).add 2)))), (44, .v (.pointer (some (a.ad.add (i * 4))))), (43, vI ((i : Nat) : Int)), (42, .v (.slice a.A a.n a.c)), (41, vB false), (40, vB false), (39, vB false), (38, vI (b.at i).holder), (37, .v (.pointer (some ((b.ad.add (i * 4)).add 1)))), (36, .v (.pointer (some (b.ad.add (i * 4))))), (35, vI ((i : Nat) : Int)), (34, .v (.slice b.A b.n b.c)), (33, vI (a.at i).holder), (32, .v (.pointer (some ((a.ad.add (i * 4)).add 1)))), (31, .v (.pointer (some (a.ad.add (i * 4))))), (30, vI ((i : Nat) : Int)), (29, .v (.slice a.A a.n a.c)), (28, vB false), (27, vB false), (26, vS (b.at i).name), (25, .v (.pointer (some ((b.ad.add (i * 4)).add 0)))), (24, .v (.pointer (some (b.ad.add (i * 4))))), (23, vI ((i : Nat) : Int)), (22, .v (.slice b.A b.n b.c)), (21, vS (a.at i).name), (20, .v (.pointer (some ((a.ad.add (i * 4)).add 0)))), (19, .v (.pointer (some (a.ad.add (i * 4))))), (18, vI ((i : Nat) : Int)), (17, .v (.slice a.A a.n a.c)), (14, vB true), (5, vI ((i : Nat) : Int)), (0, .v (.slice a.A a.n a.c)), (1, .v (.slice b.A b.n b.c))] [a.A = some a.ad, ((i : Nat) : Int) = ((i : Nat) : Int), i < a.n, b.A = some b.ad, ((i : Nat) : Int) = ((i : Nat) : Int), i < b.n] [((a.ad.add (i * 4)).add 3, [.slice (a.at i).line.A (a.at i).line.n (a.at i).line.c]), ((b.ad.add (i * 4)).add 3, [.slice (b.at i).line.A (b.at i).line.n (b.at i).line.c])] rfl rfl (by kernel_rfl) (oc (Sl.ok.own (s := a) (i := i) oka (by omega)) (oc rfl (oc (by omega) (oc (Sl.ok.own (s := b) (i := i) okb (by omega)) (oc rfl (oc (by omega) on)))))) (fun w hk hr => ⟨(Sl.rd.fld (s := a) (i := i) (Sl.rd.kp ha hk) (by omega) 3 1 rfl), ⟨(Sl.rd.fld (s := b) (i := i) (Sl.rd.kp hb hk) (by omega) 3 1 rfl), trivial⟩⟩) ?_
            refine h_pure 69 [] [.v (.slice (a.at i).line.A (a.at i).line.n (a.at i).line.c), .v (.slice (b.at i).line.A (b.at i).line.n (b.at i).line.c)] (.bool true) rfl Try.call69 rfl rfl rfl rfl (fun bs w hS => same_ints _ _ w (And.right (Sl.rd.sub (s := a) (i := i) (Sl.rd.kp ha hS.kp) (by omega))) (And.right (Sl.rd.sub (s := b) (i := i) (Sl.rd.kp hb hS.kp) (by omega))) q4) (fun bs0 bs w hp hl hS => hS.down hp hl rfl le_nil (List.Sublist.refl _)) ?_
            refine h_quiet [] 2 [(67, vB false), (66, vB false), (65, vB true), (64, .v (.slice (b.at i).line.A (b.at i).line.n (b.at i).line.c)), (63, .v (.pointer (some ((b.ad.add (i * 4)).add 3)))), (62, .v (.pointer (some (b.ad.add (i * 4))))), (61, vI ((i : Nat) : Int)), (60, .v (.slice b.A b.n b.c)), (59, .v (.slice (a.at i).line.A (a.at i).line.n (a.at i).line.c)), (58, .v (.pointer (some ((a.ad.add (i * 4)).add 3)))), (57, .v (.pointer (some (a.ad.add (i * 4))))), (56, vI ((i : Nat) : Int)), (55, .v (.slice a.A a.n a.c)), (54, vB false), (53, vB false), (52, vB false), (51, vI (b.at i).fence), (50, .v (.pointer (some ((b.ad.add (i * 4)).add 2)))), (49, .v (.pointer (some (b.ad.add (i * 4))))), (48, vI ((i : Nat) : Int)), (47, .v (.slice b.A b.n b.c)), (46, vI (a.at i).fence), (45, .v (.pointer (some ((a.ad.add (i * 4)).add 2)))), (44, .v (.pointer (some (a.ad.add (i * 4))))), (43, vI ((i : Nat) : Int)), (42, .v (.slice a.A a.n a.c)), (41, vB false), (40, vB false), (39, vB false), (38, vI (b.at i).holder), (37, .v (.pointer (some ((b.ad.add (i * 4)).add 1)))), (36, .v (.pointer (some (b.ad.add (i * 4))))), (35, vI ((i : Nat) : Int)), (34, .v (.slice b.A b.n b.c)), (33, vI (a.at i).holder), (32, .v (.pointer (some ((a.ad.add (i * 4)).add 1)))), (31, .v (.pointer (some (a.ad.add (i * 4))))), (30, vI ((i : Nat) : Int)), (29, .v (.slice a.A a.n a.c)), (28, vB false), (27, vB false), (26, vS (b.at i).name), (25, .v (.pointer (some ((b.ad.add (i * 4)).add 0)))), (24, .v (.pointer (some (b.ad.add (i * 4))))), (23, vI ((i : Nat) : Int)), (22, .v (.slice b.A b.n b.c)), (21, vS (a.at i).name), (20, .v (.pointer (some ((a.ad.add (i * 4)).add 0)))), (19, .v (.pointer (some (a.ad.add (i * 4))))), (18, vI ((i : Nat) : Int)), (17, .v (.slice a.A a.n a.c)), (14, vB true), (5, vI ((i : Nat) : Int)), (0, .v (.slice a.A a.n a.c)), (1, .v (.slice b.A b.n b.c))] [] [] rfl rfl (by kernel_rfl) on wn ?_
            refine h_nil ?_
            refine l_nil (q_then_normal ?_)
            refine c_if false rfl ?_
            refine c_skip ?_
            refine q_block_normal (q_then_normal ?_)
            refine c_region ?_
            refine JL_run 3 [] [5, 0, 1] 0 ⟨[(5, vI (((i : Nat) : Int) + 1)), (0, .v (.slice a.A a.n a.c)), (1, .v (.slice b.A b.n b.c))], []⟩ [inR (((i : Nat) : Int) + 1)] [] (by kernel_rfl) (oc (by unfold inR; omega) on) wn ?_
            refine l_nil (q_loop (x := (i : Nat)) ((i + 1) : Nat) trivial (by omega) (s_start [5, 0, 1] 0 (by kernel_rfl) rfl))
          | false =>
            have h5 := of_decide_eq_false h5
            exfalso; first | omega | exact h5 q1
        | false =>
          have h4 := of_decide_eq_false h4
          exfalso; first | omega | exact h4 q1
      | false =>
        have h3 := of_decide_eq_false h3
        exfalso; first | omega | exact h3 q1
    | false =>
      have h2 := of_decide_eq_false h2
      refine c_if false rfl ?_
      refine c_exit ?_
      refine q_then_exit (q_then_exit (q_block_hit (q_then_normal ?_)))
      refine c_seq ?_
      refine c_region ?_
      refine JL_run 1 [] [4] 0 ⟨[(4, vB true)], []⟩ [] [] (by kernel_rfl) on wn ?_
      refine l_nil (q_then_normal ?_)
      refine c_ret ?_
      refine q_ret (.inl rfl) [vB true] rfl (fun bs w hS => ?_)
      exact ⟨rfl, hS.kp⟩
  | false =>
    have h1 := of_decide_eq_false h1
    exfalso; first | omega | exact h1 q1

theorem same_sessions {B B' : Nat → Prop} (a b : Sl CSession) (w : World) (ha : a.rd B w) (hb : b.rd B' w) (he : a.xs.map CSession.abs = b.xs.map CSession.abs) : Calls Try.prog 38 #[.slice a.A a.n a.c, .slice b.A b.n b.c] w fun e w' => e = .returned (.bool true) ∧ Kp [] w w' := by
  have oka := Sl.rd.ok ha
  have okb := Sl.rd.ok hb
  have hn := map_n he
  have nca := Sl.ok.nc oka
  refine calls_J0 81 Try.func38 rfl rfl [.slice a.A a.n a.c, .slice b.A b.n b.c] rfl ?_
  refine c_seq ?_
  refine c_region ?_
  refine JL_run 1 [] [0, 1] 0 ⟨[(0, .v (.slice a.A a.n a.c)), (1, .v (.slice b.A b.n b.c))], []⟩ [] [] (by kernel_rfl) on wn ?_
  refine l_nil (q_then_normal ?_)
  refine c_seq ?_
  refine c_seq ?_
  refine c_region ?_
  refine JL_run 5 [] [13, 0, 1] 0 ⟨[(13, vB (!(decide (((a.n : Nat) : Int) = ((b.n : Nat) : Int))))), (0, .v (.slice a.A a.n a.c)), (1, .v (.slice b.A b.n b.c))], []⟩ [] [] (by kernel_rfl) on wn ?_
  refine l_nil (q_then_normal ?_)
  cases h1 : decide (((a.n : Nat) : Int) = ((b.n : Nat) : Int)) with
  | true =>
    have h1 := of_decide_eq_true h1
    refine c_if false rfl ?_
    refine c_skip ?_
    refine q_then_normal ?_
    refine c_seq ?_
    refine c_seq ?_
    refine c_region ?_
    refine JL_run 1 [] [5, 0, 1] 0 ⟨[(5, vI 0), (0, .v (.slice a.A a.n a.c)), (1, .v (.slice b.A b.n b.c))], []⟩ [] [] (by kernel_rfl) on wn ?_
    refine l_nil (q_then_normal ?_)
    refine c_block ?_
    refine c_loop (σ := Nat) (fun i => True) (fun i => a.n - i) (fun i => []) (fun i => ⟨[(5, vI ((i : Nat) : Int)), (0, .v (.slice a.A a.n a.c)), (1, .v (.slice b.A b.n b.c))], []⟩) 0 trivial (s_start [5, 0, 1] 0 (by kernel_rfl) rfl) ?_
    rintro i _
    have hat := map_at (f := CSession.abs) (g := CSession.abs) rfl he i
    have q0 : (a.at i).client = (b.at i).client := congrArg DSession.client hat
    have q1 : (a.at i).id = (b.at i).id := congrArg DSession.id hat
    have q2 : (a.at i).acked = (b.at i).acked := congrArg DSession.acked hat
    have q3 : (a.at i).last = (b.at i).last := congrArg DSession.last hat
    have q4 : (a.at i).replies.xs = (b.at i).replies.xs := congrArg DSession.replies hat
    have q5 := xs_n q4
    refine c_seq ?_
    refine c_seq ?_
    refine c_region ?_
    refine JL_run 4 [] [17, 5, 0, 1] 0 ⟨[(17, vB (decide (((i : Nat) : Int) < ((a.n : Nat) : Int)))), (5, vI ((i : Nat) : Int)), (0, .v (.slice a.A a.n a.c)), (1, .v (.slice b.A b.n b.c))], []⟩ [] [] (by kernel_rfl) on wn ?_
    refine l_nil (q_then_normal ?_)
    cases h2 : decide (((i : Nat) : Int) < ((a.n : Nat) : Int)) with
    | true =>
      have h2 := of_decide_eq_true h2
      refine c_if true rfl ?_
      refine c_skip ?_
      refine q_then_normal ?_
      refine c_seq ?_
      refine c_block ?_
      refine c_seq ?_
      refine c_region ?_
      refine JL_run 6 [(2, .idx a.ad i), (3, .ext [.int .i64 (a.at i).client, .int .i64 (a.at i).id, .int .i64 (a.at i).acked, .int .i64 (a.at i).last, .slice (a.at i).replies.A (a.at i).replies.n (a.at i).replies.c])] [6, 5, 0, 1] 1 ⟨[(6, .p 0 0), (5, vI ((i : Nat) : Int)), (0, .v (.slice a.A a.n a.c)), (1, .v (.slice b.A b.n b.c))], [⟨83, [vI (a.at i).client, vI (a.at i).id, vI (a.at i).acked, vI (a.at i).last, .v (.slice (a.at i).replies.A (a.at i).replies.n (a.at i).replies.c)]⟩]⟩ [a.A = some a.ad, ((i : Nat) : Int) = ((i : Nat) : Int), i < a.n] [(a.ad.add (i * 5), [.int .i64 (a.at i).client, .int .i64 (a.at i).id, .int .i64 (a.at i).acked, .int .i64 (a.at i).last, .slice (a.at i).replies.A (a.at i).replies.n (a.at i).replies.c])] (by kernel_rfl) (oc (Sl.ok.own (s := a) (i := i) oka (by omega)) (oc rfl (oc (by omega) on))) (fun w hk hr => ⟨(Sl.rd.all (s := a) (i := i) (Sl.rd.kp ha hk) (by omega) rfl), trivial⟩) ?_
      refine l_nil (q_then_normal ?_)
      refine c_seq ?_
      refine c_region ?_
      refine JL_run 6 [(2, .idx b.ad i), (3, .ext [.int .i64 (b.at i).client, .int .i64 (b.at i).id, .int .i64 (b.at i).acked, .int .i64 (b.at i).last, .slice (b.at i).replies.A (b.at i).replies.n (b.at i).replies.c])] [7, 6, 5, 0, 1] 2 ⟨[(7, .p 1 0), (6, .p 0 0), (5, vI ((i : Nat) : Int)), (0, .v (.slice a.A a.n a.c)), (1, .v (.slice b.A b.n b.c))], [⟨83, [vI (a.at i).client, vI (a.at i).id, vI (a.at i).acked, vI (a.at i).last, .v (.slice (a.at i).replies.A (a.at i).replies.n (a.at i).replies.c)]⟩, ⟨83, [vI (b.at i).client, vI (b.at i).id, vI (b.at i).acked, vI (b.at i).last, .v (.slice (b.at i).replies.A (b.at i).replies.n (b.at i).replies.c)]⟩]⟩ [b.A = some b.ad, ((i : Nat) : Int) = ((i : Nat) : Int), i < b.n] [(b.ad.add (i * 5), [.int .i64 (b.at i).client, .int .i64 (b.at i).id, .int .i64 (b.at i).acked, .int .i64 (b.at i).last, .slice (b.at i).replies.A (b.at i).replies.n (b.at i).replies.c])] (by kernel_rfl) (oc (Sl.ok.own (s := b) (i := i) okb (by omega)) (oc rfl (oc (by omega) on))) (fun w hk hr => ⟨(Sl.rd.all (s := b) (i := i) (Sl.rd.kp hb hk) (by omega) rfl), trivial⟩) ?_
      refine l_nil (q_then_normal ?_)
      refine c_seq ?_
      refine c_seq ?_
      refine c_region ?_
      refine JL_run 6 [] [33, 7, 6, 5, 0, 1] 2 ⟨[(33, vB (!(decide ((a.at i).client = (b.at i).client)))), (7, .p 1 0), (6, .p 0 0), (5, vI ((i : Nat) : Int)), (0, .v (.slice a.A a.n a.c)), (1, .v (.slice b.A b.n b.c))], [⟨83, [vI (a.at i).client, vI (a.at i).id, vI (a.at i).acked, vI (a.at i).last, .v (.slice (a.at i).replies.A (a.at i).replies.n (a.at i).replies.c)]⟩, ⟨83, [vI (b.at i).client, vI (b.at i).id, vI (b.at i).acked, vI (b.at i).last, .v (.slice (b.at i).replies.A (b.at i).replies.n (b.at i).replies.c)]⟩]⟩ [] [] (by kernel_rfl) on wn ?_
      cases h3 : decide ((a.at i).client = (b.at i).client) with
      | true =>
        have h3 := of_decide_eq_true h3
        refine JL_run 7 [] [40, 7, 6, 5, 0, 1] 2 ⟨[(40, vB (!(decide ((a.at i).id = (b.at i).id)))), (7, .p 1 0), (6, .p 0 0), (5, vI ((i : Nat) : Int)), (0, .v (.slice a.A a.n a.c)), (1, .v (.slice b.A b.n b.c))], [⟨83, [vI (a.at i).client, vI (a.at i).id, vI (a.at i).acked, vI (a.at i).last, .v (.slice (a.at i).replies.A (a.at i).replies.n (a.at i).replies.c)]⟩, ⟨83, [vI (b.at i).client, vI (b.at i).id, vI (b.at i).acked, vI (b.at i).last, .v (.slice (b.at i).replies.A (b.at i).replies.n (b.at i).replies.c)]⟩]⟩ [] [] (by kernel_rfl) on wn ?_
        cases h4 : decide ((a.at i).id = (b.at i).id) with
        | true =>
          have h4 := of_decide_eq_true h4
          refine JL_run 7 [] [47, 7, 6, 5, 0, 1] 2 ⟨[(47, vB (!(decide ((a.at i).acked = (b.at i).acked)))), (7, .p 1 0), (6, .p 0 0), (5, vI ((i : Nat) : Int)), (0, .v (.slice a.A a.n a.c)), (1, .v (.slice b.A b.n b.c))], [⟨83, [vI (a.at i).client, vI (a.at i).id, vI (a.at i).acked, vI (a.at i).last, .v (.slice (a.at i).replies.A (a.at i).replies.n (a.at i).replies.c)]⟩, ⟨83, [vI (b.at i).client, vI (b.at i).id, vI (b.at i).acked, vI (b.at i).last, .v (.slice (b.at i).replies.A (b.at i).replies.n (b.at i).replies.c)]⟩]⟩ [] [] (by kernel_rfl) on wn ?_
          cases h5 : decide ((a.at i).acked = (b.at i).acked) with
          | true =>
            have h5 := of_decide_eq_true h5
            refine JL_run 7 [] [54, 7, 6, 5, 0, 1] 2 ⟨[(54, vB (!(decide ((a.at i).last = (b.at i).last)))), (7, .p 1 0), (6, .p 0 0), (5, vI ((i : Nat) : Int)), (0, .v (.slice a.A a.n a.c)), (1, .v (.slice b.A b.n b.c))], [⟨83, [vI (a.at i).client, vI (a.at i).id, vI (a.at i).acked, vI (a.at i).last, .v (.slice (a.at i).replies.A (a.at i).replies.n (a.at i).replies.c)]⟩, ⟨83, [vI (b.at i).client, vI (b.at i).id, vI (b.at i).acked, vI (b.at i).last, .v (.slice (b.at i).replies.A (b.at i).replies.n (b.at i).replies.c)]⟩]⟩ [] [] (by kernel_rfl) on wn ?_
            cases h6 : decide ((a.at i).last = (b.at i).last) with
            | true =>
              have h6 := of_decide_eq_true h6
              refine JL_run 8 [] [62, 7, 6, 5, 0, 1] 2 ⟨[(62, vB (!(decide ((((a.at i).replies.n : Nat) : Int) = (((b.at i).replies.n : Nat) : Int))))), (7, .p 1 0), (6, .p 0 0), (5, vI ((i : Nat) : Int)), (0, .v (.slice a.A a.n a.c)), (1, .v (.slice b.A b.n b.c))], [⟨83, [vI (a.at i).client, vI (a.at i).id, vI (a.at i).acked, vI (a.at i).last, .v (.slice (a.at i).replies.A (a.at i).replies.n (a.at i).replies.c)]⟩, ⟨83, [vI (b.at i).client, vI (b.at i).id, vI (b.at i).acked, vI (b.at i).last, .v (.slice (b.at i).replies.A (b.at i).replies.n (b.at i).replies.c)]⟩]⟩ [] [] (by kernel_rfl) on wn ?_
              refine l_nil (q_then_normal ?_)
              cases h7 : decide ((((a.at i).replies.n : Nat) : Int) = (((b.at i).replies.n : Nat) : Int)) with
              | true =>
                have h7 := of_decide_eq_true h7
                refine c_if false rfl ?_
                refine c_skip ?_
                refine q_then_normal ?_
                refine c_seq ?_
                refine c_region ?_
                refine JL_run 1 [] [8, 7, 6, 5, 0, 1] 2 ⟨[(8, vI 0), (7, .p 1 0), (6, .p 0 0), (5, vI ((i : Nat) : Int)), (0, .v (.slice a.A a.n a.c)), (1, .v (.slice b.A b.n b.c))], [⟨83, [vI (a.at i).client, vI (a.at i).id, vI (a.at i).acked, vI (a.at i).last, .v (.slice (a.at i).replies.A (a.at i).replies.n (a.at i).replies.c)]⟩, ⟨83, [vI (b.at i).client, vI (b.at i).id, vI (b.at i).acked, vI (b.at i).last, .v (.slice (b.at i).replies.A (b.at i).replies.n (b.at i).replies.c)]⟩]⟩ [] [] (by kernel_rfl) on wn ?_
                refine l_nil (q_then_normal ?_)
                refine c_block ?_
                refine c_loop (σ := Nat) (fun j => True) (fun j => (a.at i).replies.n - j) (fun j => []) (fun j => ⟨[(8, vI ((j : Nat) : Int)), (7, .p 1 0), (6, .p 0 0), (5, vI ((i : Nat) : Int)), (0, .v (.slice a.A a.n a.c)), (1, .v (.slice b.A b.n b.c))], [⟨83, [vI (a.at i).client, vI (a.at i).id, vI (a.at i).acked, vI (a.at i).last, .v (.slice (a.at i).replies.A (a.at i).replies.n (a.at i).replies.c)]⟩, ⟨83, [vI (b.at i).client, vI (b.at i).id, vI (b.at i).acked, vI (b.at i).last, .v (.slice (b.at i).replies.A (b.at i).replies.n (b.at i).replies.c)]⟩]⟩) 0 trivial (s_start [8, 7, 6, 5, 0, 1] 2 (by kernel_rfl) rfl) ?_
                rintro j _
                have hbt := xs_at q4 j
                have ncr := Sl.ok.nc (Sl.ok.at oka (show i < a.n by omega))
                refine c_seq ?_
                refine c_seq ?_
                refine c_region ?_
                refine JL_run 5 [] [67, 8, 7, 6, 5, 0, 1] 2 ⟨[(67, vB (decide (((j : Nat) : Int) < (((a.at i).replies.n : Nat) : Int)))), (8, vI ((j : Nat) : Int)), (7, .p 1 0), (6, .p 0 0), (5, vI ((i : Nat) : Int)), (0, .v (.slice a.A a.n a.c)), (1, .v (.slice b.A b.n b.c))], [⟨83, [vI (a.at i).client, vI (a.at i).id, vI (a.at i).acked, vI (a.at i).last, .v (.slice (a.at i).replies.A (a.at i).replies.n (a.at i).replies.c)]⟩, ⟨83, [vI (b.at i).client, vI (b.at i).id, vI (b.at i).acked, vI (b.at i).last, .v (.slice (b.at i).replies.A (b.at i).replies.n (b.at i).replies.c)]⟩]⟩ [] [] (by kernel_rfl) on wn ?_
                refine l_nil (q_then_normal ?_)
                cases h8 : decide (((j : Nat) : Int) < (((a.at i).replies.n : Nat) : Int)) with
                | true =>
                  have h8 := of_decide_eq_true h8
                  refine c_if true rfl ?_
                  refine c_skip ?_
                  refine q_then_normal ?_
                  refine c_seq ?_
                  refine c_block ?_
                  refine c_seq ?_
                  refine c_draw 11 [(0, false), (1, false), (2, false), (3, false), (4, false), (5, false), (6, false), (7, false), (8, false), (9, false), (10, false)] [] [] Try_mixed (by kernel_rfl) (pq_then (pq_block (pq_then (pq_then (pq_block (pq_block (pq_then (pq_then (pq_block (pq_then pq_body)))))))))) (List.Sublist.refl _) ?_
                  refine h_quiet [(3, .idx (a.at i).replies.ad j), (4, .ext [.int .i64 ((a.at i).replies.at j).seq, .int .i64 ((a.at i).replies.at j).reply.code, .int .i64 ((a.at i).replies.at j).reply.n, .string ((a.at i).replies.at j).reply.text]), (8, .idx (b.at i).replies.ad j), (9, .ext [.int .i64 ((b.at i).replies.at j).seq, .int .i64 ((b.at i).replies.at j).reply.code, .int .i64 ((b.at i).replies.at j).reply.n, .string ((b.at i).replies.at j).reply.text]), (10, .val (.bool (!((decide (((a.at i).replies.at j).seq = ((b.at i).replies.at j).seq)) && (((decide (((a.at i).replies.at j).reply.code = ((b.at i).replies.at j).reply.code)) && ((decide (((a.at i).replies.at j).reply.n = ((b.at i).replies.at j).reply.n)) && ((decide (((a.at i).replies.at j).reply.text = ((b.at i).replies.at j).reply.text)) && true))) && true)))))] 11 [(80, vB (!((decide (((a.at i).replies.at j).seq = ((b.at i).replies.at j).seq)) && (((decide (((a.at i).replies.at j).reply.code = ((b.at i).replies.at j).reply.code)) && ((decide (((a.at i).replies.at j).reply.n = ((b.at i).replies.at j).reply.n)) && ((decide (((a.at i).replies.at j).reply.text = ((b.at i).replies.at j).reply.text)) && true))) && true)))), (79, .v (.agg #[.int .i64 ((b.at i).replies.at j).seq, .int .i64 ((b.at i).replies.at j).reply.code, .int .i64 ((b.at i).replies.at j).reply.n, .string ((b.at i).replies.at j).reply.text])), (78, .v (.pointer (some ((b.at i).replies.ad.add (j * 4))))), (77, vI ((j : Nat) : Int)), (76, .v (.slice (b.at i).replies.A (b.at i).replies.n (b.at i).replies.c)), (75, .p 1 4), (74, .v (.agg #[.int .i64 ((a.at i).replies.at j).seq, .int .i64 ((a.at i).replies.at j).reply.code, .int .i64 ((a.at i).replies.at j).reply.n, .string ((a.at i).replies.at j).reply.text])), (73, .v (.pointer (some ((a.at i).replies.ad.add (j * 4))))), (72, vI ((j : Nat) : Int)), (71, .v (.slice (a.at i).replies.A (a.at i).replies.n (a.at i).replies.c)), (70, .p 0 4), (67, vB true), (8, vI ((j : Nat) : Int)), (7, .p 1 0), (6, .p 0 0), (5, vI ((i : Nat) : Int)), (0, .v (.slice a.A a.n a.c)), (1, .v (.slice b.A b.n b.c))] [(a.at i).replies.A = some (a.at i).replies.ad, ((j : Nat) : Int) = ((j : Nat) : Int), j < (a.at i).replies.n, (b.at i).replies.A = some (b.at i).replies.ad, ((j : Nat) : Int) = ((j : Nat) : Int), j < (b.at i).replies.n, ∀ w, (do eqGuard .neq 100 (.tmp 74) (.tmp 79) (.agg #[.int .i64 ((a.at i).replies.at j).seq, .int .i64 ((a.at i).replies.at j).reply.code, .int .i64 ((a.at i).replies.at j).reply.n, .string ((a.at i).replies.at j).reply.text]) (.agg #[.int .i64 ((b.at i).replies.at j).seq, .int .i64 ((b.at i).replies.at j).reply.code, .int .i64 ((b.at i).replies.at j).reply.n, .string ((b.at i).replies.at j).reply.text]); binOp .neq 100 (.agg #[.int .i64 ((a.at i).replies.at j).seq, .int .i64 ((a.at i).replies.at j).reply.code, .int .i64 ((a.at i).replies.at j).reply.n, .string ((a.at i).replies.at j).reply.text]) (.agg #[.int .i64 ((b.at i).replies.at j).seq, .int .i64 ((b.at i).replies.at j).reply.code, .int .i64 ((b.at i).replies.at j).reply.n, .string ((b.at i).replies.at j).reply.text]) : Sem Value).run Try.prog w = .ok (.bool (!((decide (((a.at i).replies.at j).seq = ((b.at i).replies.at j).seq)) && (((decide (((a.at i).replies.at j).reply.code = ((b.at i).replies.at j).reply.code)) && ((decide (((a.at i).replies.at j).reply.n = ((b.at i).replies.at j).reply.n)) && ((decide (((a.at i).replies.at j).reply.text = ((b.at i).replies.at j).reply.text)) && true))) && true)))) w] [((a.at i).replies.ad.add (j * 4), [.int .i64 ((a.at i).replies.at j).seq, .int .i64 ((a.at i).replies.at j).reply.code, .int .i64 ((a.at i).replies.at j).reply.n, .string ((a.at i).replies.at j).reply.text]), ((b.at i).replies.ad.add (j * 4), [.int .i64 ((b.at i).replies.at j).seq, .int .i64 ((b.at i).replies.at j).reply.code, .int .i64 ((b.at i).replies.at j).reply.n, .string ((b.at i).replies.at j).reply.text])] rfl rfl (by kernel_rfl) (oc (Sl.ok.own (s := (a.at i).replies) (i := j) (Sl.ok.at (s := a) (i := i) oka (by omega)) (by omega)) (oc rfl (oc (by omega) (oc (Sl.ok.own (s := (b.at i).replies) (i := j) (Sl.ok.at (s := b) (i := i) okb (by omega)) (by omega)) (oc rfl (oc (by omega) (oc (neq_agg (by kernel_rfl) (by kernel_rfl)) on))))))) (fun w hk hr => ⟨(Sl.rd.all (s := (a.at i).replies) (i := j) (Sl.rd.sub (s := a) (i := i) (Sl.rd.kp ha hk) (by omega)) (by omega) rfl), ⟨(Sl.rd.all (s := (b.at i).replies) (i := j) (Sl.rd.sub (s := b) (i := i) (Sl.rd.kp hb hk) (by omega)) (by omega) rfl), trivial⟩⟩) ?_
                  refine h_nil ?_
                  refine l_nil (q_then_normal ?_)
                  cases h9 : (decide (((a.at i).replies.at j).seq = ((b.at i).replies.at j).seq)) && (((decide (((a.at i).replies.at j).reply.code = ((b.at i).replies.at j).reply.code)) && ((decide (((a.at i).replies.at j).reply.n = ((b.at i).replies.at j).reply.n)) && ((decide (((a.at i).replies.at j).reply.text = ((b.at i).replies.at j).reply.text)) && true))) && true) with
                  | true =>
                    refine c_if false rfl ?_
                    refine c_skip ?_
                    refine q_block_normal (q_then_normal ?_)
                    refine c_region ?_
                    refine JL_run 3 [] [8, 7, 6, 5, 0, 1] 2 ⟨[(8, vI (((j : Nat) : Int) + 1)), (7, .p 1 0), (6, .p 0 0), (5, vI ((i : Nat) : Int)), (0, .v (.slice a.A a.n a.c)), (1, .v (.slice b.A b.n b.c))], [⟨83, [vI (a.at i).client, vI (a.at i).id, vI (a.at i).acked, vI (a.at i).last, .v (.slice (a.at i).replies.A (a.at i).replies.n (a.at i).replies.c)]⟩, ⟨83, [vI (b.at i).client, vI (b.at i).id, vI (b.at i).acked, vI (b.at i).last, .v (.slice (b.at i).replies.A (b.at i).replies.n (b.at i).replies.c)]⟩]⟩ [inR (((j : Nat) : Int) + 1)] [] (by kernel_rfl) (oc (by unfold inR; omega) on) wn ?_
                    refine l_nil (q_loop (x := (j : Nat)) ((j + 1) : Nat) trivial (by omega) (s_start [8, 7, 6, 5, 0, 1] 2 (by kernel_rfl) rfl))
                  | false =>
                    exfalso; first | omega | (rw [hbt] at h9; simp at h9)
                | false =>
                  have h8 := of_decide_eq_false h8
                  refine c_if false rfl ?_
                  refine c_exit ?_
                  refine q_then_exit (q_then_exit (q_block_hit (q_block_normal (q_then_normal ?_))))
                  refine c_region ?_
                  refine JL_run 3 [] [5, 0, 1] 0 ⟨[(5, vI (((i : Nat) : Int) + 1)), (0, .v (.slice a.A a.n a.c)), (1, .v (.slice b.A b.n b.c))], []⟩ [inR (((i : Nat) : Int) + 1)] [] (by kernel_rfl) (oc (by unfold inR; omega) on) wn ?_
                  refine l_nil (q_loop (x := (i : Nat)) ((i + 1) : Nat) trivial (by omega) (s_start [5, 0, 1] 0 (by kernel_rfl) rfl))
              | false =>
                have h7 := of_decide_eq_false h7
                exfalso; first | omega | (rw [hbt] at h7; simp at h7)
            | false =>
              have h6 := of_decide_eq_false h6
              exfalso; first | omega | (rw [hbt] at h6; simp at h6)
          | false =>
            have h5 := of_decide_eq_false h5
            exfalso; first | omega | (rw [hbt] at h5; simp at h5)
        | false =>
          have h4 := of_decide_eq_false h4
          exfalso; first | omega | (rw [hbt] at h4; simp at h4)
      | false =>
        have h3 := of_decide_eq_false h3
        exfalso; first | omega | (rw [hbt] at h3; simp at h3)
    | false =>
      have h2 := of_decide_eq_false h2
      refine c_if false rfl ?_
      refine c_exit ?_
      refine q_then_exit (q_then_exit (q_block_hit (q_then_normal ?_)))
      refine c_seq ?_
      refine c_region ?_
      refine JL_run 1 [] [4] 0 ⟨[(4, vB true)], []⟩ [] [] (by kernel_rfl) on wn ?_
      refine l_nil (q_then_normal ?_)
      refine c_ret ?_
      refine q_ret (.inl rfl) [vB true] rfl (fun bs w hS => ?_)
      exact ⟨rfl, hS.kp⟩
  | false =>
    have h1 := of_decide_eq_false h1
    exfalso; first | omega | (rw [hbt] at h1; simp at h1)

theorem same_pairs {B B' : Nat → Prop} (a b : Sl DPair) (w : World) (ha : a.rd B w) (hb : b.rd B' w) (he : a.xs = b.xs) : Calls Try.prog 45 #[.slice a.A a.n a.c, .slice b.A b.n b.c] w fun e w' => e = .returned (.bool true) ∧ Kp [] w w' := by
  have oka := Sl.rd.ok ha
  have okb := Sl.rd.ok hb
  have hn := xs_n he
  have nca := Sl.ok.nc oka
  refine calls_J0 26 Try.func45 rfl rfl [.slice a.A a.n a.c, .slice b.A b.n b.c] rfl ?_
  refine c_seq ?_
  refine c_region ?_
  refine JL_run 1 [] [0, 1] 0 ⟨[(0, .v (.slice a.A a.n a.c)), (1, .v (.slice b.A b.n b.c))], []⟩ [] [] (by kernel_rfl) on wn ?_
  refine l_nil (q_then_normal ?_)
  refine c_seq ?_
  refine c_seq ?_
  refine c_region ?_
  refine JL_run 5 [] [10, 0, 1] 0 ⟨[(10, vB (!(decide (((a.n : Nat) : Int) = ((b.n : Nat) : Int))))), (0, .v (.slice a.A a.n a.c)), (1, .v (.slice b.A b.n b.c))], []⟩ [] [] (by kernel_rfl) on wn ?_
  refine l_nil (q_then_normal ?_)
  cases h1 : decide (((a.n : Nat) : Int) = ((b.n : Nat) : Int)) with
  | true =>
    have h1 := of_decide_eq_true h1
    refine c_if false rfl ?_
    refine c_skip ?_
    refine q_then_normal ?_
    refine c_seq ?_
    refine c_seq ?_
    refine c_region ?_
    refine JL_run 1 [] [5, 0, 1] 0 ⟨[(5, vI 0), (0, .v (.slice a.A a.n a.c)), (1, .v (.slice b.A b.n b.c))], []⟩ [] [] (by kernel_rfl) on wn ?_
    refine l_nil (q_then_normal ?_)
    refine c_block ?_
    refine c_loop (σ := Nat) (fun i => True) (fun i => a.n - i) (fun i => []) (fun i => ⟨[(5, vI ((i : Nat) : Int)), (0, .v (.slice a.A a.n a.c)), (1, .v (.slice b.A b.n b.c))], []⟩) 0 trivial (s_start [5, 0, 1] 0 (by kernel_rfl) rfl) ?_
    rintro i _
    have hat := xs_at he i
    refine c_seq ?_
    refine c_seq ?_
    refine c_region ?_
    refine JL_run 4 [] [14, 5, 0, 1] 0 ⟨[(14, vB (decide (((i : Nat) : Int) < ((a.n : Nat) : Int)))), (5, vI ((i : Nat) : Int)), (0, .v (.slice a.A a.n a.c)), (1, .v (.slice b.A b.n b.c))], []⟩ [] [] (by kernel_rfl) on wn ?_
    refine l_nil (q_then_normal ?_)
    cases h2 : decide (((i : Nat) : Int) < ((a.n : Nat) : Int)) with
    | true =>
      have h2 := of_decide_eq_true h2
      refine c_if true rfl ?_
      refine c_skip ?_
      refine q_then_normal ?_
      refine c_seq ?_
      refine c_block ?_
      refine c_seq ?_
      refine c_draw 9 [(0, false), (1, false), (2, false), (3, false), (4, false), (5, false), (6, false), (7, false), (8, false)] [] [] Try_mixed (by kernel_rfl) (pq_then (pq_block (pq_then (pq_then (pq_block (pq_then pq_body)))))) (List.Sublist.refl _) ?_
      refine h_quiet [(2, .idx a.ad i), (3, .ext [.string (a.at i).name, .string (a.at i).value, .int .i64 (a.at i).version]), (6, .idx b.ad i), (7, .ext [.string (b.at i).name, .string (b.at i).value, .int .i64 (b.at i).version]), (8, .val (.bool (!((decide ((a.at i).name = (b.at i).name)) && ((decide ((a.at i).value = (b.at i).value)) && ((decide ((a.at i).version = (b.at i).version)) && true))))))] 9 [(25, vB (!((decide ((a.at i).name = (b.at i).name)) && ((decide ((a.at i).value = (b.at i).value)) && ((decide ((a.at i).version = (b.at i).version)) && true))))), (24, .v (.agg #[.string (b.at i).name, .string (b.at i).value, .int .i64 (b.at i).version])), (23, .v (.pointer (some (b.ad.add (i * 3))))), (22, vI ((i : Nat) : Int)), (21, .v (.slice b.A b.n b.c)), (20, .v (.agg #[.string (a.at i).name, .string (a.at i).value, .int .i64 (a.at i).version])), (19, .v (.pointer (some (a.ad.add (i * 3))))), (18, vI ((i : Nat) : Int)), (17, .v (.slice a.A a.n a.c)), (14, vB true), (5, vI ((i : Nat) : Int)), (0, .v (.slice a.A a.n a.c)), (1, .v (.slice b.A b.n b.c))] [a.A = some a.ad, ((i : Nat) : Int) = ((i : Nat) : Int), i < a.n, b.A = some b.ad, ((i : Nat) : Int) = ((i : Nat) : Int), i < b.n, ∀ w, (do eqGuard .neq 75 (.tmp 20) (.tmp 24) (.agg #[.string (a.at i).name, .string (a.at i).value, .int .i64 (a.at i).version]) (.agg #[.string (b.at i).name, .string (b.at i).value, .int .i64 (b.at i).version]); binOp .neq 75 (.agg #[.string (a.at i).name, .string (a.at i).value, .int .i64 (a.at i).version]) (.agg #[.string (b.at i).name, .string (b.at i).value, .int .i64 (b.at i).version]) : Sem Value).run Try.prog w = .ok (.bool (!((decide ((a.at i).name = (b.at i).name)) && ((decide ((a.at i).value = (b.at i).value)) && ((decide ((a.at i).version = (b.at i).version)) && true))))) w] [(a.ad.add (i * 3), [.string (a.at i).name, .string (a.at i).value, .int .i64 (a.at i).version]), (b.ad.add (i * 3), [.string (b.at i).name, .string (b.at i).value, .int .i64 (b.at i).version])] rfl rfl (by kernel_rfl) (oc (Sl.ok.own (s := a) (i := i) oka (by omega)) (oc rfl (oc (by omega) (oc (Sl.ok.own (s := b) (i := i) okb (by omega)) (oc rfl (oc (by omega) (oc (neq_agg (by kernel_rfl) (by kernel_rfl)) on))))))) (fun w hk hr => ⟨(Sl.rd.all (s := a) (i := i) (Sl.rd.kp ha hk) (by omega) rfl), ⟨(Sl.rd.all (s := b) (i := i) (Sl.rd.kp hb hk) (by omega) rfl), trivial⟩⟩) ?_
      refine h_nil ?_
      refine l_nil (q_then_normal ?_)
      cases h3 : (decide ((a.at i).name = (b.at i).name)) && ((decide ((a.at i).value = (b.at i).value)) && ((decide ((a.at i).version = (b.at i).version)) && true)) with
      | true =>
        refine c_if false rfl ?_
        refine c_skip ?_
        refine q_block_normal (q_then_normal ?_)
        refine c_region ?_
        refine JL_run 3 [] [5, 0, 1] 0 ⟨[(5, vI (((i : Nat) : Int) + 1)), (0, .v (.slice a.A a.n a.c)), (1, .v (.slice b.A b.n b.c))], []⟩ [inR (((i : Nat) : Int) + 1)] [] (by kernel_rfl) (oc (by unfold inR; omega) on) wn ?_
        refine l_nil (q_loop (x := (i : Nat)) ((i + 1) : Nat) trivial (by omega) (s_start [5, 0, 1] 0 (by kernel_rfl) rfl))
      | false =>
        exfalso; simp [xs_at he i] at h3
    | false =>
      have h2 := of_decide_eq_false h2
      refine c_if false rfl ?_
      refine c_exit ?_
      refine q_then_exit (q_then_exit (q_block_hit (q_then_normal ?_)))
      refine c_seq ?_
      refine c_region ?_
      refine JL_run 1 [] [4] 0 ⟨[(4, vB true)], []⟩ [] [] (by kernel_rfl) on wn ?_
      refine l_nil (q_then_normal ?_)
      refine c_ret ?_
      refine q_ret (.inl rfl) [vB true] rfl (fun bs w hS => ?_)
      exact ⟨rfl, hS.kp⟩
  | false =>
    have h1 := of_decide_eq_false h1
    exfalso; first | omega | exact h1 (xs_at he i)

theorem same_state {B B' : Nat → Prop} (a b : CState) (w : World) (ha : Rds.sub B w a) (hb : Rds.sub B' w b) (he : a.abs = b.abs) : Calls Try.prog 16 #[.agg #[.int .i64 a.index, .slice a.locks.A a.locks.n a.locks.c, .slice a.pairs.A a.pairs.n a.pairs.c, .slice a.sessions.A a.sessions.n a.sessions.c], .agg #[.int .i64 b.index, .slice b.locks.A b.locks.n b.locks.c, .slice b.pairs.A b.pairs.n b.pairs.c, .slice b.sessions.A b.sessions.n b.sessions.c]] w fun e w' => e = .returned (.bool true) ∧ Kp [] w w' := by
  have oka := Rds.okof ha
  have okb := Rds.okof hb
  refine calls_J0 31 Try.func16 rfl rfl [.agg #[.int .i64 a.index, .slice a.locks.A a.locks.n a.locks.c, .slice a.pairs.A a.pairs.n a.pairs.c, .slice a.sessions.A a.sessions.n a.sessions.c], .agg #[.int .i64 b.index, .slice b.locks.A b.locks.n b.locks.c, .slice b.pairs.A b.pairs.n b.pairs.c, .slice b.sessions.A b.sessions.n b.sessions.c]] rfl ?_
  refine c_seq ?_
  refine c_region ?_
  refine JL_run 3 [] [3, 2] 2 ⟨[(3, .p 1 0), (2, .p 0 0)], [⟨26, [vI a.index, .v (.slice a.locks.A a.locks.n a.locks.c), .v (.slice a.pairs.A a.pairs.n a.pairs.c), .v (.slice a.sessions.A a.sessions.n a.sessions.c)]⟩, ⟨26, [vI b.index, .v (.slice b.locks.A b.locks.n b.locks.c), .v (.slice b.pairs.A b.pairs.n b.pairs.c), .v (.slice b.sessions.A b.sessions.n b.sessions.c)]⟩]⟩ [] [] (by kernel_rfl) on wn ?_
  refine l_nil (q_then_normal ?_)
  refine c_seq ?_
  refine c_region ?_
  refine JL_run 6 [] [10, 3, 2] 2 ⟨[(10, vB (decide (a.index = b.index))), (3, .p 1 0), (2, .p 0 0)], [⟨26, [vI a.index, .v (.slice a.locks.A a.locks.n a.locks.c), .v (.slice a.pairs.A a.pairs.n a.pairs.c), .v (.slice a.sessions.A a.sessions.n a.sessions.c)]⟩, ⟨26, [vI b.index, .v (.slice b.locks.A b.locks.n b.locks.c), .v (.slice b.pairs.A b.pairs.n b.pairs.c), .v (.slice b.sessions.A b.sessions.n b.sessions.c)]⟩]⟩ [] [] (by kernel_rfl) on wn ?_
  cases h1 : decide (a.index = b.index) with
  | true =>
    have h1 := of_decide_eq_true h1
    refine JL_run 4 [] [14, 12, 10, 3, 2] 2 ⟨[(14, .v (.slice b.locks.A b.locks.n b.locks.c)), (12, .v (.slice a.locks.A a.locks.n a.locks.c)), (10, vB true), (3, .p 1 0), (2, .p 0 0)], [⟨26, [vI a.index, .v (.slice a.locks.A a.locks.n a.locks.c), .v (.slice a.pairs.A a.pairs.n a.pairs.c), .v (.slice a.sessions.A a.sessions.n a.sessions.c)]⟩, ⟨26, [vI b.index, .v (.slice b.locks.A b.locks.n b.locks.c), .v (.slice b.pairs.A b.pairs.n b.pairs.c), .v (.slice b.sessions.A b.sessions.n b.sessions.c)]⟩]⟩ [] [] (by kernel_rfl) on wn ?_
    refine l_pure 44 [] [.v (.slice a.locks.A a.locks.n a.locks.c), .v (.slice b.locks.A b.locks.n b.locks.c)] (.bool true) Try.call44 rfl rfl rfl rfl (fun bs w hS => same_locks _ _ w (And.left (Rds.kp ha hS.kp)) (And.left (Rds.kp hb hS.kp)) (congrArg DState.locks he)) ?_
    refine JL_run 6 [] [21, 19, 17, 3, 2] 2 ⟨[(21, .v (.slice b.pairs.A b.pairs.n b.pairs.c)), (19, .v (.slice a.pairs.A a.pairs.n a.pairs.c)), (17, vB true), (3, .p 1 0), (2, .p 0 0)], [⟨26, [vI a.index, .v (.slice a.locks.A a.locks.n a.locks.c), .v (.slice a.pairs.A a.pairs.n a.pairs.c), .v (.slice a.sessions.A a.sessions.n a.sessions.c)]⟩, ⟨26, [vI b.index, .v (.slice b.locks.A b.locks.n b.locks.c), .v (.slice b.pairs.A b.pairs.n b.pairs.c), .v (.slice b.sessions.A b.sessions.n b.sessions.c)]⟩]⟩ [] [] (by kernel_rfl) on wn ?_
    refine l_pure 45 [] [.v (.slice a.pairs.A a.pairs.n a.pairs.c), .v (.slice b.pairs.A b.pairs.n b.pairs.c)] (.bool true) Try.call45 rfl rfl rfl rfl (fun bs w hS => same_pairs _ _ w (And.left (And.right (Rds.kp ha hS.kp))) (And.left (And.right (Rds.kp hb hS.kp))) (congrArg DState.pairs he)) ?_
    refine JL_run 6 [] [28, 26, 24] 0 ⟨[(28, .v (.slice b.sessions.A b.sessions.n b.sessions.c)), (26, .v (.slice a.sessions.A a.sessions.n a.sessions.c)), (24, vB true)], []⟩ [] [] (by kernel_rfl) on wn ?_
    refine l_pure 38 [] [.v (.slice a.sessions.A a.sessions.n a.sessions.c), .v (.slice b.sessions.A b.sessions.n b.sessions.c)] (.bool true) Try.call38 rfl rfl rfl rfl (fun bs w hS => same_sessions _ _ w (And.right (And.right (Rds.kp ha hS.kp))) (And.right (And.right (Rds.kp hb hS.kp))) (congrArg DState.sessions he)) ?_
    refine JL_run 2 [] [4] 0 ⟨[(4, vB true)], []⟩ [] [] (by kernel_rfl) on wn ?_
    refine l_nil (q_then_normal ?_)
    refine c_ret ?_
    refine q_ret (.inl rfl) [vB true] rfl (fun bs w hS => ?_)
    exact ⟨rfl, hS.kp⟩
  | false =>
    have h1 := of_decide_eq_false h1
    exact absurd (congrArg (fun q => q.index) he) h1

theorem machine_Copy {B : Nat → Prop} (x : CState) (w : World) (hx : Rds.sub B w x) (hsm : Rds.small x) : Calls Try.prog 15 #[.agg #[.int .i64 x.index, .slice x.locks.A x.locks.n x.locks.c, .slice x.pairs.A x.pairs.n x.pairs.c, .slice x.sessions.A x.sessions.n x.sessions.c]] w fun e w' => ∃ y : CState, e = .returned (y.val) ∧ y.abs = x.abs ∧ FreshS w w' y := by
  have okx := Rds.okof hx
  refine calls_J0 15 Try.func15 rfl rfl [.agg #[.int .i64 x.index, .slice x.locks.A x.locks.n x.locks.c, .slice x.pairs.A x.pairs.n x.pairs.c, .slice x.sessions.A x.sessions.n x.sessions.c]] rfl ?_
  refine c_seq ?_
  refine c_region ?_
  refine JL_run 2 [] [2, 1] 2 ⟨[(2, .p 1 0), (1, .p 0 0)], [⟨26, [vI x.index, .v (.slice x.locks.A x.locks.n x.locks.c), .v (.slice x.pairs.A x.pairs.n x.pairs.c), .v (.slice x.sessions.A x.sessions.n x.sessions.c)]⟩, ⟨26, [vI 0, .v (.slice none 0 0), .v (.slice none 0 0), .v (.slice none 0 0)]⟩]⟩ [] [] (by kernel_rfl) on wn ?_
  refine l_nil (q_then_normal ?_)
  refine c_seq ?_
  refine c_draw 12 [(0, false), (1, false), (2, false), (3, false), (5, false), (6, false), (8, false), (9, false), (4, true), (7, true), (10, true), (11, false)] [] [] Try_mixed (by kernel_rfl) (pq_then pq_body) (List.Sublist.refl _) ?_
  refine h_quiet [] 8 [(12, .v (.slice x.sessions.A x.sessions.n x.sessions.c)), (11, .p 0 3), (9, .v (.slice x.pairs.A x.pairs.n x.pairs.c)), (8, .p 0 2), (6, .v (.slice x.locks.A x.locks.n x.locks.c)), (5, .p 0 1), (4, vI x.index), (3, .p 0 0), (2, .p 1 0), (1, .p 0 0)] [] [] rfl rfl (by kernel_rfl) on wn ?_
  refine h_sub_call (σ := Sl CLock) 41 [] [.v (.slice x.locks.A x.locks.n x.locks.c)] (fun y1 => .slice y1.A y1.n y1.c) (fun y1 => y1.xs.map CLock.abs = x.locks.xs.map CLock.abs) rfl Try.call41 rfl rfl rfl rfl (fun bs w hS => lock_CopyS x.locks w (And.left (Rds.kp hx hS.kp)) (And.left hsm)) (fun bs0 bs fp y w hp hl hS => hS.down hp hl rfl (le_same (le_same le_nil)) (.cons _ (List.Sublist.refl _))) ?_
  rintro fp1 y1 hF1 hok1
  refine h_freshF (σ := Sl DPair) 42 [] [.v (.slice x.pairs.A x.pairs.n x.pairs.c)] (fun y2 => .slice y2.A y2.n y2.c) (fun y2 => y2.xs = x.pairs.xs) (fun y2 => rowA 75 y2.A y2.c (y2.xs : List DPair)) rfl Try.call42 rfl rfl rfl rfl (fun bs w hS => clone_Pair x.pairs w (And.left (And.right (Rds.kp hx hS.kp))) (And.left (And.left (And.right hsm)))) (fun bs0 bs y w hp hl hS => hS.down hp hl rfl (le_same (le_same le_nil)) (.cons _ (.cons _ (List.Sublist.refl _)))) ?_
  rintro y2 hF2
  refine h_sub_call (σ := Sl CSession) 43 [] [.v (.slice x.sessions.A x.sessions.n x.sessions.c)] (fun y4 => .slice y4.A y4.n y4.c) (fun y4 => y4.xs.map CSession.abs = x.sessions.xs.map CSession.abs) rfl Try.call43 rfl rfl rfl rfl (fun bs w hS => session_CopyS x.sessions w (And.right (And.right (Rds.kp hx hS.kp))) (And.right (And.right hsm))) (fun bs0 bs fp y w hp hl hS => hS.down hp hl rfl (le_same (le_same le_nil)) (.cons _ (.cons _ (.cons _ (List.Sublist.refl _))))) ?_
  rintro fp4 y4 hF4 hok4
  refine h_quiet [] 1 [(14, .v (.agg #[.int .i64 x.index, .slice y1.A y1.n y1.c, .slice y2.A y2.n y2.c, .slice y4.A y4.n y4.c])), (13, .v (.slice y4.A y4.n y4.c)), (10, .v (.slice y2.A y2.n y2.c)), (7, .v (.slice y1.A y1.n y1.c)), (12, .v (.slice x.sessions.A x.sessions.n x.sessions.c)), (11, .p 0 3), (9, .v (.slice x.pairs.A x.pairs.n x.pairs.c)), (8, .p 0 2), (6, .v (.slice x.locks.A x.locks.n x.locks.c)), (5, .p 0 1), (4, vI x.index), (3, .p 0 0), (2, .p 1 0), (1, .p 0 0)] [] [] rfl rfl (by kernel_rfl) on wn ?_
  refine h_nil ?_
  refine JL_run 1 [] [2] 2 ⟨[(2, .p 1 0)], [⟨26, [vI x.index, .v (.slice x.locks.A x.locks.n x.locks.c), .v (.slice x.pairs.A x.pairs.n x.pairs.c), .v (.slice x.sessions.A x.sessions.n x.sessions.c)]⟩, ⟨26, [vI x.index, .v (.slice y1.A y1.n y1.c), .v (.slice y2.A y2.n y2.c), .v (.slice y4.A y4.n y4.c)]⟩]⟩ [] [] (by kernel_rfl) on wn ?_
  refine l_nil (q_then_normal ?_)
  refine c_ret ?_
  refine q_ret (.inl rfl) [.v (.agg #[.int .i64 x.index, .slice y1.A y1.n y1.c, .slice y2.A y2.n y2.c, .slice y4.A y4.n y4.c])] rfl (fun bs w hS => ?_)
  have hab : CState.abs (⟨x.index, y1, y2, y4⟩ : CState) = CState.abs x := by simp [CState.abs, *]
  exact ⟨(⟨x.index, y1, y2, y4⟩ : CState), rfl, hab, hS.outS (y := (⟨x.index, y1, y2, y4⟩ : CState)) ⟨(allR_sub (.tail _ (.tail _ (.head _))) (hS.res _ (.tail _ (.tail _ (.head _))))), (allR_row (.tail _ (.head _)) (hS.res _ (.tail _ (.head _))) (fun z hz => Sl.rd.mem (And.left (And.right (Rds.kp hx hS.kp))) z (hF2 ▸ hz))), (allR_sub (.head _) (hS.res _ (.head _)))⟩⟩

theorem replica_Copy {B : Nat → Prop} (x : CReplica) (w : World) (hx : Rds.sub B w x) (hsm : Rds.small x) : Calls Try.prog 23 #[.agg #[.int .i64 x.log.base, .slice x.log.entries.A x.log.entries.n x.log.entries.c, .string x.snap, .int .i64 x.state.index, .slice x.state.locks.A x.state.locks.n x.state.locks.c, .slice x.state.pairs.A x.state.pairs.n x.state.pairs.c, .slice x.state.sessions.A x.state.sessions.n x.state.sessions.c]] w fun e w' => ∃ y : CReplica, e = .returned (y.val) ∧ y.abs = x.abs ∧ FreshS w w' y := by
  have okx := Rds.okof hx
  refine calls_J0 12 Try.func23 rfl rfl [.agg #[.int .i64 x.log.base, .slice x.log.entries.A x.log.entries.n x.log.entries.c, .string x.snap, .int .i64 x.state.index, .slice x.state.locks.A x.state.locks.n x.state.locks.c, .slice x.state.pairs.A x.state.pairs.n x.state.pairs.c, .slice x.state.sessions.A x.state.sessions.n x.state.sessions.c]] rfl ?_
  refine c_seq ?_
  refine c_region ?_
  refine JL_run 2 [] [2, 1] 2 ⟨[(2, .p 1 0), (1, .p 0 0)], [⟨44, [vI x.log.base, .v (.slice x.log.entries.A x.log.entries.n x.log.entries.c), vS x.snap, vI x.state.index, .v (.slice x.state.locks.A x.state.locks.n x.state.locks.c), .v (.slice x.state.pairs.A x.state.pairs.n x.state.pairs.c), .v (.slice x.state.sessions.A x.state.sessions.n x.state.sessions.c)]⟩, ⟨44, [vI 0, .v (.slice none 0 0), vS emp, vI 0, .v (.slice none 0 0), .v (.slice none 0 0), .v (.slice none 0 0)]⟩]⟩ [] [] (by kernel_rfl) on wn ?_
  refine l_nil (q_then_normal ?_)
  refine c_seq ?_
  refine c_draw 9 [(0, false), (1, false), (3, false), (4, false), (5, false), (6, false), (2, true), (7, true), (8, false)] [] [] Try_mixed (by kernel_rfl) (pq_then pq_body) (List.Sublist.refl _) ?_
  refine h_quiet [] 6 [(9, .v (.agg #[.int .i64 x.state.index, .slice x.state.locks.A x.state.locks.n x.state.locks.c, .slice x.state.pairs.A x.state.pairs.n x.state.pairs.c, .slice x.state.sessions.A x.state.sessions.n x.state.sessions.c])), (8, .p 0 3), (7, vS x.snap), (6, .p 0 2), (4, .v (.agg #[.int .i64 x.log.base, .slice x.log.entries.A x.log.entries.n x.log.entries.c])), (3, .p 0 0), (2, .p 1 0), (1, .p 0 0)] [] [] rfl rfl (by kernel_rfl) on wn ?_
  refine h_sub_call (σ := CLog) 53 [] [.v (.agg #[.int .i64 x.log.base, .slice x.log.entries.A x.log.entries.n x.log.entries.c])] (fun y1 => .agg #[.int .i64 y1.base, .slice y1.entries.A y1.entries.n y1.entries.c]) (fun y1 => y1.abs = x.log.abs) rfl Try.call53 rfl rfl rfl rfl (fun bs w hS => log_Copy x.log w (And.left (And.right (Rds.kp hx hS.kp))) (And.left hsm)) (fun bs0 bs fp y w hp hl hS => hS.down hp hl rfl (le_same (le_same le_nil)) (.cons _ (List.Sublist.refl _))) ?_
  rintro fp1 y1 hF1 hok1
  refine h_sub_call (σ := CState) 15 [] [.v (.agg #[.int .i64 x.state.index, .slice x.state.locks.A x.state.locks.n x.state.locks.c, .slice x.state.pairs.A x.state.pairs.n x.state.pairs.c, .slice x.state.sessions.A x.state.sessions.n x.state.sessions.c])] (fun y2 => .agg #[.int .i64 y2.index, .slice y2.locks.A y2.locks.n y2.locks.c, .slice y2.pairs.A y2.pairs.n y2.pairs.c, .slice y2.sessions.A y2.sessions.n y2.sessions.c]) (fun y2 => y2.abs = x.state.abs) rfl Try.call15 rfl rfl rfl rfl (fun bs w hS => machine_Copy x.state w ⟨(And.left (And.right (And.right (Rds.kp hx hS.kp)))), (And.left (And.right (And.right (And.right (Rds.kp hx hS.kp))))), (And.right (And.right (And.right (And.right (Rds.kp hx hS.kp)))))⟩ ⟨(And.left (And.right hsm)), (And.left (And.right (And.right hsm))), (And.right (And.right (And.right hsm)))⟩) (fun bs0 bs fp y w hp hl hS => hS.down hp hl rfl (le_same (le_same le_nil)) (.cons _ (.cons _ (List.Sublist.refl _)))) ?_
  rintro fp2 y2 hF2 hok2
  refine h_quiet [] 1 [(11, .v (.agg #[.int .i64 y1.base, .slice y1.entries.A y1.entries.n y1.entries.c, .string x.snap, .int .i64 y2.index, .slice y2.locks.A y2.locks.n y2.locks.c, .slice y2.pairs.A y2.pairs.n y2.pairs.c, .slice y2.sessions.A y2.sessions.n y2.sessions.c])), (10, .v (.agg #[.int .i64 y2.index, .slice y2.locks.A y2.locks.n y2.locks.c, .slice y2.pairs.A y2.pairs.n y2.pairs.c, .slice y2.sessions.A y2.sessions.n y2.sessions.c])), (5, .v (.agg #[.int .i64 y1.base, .slice y1.entries.A y1.entries.n y1.entries.c])), (9, .v (.agg #[.int .i64 x.state.index, .slice x.state.locks.A x.state.locks.n x.state.locks.c, .slice x.state.pairs.A x.state.pairs.n x.state.pairs.c, .slice x.state.sessions.A x.state.sessions.n x.state.sessions.c])), (8, .p 0 3), (7, vS x.snap), (6, .p 0 2), (4, .v (.agg #[.int .i64 x.log.base, .slice x.log.entries.A x.log.entries.n x.log.entries.c])), (3, .p 0 0), (2, .p 1 0), (1, .p 0 0)] [] [] rfl rfl (by kernel_rfl) on wn ?_
  refine h_nil ?_
  refine JL_run 1 [] [2] 2 ⟨[(2, .p 1 0)], [⟨44, [vI x.log.base, .v (.slice x.log.entries.A x.log.entries.n x.log.entries.c), vS x.snap, vI x.state.index, .v (.slice x.state.locks.A x.state.locks.n x.state.locks.c), .v (.slice x.state.pairs.A x.state.pairs.n x.state.pairs.c), .v (.slice x.state.sessions.A x.state.sessions.n x.state.sessions.c)]⟩, ⟨44, [vI y1.base, .v (.slice y1.entries.A y1.entries.n y1.entries.c), vS x.snap, vI y2.index, .v (.slice y2.locks.A y2.locks.n y2.locks.c), .v (.slice y2.pairs.A y2.pairs.n y2.pairs.c), .v (.slice y2.sessions.A y2.sessions.n y2.sessions.c)]⟩]⟩ [] [] (by kernel_rfl) on wn ?_
  refine l_nil (q_then_normal ?_)
  refine c_ret ?_
  refine q_ret (.inl rfl) [.v (.agg #[.int .i64 y1.base, .slice y1.entries.A y1.entries.n y1.entries.c, .string x.snap, .int .i64 y2.index, .slice y2.locks.A y2.locks.n y2.locks.c, .slice y2.pairs.A y2.pairs.n y2.pairs.c, .slice y2.sessions.A y2.sessions.n y2.sessions.c])] rfl (fun bs w hS => ?_)
  have hab : CReplica.abs (⟨⟨y1.base, y1.entries⟩, x.snap, ⟨y2.index, y2.locks, y2.pairs, y2.sessions⟩⟩ : CReplica) = CReplica.abs x := by simp [CReplica.abs, *]
  exact ⟨(⟨⟨y1.base, y1.entries⟩, x.snap, ⟨y2.index, y2.locks, y2.pairs, y2.sessions⟩⟩ : CReplica), rfl, hab, hS.outS (y := (⟨⟨y1.base, y1.entries⟩, x.snap, ⟨y2.index, y2.locks, y2.pairs, y2.sessions⟩⟩ : CReplica)) ⟨(And.left okx), (allR_sub (y := y1) (.tail _ (.head _)) (hS.res _ (.tail _ (.head _)))), (And.left (allR_sub (y := y2) (.head _) (hS.res _ (.head _)))), (And.left (And.right (allR_sub (y := y2) (.head _) (hS.res _ (.head _))))), (And.right (And.right (allR_sub (y := y2) (.head _) (hS.res _ (.head _)))))⟩⟩

theorem same_replica {B B' : Nat → Prop} (a b : CReplica) (w : World) (ha : Rds.sub B w a) (hb : Rds.sub B' w b) (he : a.abs = b.abs) : Calls Try.prog 24 #[.agg #[.int .i64 a.log.base, .slice a.log.entries.A a.log.entries.n a.log.entries.c, .string a.snap, .int .i64 a.state.index, .slice a.state.locks.A a.state.locks.n a.state.locks.c, .slice a.state.pairs.A a.state.pairs.n a.state.pairs.c, .slice a.state.sessions.A a.state.sessions.n a.state.sessions.c], .agg #[.int .i64 b.log.base, .slice b.log.entries.A b.log.entries.n b.log.entries.c, .string b.snap, .int .i64 b.state.index, .slice b.state.locks.A b.state.locks.n b.state.locks.c, .slice b.state.pairs.A b.state.pairs.n b.state.pairs.c, .slice b.state.sessions.A b.state.sessions.n b.state.sessions.c]] w fun e w' => e = .returned (.bool true) ∧ Kp [] w w' := by
  have oka := Rds.okof ha
  have okb := Rds.okof hb
  refine calls_J0 24 Try.func24 rfl rfl [.agg #[.int .i64 a.log.base, .slice a.log.entries.A a.log.entries.n a.log.entries.c, .string a.snap, .int .i64 a.state.index, .slice a.state.locks.A a.state.locks.n a.state.locks.c, .slice a.state.pairs.A a.state.pairs.n a.state.pairs.c, .slice a.state.sessions.A a.state.sessions.n a.state.sessions.c], .agg #[.int .i64 b.log.base, .slice b.log.entries.A b.log.entries.n b.log.entries.c, .string b.snap, .int .i64 b.state.index, .slice b.state.locks.A b.state.locks.n b.state.locks.c, .slice b.state.pairs.A b.state.pairs.n b.state.pairs.c, .slice b.state.sessions.A b.state.sessions.n b.state.sessions.c]] rfl ?_
  refine c_seq ?_
  refine c_region ?_
  refine JL_run 3 [] [3, 2] 2 ⟨[(3, .p 1 0), (2, .p 0 0)], [⟨44, [vI a.log.base, .v (.slice a.log.entries.A a.log.entries.n a.log.entries.c), vS a.snap, vI a.state.index, .v (.slice a.state.locks.A a.state.locks.n a.state.locks.c), .v (.slice a.state.pairs.A a.state.pairs.n a.state.pairs.c), .v (.slice a.state.sessions.A a.state.sessions.n a.state.sessions.c)]⟩, ⟨44, [vI b.log.base, .v (.slice b.log.entries.A b.log.entries.n b.log.entries.c), vS b.snap, vI b.state.index, .v (.slice b.state.locks.A b.state.locks.n b.state.locks.c), .v (.slice b.state.pairs.A b.state.pairs.n b.state.pairs.c), .v (.slice b.state.sessions.A b.state.sessions.n b.state.sessions.c)]⟩]⟩ [] [] (by kernel_rfl) on wn ?_
  refine l_nil (q_then_normal ?_)
  refine c_seq ?_
  refine c_region ?_
  refine JL_run 6 [] [10, 3, 2] 2 ⟨[(10, vB (decide (a.snap = b.snap))), (3, .p 1 0), (2, .p 0 0)], [⟨44, [vI a.log.base, .v (.slice a.log.entries.A a.log.entries.n a.log.entries.c), vS a.snap, vI a.state.index, .v (.slice a.state.locks.A a.state.locks.n a.state.locks.c), .v (.slice a.state.pairs.A a.state.pairs.n a.state.pairs.c), .v (.slice a.state.sessions.A a.state.sessions.n a.state.sessions.c)]⟩, ⟨44, [vI b.log.base, .v (.slice b.log.entries.A b.log.entries.n b.log.entries.c), vS b.snap, vI b.state.index, .v (.slice b.state.locks.A b.state.locks.n b.state.locks.c), .v (.slice b.state.pairs.A b.state.pairs.n b.state.pairs.c), .v (.slice b.state.sessions.A b.state.sessions.n b.state.sessions.c)]⟩]⟩ [] [] (by kernel_rfl) on wn ?_
  cases h1 : decide (a.snap = b.snap) with
  | true =>
    have h1 := of_decide_eq_true h1
    refine JL_run 4 [] [14, 12, 10, 3, 2] 2 ⟨[(14, .v (.agg #[.int .i64 b.log.base, .slice b.log.entries.A b.log.entries.n b.log.entries.c])), (12, .v (.agg #[.int .i64 a.log.base, .slice a.log.entries.A a.log.entries.n a.log.entries.c])), (10, vB true), (3, .p 1 0), (2, .p 0 0)], [⟨44, [vI a.log.base, .v (.slice a.log.entries.A a.log.entries.n a.log.entries.c), vS a.snap, vI a.state.index, .v (.slice a.state.locks.A a.state.locks.n a.state.locks.c), .v (.slice a.state.pairs.A a.state.pairs.n a.state.pairs.c), .v (.slice a.state.sessions.A a.state.sessions.n a.state.sessions.c)]⟩, ⟨44, [vI b.log.base, .v (.slice b.log.entries.A b.log.entries.n b.log.entries.c), vS b.snap, vI b.state.index, .v (.slice b.state.locks.A b.state.locks.n b.state.locks.c), .v (.slice b.state.pairs.A b.state.pairs.n b.state.pairs.c), .v (.slice b.state.sessions.A b.state.sessions.n b.state.sessions.c)]⟩]⟩ [] [] (by kernel_rfl) on wn ?_
    refine l_pure 54 [] [.v (.agg #[.int .i64 a.log.base, .slice a.log.entries.A a.log.entries.n a.log.entries.c]), .v (.agg #[.int .i64 b.log.base, .slice b.log.entries.A b.log.entries.n b.log.entries.c])] (.bool true) Try.call54 rfl rfl rfl rfl (fun bs w hS => same_log a.log b.log w (And.left (And.right (Rds.kp ha hS.kp))) (And.left (And.right (Rds.kp hb hS.kp))) (congrArg DReplica.log he)) ?_
    refine JL_run 6 [] [21, 19, 17] 0 ⟨[(21, .v (.agg #[.int .i64 b.state.index, .slice b.state.locks.A b.state.locks.n b.state.locks.c, .slice b.state.pairs.A b.state.pairs.n b.state.pairs.c, .slice b.state.sessions.A b.state.sessions.n b.state.sessions.c])), (19, .v (.agg #[.int .i64 a.state.index, .slice a.state.locks.A a.state.locks.n a.state.locks.c, .slice a.state.pairs.A a.state.pairs.n a.state.pairs.c, .slice a.state.sessions.A a.state.sessions.n a.state.sessions.c])), (17, vB true)], []⟩ [] [] (by kernel_rfl) on wn ?_
    refine l_pure 16 [] [.v (.agg #[.int .i64 a.state.index, .slice a.state.locks.A a.state.locks.n a.state.locks.c, .slice a.state.pairs.A a.state.pairs.n a.state.pairs.c, .slice a.state.sessions.A a.state.sessions.n a.state.sessions.c]), .v (.agg #[.int .i64 b.state.index, .slice b.state.locks.A b.state.locks.n b.state.locks.c, .slice b.state.pairs.A b.state.pairs.n b.state.pairs.c, .slice b.state.sessions.A b.state.sessions.n b.state.sessions.c])] (.bool true) Try.call16 rfl rfl rfl rfl (fun bs w hS => same_state a.state b.state w ⟨(And.left (And.right (And.right (Rds.kp ha hS.kp)))), (And.left (And.right (And.right (And.right (Rds.kp ha hS.kp))))), (And.right (And.right (And.right (And.right (Rds.kp ha hS.kp)))))⟩ ⟨(And.left (And.right (And.right (Rds.kp hb hS.kp)))), (And.left (And.right (And.right (And.right (Rds.kp hb hS.kp))))), (And.right (And.right (And.right (And.right (Rds.kp hb hS.kp)))))⟩ (congrArg DReplica.state he)) ?_
    refine JL_run 2 [] [4] 0 ⟨[(4, vB true)], []⟩ [] [] (by kernel_rfl) on wn ?_
    refine l_nil (q_then_normal ?_)
    refine c_ret ?_
    refine q_ret (.inl rfl) [vB true] rfl (fun bs w hS => ?_)
    exact ⟨rfl, hS.kp⟩
  | false =>
    have h1 := of_decide_eq_false h1
    exact absurd (congrArg (fun q => q.snap) he) h1

theorem law_ReplicaCopies {B : Nat → Prop} (x : CReplica) (w : World) (hx : Rds.sub B w x) (hsm : Rds.small x) : Calls Try.prog 7 #[.agg #[.int .i64 x.log.base, .slice x.log.entries.A x.log.entries.n x.log.entries.c, .string x.snap, .int .i64 x.state.index, .slice x.state.locks.A x.state.locks.n x.state.locks.c, .slice x.state.pairs.A x.state.pairs.n x.state.pairs.c, .slice x.state.sessions.A x.state.sessions.n x.state.sessions.c]] w fun e w' => e = .returned (.bool true) ∧ Kp [] w w' := by
  have okx := Rds.okof hx
  refine calls_J0 9 Try.func7 rfl rfl [.agg #[.int .i64 x.log.base, .slice x.log.entries.A x.log.entries.n x.log.entries.c, .string x.snap, .int .i64 x.state.index, .slice x.state.locks.A x.state.locks.n x.state.locks.c, .slice x.state.pairs.A x.state.pairs.n x.state.pairs.c, .slice x.state.sessions.A x.state.sessions.n x.state.sessions.c]] rfl ?_
  refine c_seq ?_
  refine c_region ?_
  refine JL_run 2 [] [1] 1 ⟨[(1, .p 0 0)], [⟨44, [vI x.log.base, .v (.slice x.log.entries.A x.log.entries.n x.log.entries.c), vS x.snap, vI x.state.index, .v (.slice x.state.locks.A x.state.locks.n x.state.locks.c), .v (.slice x.state.pairs.A x.state.pairs.n x.state.pairs.c), .v (.slice x.state.sessions.A x.state.sessions.n x.state.sessions.c)]⟩]⟩ [] [] (by kernel_rfl) on wn ?_
  refine l_nil (q_then_normal ?_)
  refine c_seq ?_
  refine c_region ?_
  refine JL_run 1 [] [4, 1] 1 ⟨[(4, .v (.agg #[.int .i64 x.log.base, .slice x.log.entries.A x.log.entries.n x.log.entries.c, .string x.snap, .int .i64 x.state.index, .slice x.state.locks.A x.state.locks.n x.state.locks.c, .slice x.state.pairs.A x.state.pairs.n x.state.pairs.c, .slice x.state.sessions.A x.state.sessions.n x.state.sessions.c])), (1, .p 0 0)], [⟨44, [vI x.log.base, .v (.slice x.log.entries.A x.log.entries.n x.log.entries.c), vS x.snap, vI x.state.index, .v (.slice x.state.locks.A x.state.locks.n x.state.locks.c), .v (.slice x.state.pairs.A x.state.pairs.n x.state.pairs.c), .v (.slice x.state.sessions.A x.state.sessions.n x.state.sessions.c)]⟩]⟩ [] [] (by kernel_rfl) on wn ?_
  refine l_sub_call (σ := CReplica) 23 [] [.v (.agg #[.int .i64 x.log.base, .slice x.log.entries.A x.log.entries.n x.log.entries.c, .string x.snap, .int .i64 x.state.index, .slice x.state.locks.A x.state.locks.n x.state.locks.c, .slice x.state.pairs.A x.state.pairs.n x.state.pairs.c, .slice x.state.sessions.A x.state.sessions.n x.state.sessions.c])] (fun y1 => .agg #[.int .i64 y1.log.base, .slice y1.log.entries.A y1.log.entries.n y1.log.entries.c, .string y1.snap, .int .i64 y1.state.index, .slice y1.state.locks.A y1.state.locks.n y1.state.locks.c, .slice y1.state.pairs.A y1.state.pairs.n y1.state.pairs.c, .slice y1.state.sessions.A y1.state.sessions.n y1.state.sessions.c]) (fun y1 => y1.abs = x.abs) Try.call23 rfl rfl rfl rfl (fun bs w hS => replica_Copy x w (Rds.kp hx hS.kp) hsm) ?_
  rintro fp1 y1 hF1 hok1
  refine JL_run 2 [] [3, 1] 2 ⟨[(3, .p 1 0), (1, .p 0 0)], [⟨44, [vI x.log.base, .v (.slice x.log.entries.A x.log.entries.n x.log.entries.c), vS x.snap, vI x.state.index, .v (.slice x.state.locks.A x.state.locks.n x.state.locks.c), .v (.slice x.state.pairs.A x.state.pairs.n x.state.pairs.c), .v (.slice x.state.sessions.A x.state.sessions.n x.state.sessions.c)]⟩, ⟨44, [vI y1.log.base, .v (.slice y1.log.entries.A y1.log.entries.n y1.log.entries.c), vS y1.snap, vI y1.state.index, .v (.slice y1.state.locks.A y1.state.locks.n y1.state.locks.c), .v (.slice y1.state.pairs.A y1.state.pairs.n y1.state.pairs.c), .v (.slice y1.state.sessions.A y1.state.sessions.n y1.state.sessions.c)]⟩]⟩ [] [] (by kernel_rfl) on wn ?_
  refine l_nil (q_then_normal ?_)
  refine c_seq ?_
  refine c_region ?_
  refine JL_run 2 [] [7, 6] 0 ⟨[(7, .v (.agg #[.int .i64 x.log.base, .slice x.log.entries.A x.log.entries.n x.log.entries.c, .string x.snap, .int .i64 x.state.index, .slice x.state.locks.A x.state.locks.n x.state.locks.c, .slice x.state.pairs.A x.state.pairs.n x.state.pairs.c, .slice x.state.sessions.A x.state.sessions.n x.state.sessions.c])), (6, .v (.agg #[.int .i64 y1.log.base, .slice y1.log.entries.A y1.log.entries.n y1.log.entries.c, .string y1.snap, .int .i64 y1.state.index, .slice y1.state.locks.A y1.state.locks.n y1.state.locks.c, .slice y1.state.pairs.A y1.state.pairs.n y1.state.pairs.c, .slice y1.state.sessions.A y1.state.sessions.n y1.state.sessions.c]))], []⟩ [] [] (by kernel_rfl) on wn ?_
  refine l_pure 24 [] [.v (.agg #[.int .i64 y1.log.base, .slice y1.log.entries.A y1.log.entries.n y1.log.entries.c, .string y1.snap, .int .i64 y1.state.index, .slice y1.state.locks.A y1.state.locks.n y1.state.locks.c, .slice y1.state.pairs.A y1.state.pairs.n y1.state.pairs.c, .slice y1.state.sessions.A y1.state.sessions.n y1.state.sessions.c]), .v (.agg #[.int .i64 x.log.base, .slice x.log.entries.A x.log.entries.n x.log.entries.c, .string x.snap, .int .i64 x.state.index, .slice x.state.locks.A x.state.locks.n x.state.locks.c, .slice x.state.pairs.A x.state.pairs.n x.state.pairs.c, .slice x.state.sessions.A x.state.sessions.n x.state.sessions.c])] (.bool true) Try.call24 rfl rfl rfl rfl (fun bs w hS => same_replica y1 x w (hS.res _ (.head _)) (Rds.kp hx hS.kp) hF1) ?_
  refine JL_run 1 [] [2] 0 ⟨[(2, vB true)], []⟩ [] [] (by kernel_rfl) on wn ?_
  refine l_nil (q_then_normal ?_)
  refine c_ret ?_
  refine q_ret (.inl rfl) [vB true] rfl (fun bs w hS => ?_)
  refine ⟨?_, hS.kp⟩
  simp [retOf, den]

end Go.Proofs.Ytececkgjacccmab.W
