/-
  Names, copies and comparisons, walked: each returns what its model says.
  Conditions: those that each theorem states.
-/
import Derived.Test.YtececkgjacccmaaWa
set_option linter.unusedVariables false
set_option linter.unusedSimpArgs false
namespace Go.Proofs.Ytececkgjacccmaa.W
open Go.Proofs.Ytececkgjacccmaa.Fw Go.RowKit

theorem same_texts {B B' : Nat → Prop} (a b : Sl ByteArray) (w : World) (ha : a.rd B w) (hb : b.rd B' w) (he : a.xs = b.xs) : Calls Try.prog 41 #[.slice a.A a.n a.c, .slice b.A b.n b.c] w fun e w' => e = .returned (.bool true) ∧ Kp [] w w' := by
  have oka := Sl.rd.ok ha
  have okb := Sl.rd.ok hb
  have hn := xs_n he
  have nca := Sl.ok.nc oka
  refine calls_J0 26 Try.func41 rfl rfl [.slice a.A a.n a.c, .slice b.A b.n b.c] rfl ?_
  refine c_seq ?_
  refine c_region ?_
  refine JL_run 1 [] [0, 1] 0 ⟨[(0, .v (.slice a.A a.n a.c)), (1, .v (.slice b.A b.n b.c))], []⟩ [] [] (by kernel_rfl) on wn ?_
  refine l_nil (q_then_normal ?_)
  refine c_seq ?_
  refine c_seq ?_
  refine c_region ?_
  refine JL_run 5 [] [10, 0, 1] 0 ⟨[(10, vB (!(decide (((a.n : Nat) : Int) = ((b.n : Nat) : Int))))), (0, .v (.slice a.A a.n a.c)), (1, .v (.slice b.A b.n b.c))], []⟩ [] [] (by kernel_rfl) on wn ?_
  refine l_nil (q_then_normal ?_)
  cases h1 : decide (((a.n : Nat) : Int) = ((b.n : Nat) : Int)) with
  | true =>
    have h1 := of_decide_eq_true h1
    refine c_if false rfl ?_
    refine c_skip ?_
    refine q_then_normal ?_
    refine c_seq ?_
    refine c_seq ?_
    refine c_region ?_
    refine JL_run 1 [] [5, 0, 1] 0 ⟨[(5, vI 0), (0, .v (.slice a.A a.n a.c)), (1, .v (.slice b.A b.n b.c))], []⟩ [] [] (by kernel_rfl) on wn ?_
    refine l_nil (q_then_normal ?_)
    refine c_block ?_
    refine c_loop (σ := Nat) (fun i => True) (fun i => a.n - i) (fun i => []) (fun i => ⟨[(5, vI ((i : Nat) : Int)), (0, .v (.slice a.A a.n a.c)), (1, .v (.slice b.A b.n b.c))], []⟩) 0 trivial (s_start [5, 0, 1] 0 (by kernel_rfl) rfl) ?_
    rintro i _
    have hat := xs_at he i
    refine c_seq ?_
    refine c_seq ?_
    refine c_region ?_
    refine JL_run 4 [] [14, 5, 0, 1] 0 ⟨[(14, vB (decide (((i : Nat) : Int) < ((a.n : Nat) : Int)))), (5, vI ((i : Nat) : Int)), (0, .v (.slice a.A a.n a.c)), (1, .v (.slice b.A b.n b.c))], []⟩ [] [] (by kernel_rfl) on wn ?_
    refine l_nil (q_then_normal ?_)
    cases h2 : decide (((i : Nat) : Int) < ((a.n : Nat) : Int)) with
    | true =>
      have h2 := of_decide_eq_true h2
      refine c_if true rfl ?_
      refine c_skip ?_
      refine q_then_normal ?_
      refine c_seq ?_
      refine c_block ?_
      refine c_seq ?_
      refine c_draw 9 [(0, false), (1, false), (2, false), (3, false), (4, false), (5, false), (6, false), (7, false), (8, false)] [] [] Try_mixed (by kernel_rfl) (pq_then (pq_block (pq_then (pq_then (pq_block (pq_then pq_body)))))) (List.Sublist.refl _) ?_
      refine h_quiet [(2, .idx a.ad i), (3, .ext [.string (a.at i)]), (6, .idx b.ad i), (7, .ext [.string (b.at i)])] 9 [(25, vB (!(decide ((a.at i) = (b.at i))))), (24, vS (b.at i)), (23, .v (.pointer (some (b.ad.add (i * 1))))), (22, vI ((i : Nat) : Int)), (21, .v (.slice b.A b.n b.c)), (20, vS (a.at i)), (19, .v (.pointer (some (a.ad.add (i * 1))))), (18, vI ((i : Nat) : Int)), (17, .v (.slice a.A a.n a.c)), (14, vB true), (5, vI ((i : Nat) : Int)), (0, .v (.slice a.A a.n a.c)), (1, .v (.slice b.A b.n b.c))] [a.A = some a.ad, ((i : Nat) : Int) = ((i : Nat) : Int), i < a.n, b.A = some b.ad, ((i : Nat) : Int) = ((i : Nat) : Int), i < b.n] [(a.ad.add (i * 1), [.string (a.at i)]), (b.ad.add (i * 1), [.string (b.at i)])] rfl rfl (by kernel_rfl) (oc (Sl.ok.own (s := a) (i := i) oka (by omega)) (oc rfl (oc (by omega) (oc (Sl.ok.own (s := b) (i := i) okb (by omega)) (oc rfl (oc (by omega) on)))))) (fun w hk hr => ⟨(Sl.rd.all (s := a) (i := i) (Sl.rd.kp ha hk) (by omega) rfl), ⟨(Sl.rd.all (s := b) (i := i) (Sl.rd.kp hb hk) (by omega) rfl), trivial⟩⟩) ?_
      refine h_nil ?_
      refine l_nil (q_then_normal ?_)
      cases h3 : decide ((a.at i) = (b.at i)) with
      | true =>
        have h3 := of_decide_eq_true h3
        refine c_if false rfl ?_
        refine c_skip ?_
        refine q_block_normal (q_then_normal ?_)
        refine c_region ?_
        refine JL_run 3 [] [5, 0, 1] 0 ⟨[(5, vI (((i : Nat) : Int) + 1)), (0, .v (.slice a.A a.n a.c)), (1, .v (.slice b.A b.n b.c))], []⟩ [inR (((i : Nat) : Int) + 1)] [] (by kernel_rfl) (oc (by unfold inR; omega) on) wn ?_
        refine l_nil (q_loop (x := (i : Nat)) ((i + 1) : Nat) trivial (by omega) (s_start [5, 0, 1] 0 (by kernel_rfl) rfl))
      | false =>
        have h3 := of_decide_eq_false h3
        exfalso; first | omega | exact h3 (xs_at he i)
    | false =>
      have h2 := of_decide_eq_false h2
      refine c_if false rfl ?_
      refine c_exit ?_
      refine q_then_exit (q_then_exit (q_block_hit (q_then_normal ?_)))
      refine c_seq ?_
      refine c_region ?_
      refine JL_run 1 [] [4] 0 ⟨[(4, vB true)], []⟩ [] [] (by kernel_rfl) on wn ?_
      refine l_nil (q_then_normal ?_)
      refine c_ret ?_
      refine q_ret (.inl rfl) [vB true] rfl (fun bs w hS => ?_)
      exact ⟨rfl, hS.kp⟩
  | false =>
    have h1 := of_decide_eq_false h1
    exfalso; first | omega | exact h1 (xs_at he i)

theorem same_ints {B B' : Nat → Prop} (a b : Sl Int) (w : World) (ha : a.rd B w) (hb : b.rd B' w) (he : a.xs = b.xs) : Calls Try.prog 46 #[.slice a.A a.n a.c, .slice b.A b.n b.c] w fun e w' => e = .returned (.bool true) ∧ Kp [] w w' := by
  have oka := Sl.rd.ok ha
  have okb := Sl.rd.ok hb
  have hn := xs_n he
  have nca := Sl.ok.nc oka
  refine calls_J0 26 Try.func46 rfl rfl [.slice a.A a.n a.c, .slice b.A b.n b.c] rfl ?_
  refine c_seq ?_
  refine c_region ?_
  refine JL_run 1 [] [0, 1] 0 ⟨[(0, .v (.slice a.A a.n a.c)), (1, .v (.slice b.A b.n b.c))], []⟩ [] [] (by kernel_rfl) on wn ?_
  refine l_nil (q_then_normal ?_)
  refine c_seq ?_
  refine c_seq ?_
  refine c_region ?_
  refine JL_run 5 [] [10, 0, 1] 0 ⟨[(10, vB (!(decide (((a.n : Nat) : Int) = ((b.n : Nat) : Int))))), (0, .v (.slice a.A a.n a.c)), (1, .v (.slice b.A b.n b.c))], []⟩ [] [] (by kernel_rfl) on wn ?_
  refine l_nil (q_then_normal ?_)
  cases h1 : decide (((a.n : Nat) : Int) = ((b.n : Nat) : Int)) with
  | true =>
    have h1 := of_decide_eq_true h1
    refine c_if false rfl ?_
    refine c_skip ?_
    refine q_then_normal ?_
    refine c_seq ?_
    refine c_seq ?_
    refine c_region ?_
    refine JL_run 1 [] [5, 0, 1] 0 ⟨[(5, vI 0), (0, .v (.slice a.A a.n a.c)), (1, .v (.slice b.A b.n b.c))], []⟩ [] [] (by kernel_rfl) on wn ?_
    refine l_nil (q_then_normal ?_)
    refine c_block ?_
    refine c_loop (σ := Nat) (fun i => True) (fun i => a.n - i) (fun i => []) (fun i => ⟨[(5, vI ((i : Nat) : Int)), (0, .v (.slice a.A a.n a.c)), (1, .v (.slice b.A b.n b.c))], []⟩) 0 trivial (s_start [5, 0, 1] 0 (by kernel_rfl) rfl) ?_
    rintro i _
    have hat := xs_at he i
    refine c_seq ?_
    refine c_seq ?_
    refine c_region ?_
    refine JL_run 4 [] [14, 5, 0, 1] 0 ⟨[(14, vB (decide (((i : Nat) : Int) < ((a.n : Nat) : Int)))), (5, vI ((i : Nat) : Int)), (0, .v (.slice a.A a.n a.c)), (1, .v (.slice b.A b.n b.c))], []⟩ [] [] (by kernel_rfl) on wn ?_
    refine l_nil (q_then_normal ?_)
    cases h2 : decide (((i : Nat) : Int) < ((a.n : Nat) : Int)) with
    | true =>
      have h2 := of_decide_eq_true h2
      refine c_if true rfl ?_
      refine c_skip ?_
      refine q_then_normal ?_
      refine c_seq ?_
      refine c_block ?_
      refine c_seq ?_
      refine c_draw 9 [(0, false), (1, false), (2, false), (3, false), (4, false), (5, false), (6, false), (7, false), (8, false)] [] [] Try_mixed (by kernel_rfl) (pq_then (pq_block (pq_then (pq_then (pq_block (pq_then pq_body)))))) (List.Sublist.refl _) ?_
      refine h_quiet [(2, .idx a.ad i), (3, .ext [.int .i64 (a.at i)]), (6, .idx b.ad i), (7, .ext [.int .i64 (b.at i)])] 9 [(25, vB (!(decide ((a.at i) = (b.at i))))), (24, vI (b.at i)), (23, .v (.pointer (some (b.ad.add (i * 1))))), (22, vI ((i : Nat) : Int)), (21, .v (.slice b.A b.n b.c)), (20, vI (a.at i)), (19, .v (.pointer (some (a.ad.add (i * 1))))), (18, vI ((i : Nat) : Int)), (17, .v (.slice a.A a.n a.c)), (14, vB true), (5, vI ((i : Nat) : Int)), (0, .v (.slice a.A a.n a.c)), (1, .v (.slice b.A b.n b.c))] [a.A = some a.ad, ((i : Nat) : Int) = ((i : Nat) : Int), i < a.n, b.A = some b.ad, ((i : Nat) : Int) = ((i : Nat) : Int), i < b.n] [(a.ad.add (i * 1), [.int .i64 (a.at i)]), (b.ad.add (i * 1), [.int .i64 (b.at i)])] rfl rfl (by kernel_rfl) (oc (Sl.ok.own (s := a) (i := i) oka (by omega)) (oc rfl (oc (by omega) (oc (Sl.ok.own (s := b) (i := i) okb (by omega)) (oc rfl (oc (by omega) on)))))) (fun w hk hr => ⟨(Sl.rd.all (s := a) (i := i) (Sl.rd.kp ha hk) (by omega) rfl), ⟨(Sl.rd.all (s := b) (i := i) (Sl.rd.kp hb hk) (by omega) rfl), trivial⟩⟩) ?_
      refine h_nil ?_
      refine l_nil (q_then_normal ?_)
      cases h3 : decide ((a.at i) = (b.at i)) with
      | true =>
        have h3 := of_decide_eq_true h3
        refine c_if false rfl ?_
        refine c_skip ?_
        refine q_block_normal (q_then_normal ?_)
        refine c_region ?_
        refine JL_run 3 [] [5, 0, 1] 0 ⟨[(5, vI (((i : Nat) : Int) + 1)), (0, .v (.slice a.A a.n a.c)), (1, .v (.slice b.A b.n b.c))], []⟩ [inR (((i : Nat) : Int) + 1)] [] (by kernel_rfl) (oc (by unfold inR; omega) on) wn ?_
        refine l_nil (q_loop (x := (i : Nat)) ((i + 1) : Nat) trivial (by omega) (s_start [5, 0, 1] 0 (by kernel_rfl) rfl))
      | false =>
        have h3 := of_decide_eq_false h3
        exfalso; first | omega | exact h3 (xs_at he i)
    | false =>
      have h2 := of_decide_eq_false h2
      refine c_if false rfl ?_
      refine c_exit ?_
      refine q_then_exit (q_then_exit (q_block_hit (q_then_normal ?_)))
      refine c_seq ?_
      refine c_region ?_
      refine JL_run 1 [] [4] 0 ⟨[(4, vB true)], []⟩ [] [] (by kernel_rfl) on wn ?_
      refine l_nil (q_then_normal ?_)
      refine c_ret ?_
      refine q_ret (.inl rfl) [vB true] rfl (fun bs w hS => ?_)
      exact ⟨rfl, hS.kp⟩
  | false =>
    have h1 := of_decide_eq_false h1
    exfalso; first | omega | exact h1 (xs_at he i)

theorem lock_Name1 (c : UInt8) (w : World) : Calls Try.prog 44 #[.int .u8 (c.toNat : Int)] w fun e w' => e = .returned (.bool (nameBad c)) ∧ Kp [] w w' := by
  refine calls_J0 9 Try.func44 rfl rfl [.int .u8 (c.toNat : Int)] rfl ?_
  refine c_seq ?_
  refine c_region ?_
  refine JL_run 1 [] [0] 0 ⟨[(0, .v (.int .u8 (c.toNat : Int)))], []⟩ [] [] (by kernel_rfl) on wn ?_
  refine l_nil (q_then_normal ?_)
  refine c_seq ?_
  refine c_region ?_
  refine JL_run 3 [] [5, 0] 0 ⟨[(5, vB (decide ((c.toNat : Int) < 97))), (0, .v (.int .u8 (c.toNat : Int)))], []⟩ [] [] (by kernel_rfl) on wn ?_
  cases h1 : decide ((c.toNat : Int) < 97) with
  | true =>
    have h1 := of_decide_eq_true h1
    refine JL_run 4 [] [2] 0 ⟨[(2, vB true)], []⟩ [] [] (by kernel_rfl) on wn ?_
    refine l_nil (q_then_normal ?_)
    refine c_ret ?_
    refine q_ret (.inl rfl) [vB true] rfl (fun bs w hS => ?_)
    exact ⟨by simp [retOf, den, nameBad, h1], hS.kp⟩
  | false =>
    have h1 := of_decide_eq_false h1
    refine JL_run 4 [] [2] 0 ⟨[(2, vB (decide ((122 : Int) < (c.toNat : Int))))], []⟩ [] [] (by kernel_rfl) on wn ?_
    refine l_nil (q_then_normal ?_)
    refine c_ret ?_
    refine q_ret (.inl rfl) [vB (decide ((122 : Int) < (c.toNat : Int)))] rfl (fun bs w hS => ?_)
    exact ⟨by simp [retOf, den, nameBad, h1], hS.kp⟩

theorem idx_bytes {B : Nat → Prop} (s : Sl UInt8) (w : World) (hs : s.rd B w) : Calls Try.prog 50 #[.slice s.A s.n s.c, .func (.func 44) #[] #[]] w fun e w' => e = .returned (.int .i64 (mIdx nameBad s.xs)) ∧ Kp [] w w' := by
  have oks := Sl.rd.ok hs
  have ncs := Sl.ok.nc oks
  have hns : s.n = s.xs.length := rfl
  refine calls_J 19 [] Try.func50 rfl rfl [] [] [] [.v (.slice s.A s.n s.c), .fn 44 []] [.slice s.A s.n s.c, .func (.func 44) #[] #[]] rfl rfl (WS.start w) ?_
  refine c_seq ?_
  refine c_region ?_
  refine JL_run 1 [] [0, 1] 0 ⟨[(0, .v (.slice s.A s.n s.c)), (1, .fn 44 [])], []⟩ [] [] (by kernel_rfl) on wn ?_
  refine l_nil (q_then_normal ?_)
  refine c_seq ?_
  refine c_seq ?_
  refine c_region ?_
  refine JL_run 3 [] [8, 7, 0, 1] 0 ⟨[(8, vI 0), (7, vI ((s.n : Nat) : Int)), (0, .v (.slice s.A s.n s.c)), (1, .fn 44 [])], []⟩ [] [] (by kernel_rfl) on wn ?_
  refine l_nil (q_then_normal ?_)
  refine c_block ?_
  refine c_loop (σ := Nat) (fun i => i ≤ s.n ∧ ∀ j, j < i → nameBad (s.at j) = false) (fun i => s.n - i) (fun i => []) (fun i => ⟨[(8, vI ((i : Nat) : Int)), (7, vI ((s.n : Nat) : Int)), (0, .v (.slice s.A s.n s.c)), (1, .fn 44 [])], []⟩) 0 ⟨Nat.zero_le _, fun j hj => absurd hj (Nat.not_lt_zero _)⟩ (s_start [8, 7, 0, 1] 0 (by kernel_rfl) rfl) ?_
  rintro i ⟨hi, hI⟩
  refine c_seq ?_
  refine c_region ?_
  refine JL_run 1 [] [9, 8, 7, 0, 1] 0 ⟨[(9, vB (decide (((i : Nat) : Int) < ((s.n : Nat) : Int)))), (8, vI ((i : Nat) : Int)), (7, vI ((s.n : Nat) : Int)), (0, .v (.slice s.A s.n s.c)), (1, .fn 44 [])], []⟩ [] [] (by kernel_rfl) on wn ?_
  refine l_nil (q_then_normal ?_)
  refine c_seq ?_
  cases h1 : decide (((i : Nat) : Int) < ((s.n : Nat) : Int)) with
  | true =>
    have h1 := of_decide_eq_true h1
    refine c_if true rfl ?_
    refine c_skip ?_
    refine q_then_normal ?_
    refine c_seq ?_
    refine c_block ?_
    refine c_seq ?_
    refine c_region ?_
    refine JL_run 2 [] [5, 8, 7, 0, 1] 0 ⟨[(5, vI ((i : Nat) : Int)), (8, vI ((i : Nat) : Int)), (7, vI ((s.n : Nat) : Int)), (0, .v (.slice s.A s.n s.c)), (1, .fn 44 [])], []⟩ [] [] (by kernel_rfl) on wn ?_
    refine l_nil (q_then_normal ?_)
    refine c_seq ?_
    refine c_region ?_
    refine JL_run 5 [(3, .idx s.ad i), (4, .ext [.int .u8 ((s.at i).toNat : Int)])] [15, 11, 5, 8, 7, 0, 1] 0 ⟨[(15, .v (.int .u8 ((s.at i).toNat : Int))), (11, .fn 44 []), (5, vI ((i : Nat) : Int)), (8, vI ((i : Nat) : Int)), (7, vI ((s.n : Nat) : Int)), (0, .v (.slice s.A s.n s.c)), (1, .fn 44 [])], []⟩ [s.A = some s.ad, ((i : Nat) : Int) = ((i : Nat) : Int), i < s.n] [(s.ad.add (i * 1), [.int .u8 ((s.at i).toNat : Int)])] (by kernel_rfl) (oc (Sl.ok.own (s := s) (i := i) oks (by omega)) (oc rfl (oc (by omega) on))) (fun w hk hr => ⟨(Sl.rd.all (s := s) (i := i) (Sl.rd.kp hs hk) (by omega) rfl), trivial⟩) ?_
    refine l_pure 44 [] [.v (.int .u8 ((s.at i).toNat : Int))] (.bool (nameBad (s.at i))) Try.call44 rfl rfl rfl rfl (fun bs w hS => lock_Name1 _ w) ?_
    refine l_nil (q_then_normal ?_)
    cases h2 : nameBad (s.at i) with
    | true =>
      refine c_if true rfl ?_
      refine c_seq ?_
      refine c_region ?_
      refine JL_run 2 [] [4] 0 ⟨[(4, vI ((i : Nat) : Int))], []⟩ [] [] (by kernel_rfl) on wn ?_
      refine l_nil (q_then_normal ?_)
      refine c_ret ?_
      refine q_block_ret (q_then_ret (q_then_ret (q_block_ret (q_then_ret (q_ret (.inl rfl) [vI ((i : Nat) : Int)] rfl (fun bs w hS => ?_))))))
      refine ⟨?_, hS.kp⟩
      rw [mIdx_here (by omega) (by assumption) hI]
      rfl
    | false =>
      refine c_if false rfl ?_
      refine c_skip ?_
      refine q_block_normal (q_then_normal ?_)
      refine c_region ?_
      refine JL_run 2 [] [8, 7, 0, 1] 0 ⟨[(8, vI (((i : Nat) : Int) + 1)), (7, vI ((s.n : Nat) : Int)), (0, .v (.slice s.A s.n s.c)), (1, .fn 44 [])], []⟩ [inR (((i : Nat) : Int) + 1)] [] (by kernel_rfl) (oc (by unfold inR; omega) on) wn ?_
      refine l_nil (q_loop (x := (i : Nat)) ((i + 1) : Nat) ⟨by omega, fun j hj => by rcases Nat.lt_succ_iff_lt_or_eq.1 hj with h | h; exact hI j h; subst h; assumption⟩ (by omega) (s_start [8, 7, 0, 1] 0 (by kernel_rfl) rfl))
  | false =>
    have h1 := of_decide_eq_false h1
    refine c_if false rfl ?_
    refine c_exit ?_
    refine q_then_exit (q_then_exit (q_block_hit (q_then_normal ?_)))
    refine c_seq ?_
    refine c_region ?_
    refine JL_run 1 [] [4] 0 ⟨[(4, vI (-1))], []⟩ [] [] (by kernel_rfl) on wn ?_
    refine l_nil (q_then_normal ?_)
    refine c_ret ?_
    refine q_ret (.inl rfl) [vI (-1)] rfl (fun bs w hS => ?_)
    refine ⟨?_, hS.kp⟩
    rw [mIdx_none fun j hj => hI j (by omega)]
    rfl

theorem has_bytes {B : Nat → Prop} (s : Sl UInt8) (w : World) (hs : s.rd B w) : Calls Try.prog 43 #[.slice s.A s.n s.c, .func (.func 44) #[] #[]] w fun e w' => e = .returned (.bool (s.xs.any nameBad)) ∧ Kp [] w w' := by
  have oks := Sl.rd.ok hs
  have ncs := Sl.ok.nc oks
  have hns : s.n = s.xs.length := rfl
  refine calls_J 9 [] Try.func43 rfl rfl [] [] [] [.v (.slice s.A s.n s.c), .fn 44 []] [.slice s.A s.n s.c, .func (.func 44) #[] #[]] rfl rfl (WS.start w) ?_
  refine c_seq ?_
  refine c_region ?_
  refine JL_run 1 [] [0, 1] 0 ⟨[(0, .v (.slice s.A s.n s.c)), (1, .fn 44 [])], []⟩ [] [] (by kernel_rfl) on wn ?_
  refine l_nil (q_then_normal ?_)
  refine c_seq ?_
  refine c_region ?_
  refine JL_run 2 [] [6, 5] 0 ⟨[(6, .fn 44 []), (5, .v (.slice s.A s.n s.c))], []⟩ [] [] (by kernel_rfl) on wn ?_
  refine l_pure 50 [] [.v (.slice s.A s.n s.c), .fn 44 []] (.int .i64 (mIdx nameBad s.xs)) Try.call50 rfl rfl rfl rfl (fun bs w hS => idx_bytes _ w (Sl.rd.kp hs hS.kp)) ?_
  refine JL_run 2 [] [4] 0 ⟨[(4, vB (decide ((0 : Int) ≤ mIdx nameBad s.xs)))], []⟩ [] [] (by kernel_rfl) on wn ?_
  refine l_nil (q_then_normal ?_)
  refine c_ret ?_
  refine q_ret (.inl rfl) [vB (decide ((0 : Int) ≤ mIdx nameBad s.xs))] rfl (fun bs w hS => ?_)
  refine ⟨?_, hS.kp⟩
  simp only [retOf, den, List.map_cons, List.map_nil, mIdx_nonneg]

theorem lock_Name (s : ByteArray) (w : World) (hs : s.size ≤ 9223372036854775807) : Calls Try.prog 28 #[.string s] w fun e w' => e = .returned (.bool (mName s)) ∧ Kp [] w w' := by
  refine calls_J0 16 Try.func28 rfl rfl [.string s] rfl ?_
  refine c_seq ?_
  refine c_region ?_
  refine JL_run 1 [] [0] 0 ⟨[(0, vS s)], []⟩ [] [] (by kernel_rfl) on wn ?_
  refine l_nil (q_then_normal ?_)
  refine c_seq ?_
  refine c_region ?_
  refine JL_run 3 [] [5, 0] 0 ⟨[(5, vB (!(decide (s = emp)))), (0, vS s)], []⟩ [] [] (by kernel_rfl) on wn ?_
  cases h1 : !(decide (s = emp)) with
  | true =>
    refine JL_run 5 [] [10, 0] 0 ⟨[(10, vB (decide ((s.size : Int) ≤ 6))), (0, vS s)], []⟩ [] [] (by kernel_rfl) on wn ?_
    cases h2 : decide ((s.size : Int) ≤ 6) with
    | true =>
      have h2 := of_decide_eq_true h2
      refine JL_run 1 [] [11, 10] 0 ⟨[(11, vS s), (10, vB true)], []⟩ [] [] (by kernel_rfl) on wn ?_
      refine l_strbytes 5 s Try.underlying9 Try.underlying68 Try.underlying5 (by unfold maxLen; omega) rfl rfl rfl ?_
      rintro fp1 y1 hF1 hok1
      refine l_pure 43 [] [.v (.slice y1.A y1.n y1.c), .fn 44 []] (.bool (y1.xs.any nameBad)) Try.call43 rfl rfl rfl rfl (fun bs w hS => has_bytes _ w (hS.res _ (.head _))) ?_
      refine JL_run 3 [] [2] 0 ⟨[(2, vB (!(y1.xs.any nameBad)))], []⟩ [] [] (by kernel_rfl) on wn ?_
      refine l_nil (q_then_normal ?_)
      refine c_ret ?_
      refine q_ret (.inl rfl) [vB (!(y1.xs.any nameBad))] rfl (fun bs w hS => ?_)
      refine ⟨?_, hS.kp⟩
      simp [retOf, den, mName, *]
    | false =>
      have h2 := of_decide_eq_false h2
      refine JL_run 6 [] [2] 0 ⟨[(2, vB false)], []⟩ [] [] (by kernel_rfl) on wn ?_
      refine l_nil (q_then_normal ?_)
      refine c_ret ?_
      refine q_ret (.inl rfl) [vB false] rfl (fun bs w hS => ?_)
      refine ⟨?_, hS.kp⟩
      simp [retOf, den, mName, *]
  | false =>
    refine JL_run 11 [] [2] 0 ⟨[(2, vB false)], []⟩ [] [] (by kernel_rfl) on wn ?_
    refine l_nil (q_then_normal ?_)
    refine c_ret ?_
    refine q_ret (.inl rfl) [vB false] rfl (fun bs w hS => ?_)
    refine ⟨?_, hS.kp⟩
    simp [retOf, den, mName, *]

theorem ref_NameMay (s : ByteArray) (w : World) (hs : s.size ≤ 9223372036854775807) : Calls Try.prog 29 #[.string s] w fun e w' => e = .returned (.bool (mName s)) ∧ Kp [] w w' := by
  refine calls_J0 19 Try.func29 rfl rfl [.string s] rfl ?_
  refine c_seq ?_
  refine c_region ?_
  refine JL_run 1 [] [0] 0 ⟨[(0, vS s)], []⟩ [] [] (by kernel_rfl) on wn ?_
  refine l_nil (q_then_normal ?_)
  refine c_seq ?_
  refine c_seq ?_
  refine c_region ?_
  refine JL_run 1 [] [3, 0] 0 ⟨[(3, vI 0), (0, vS s)], []⟩ [] [] (by kernel_rfl) on wn ?_
  refine l_nil (q_then_normal ?_)
  refine c_block ?_
  refine c_loop (σ := Nat) (fun i => i ≤ s.size ∧ ∀ j, j < i → nameBad (s.data.getD j 0) = false) (fun i => s.size - i) (fun i => []) (fun i => ⟨[(3, vI ((i : Nat) : Int)), (0, vS s)], []⟩) 0 ⟨Nat.zero_le _, fun j hj => absurd hj (Nat.not_lt_zero _)⟩ (s_start [3, 0] 0 (by kernel_rfl) rfl) ?_
  rintro i ⟨hi, hI⟩
  have hu := (s.data.getD i 0).toNat_lt
  refine c_seq ?_
  refine c_seq ?_
  refine c_region ?_
  refine JL_run 4 [] [7, 3, 0] 0 ⟨[(7, vB (decide (((i : Nat) : Int) < (s.size : Int)))), (3, vI ((i : Nat) : Int)), (0, vS s)], []⟩ [] [] (by kernel_rfl) on wn ?_
  refine l_nil (q_then_normal ?_)
  cases h1 : decide (((i : Nat) : Int) < (s.size : Int)) with
  | true =>
    have h1 := of_decide_eq_true h1
    refine c_if true rfl ?_
    refine c_skip ?_
    refine q_then_normal ?_
    refine c_seq ?_
    refine c_block ?_
    refine c_seq ?_
    refine c_region ?_
    refine JL_run 4 [(2, .sidx i)] [13, 3, 0] 0 ⟨[(13, vI ((s.data.getD i 0).toNat : Int)), (3, vI ((i : Nat) : Int)), (0, vS s)], []⟩ [((i : Nat) : Int) = ((i : Nat) : Int), i < s.size, 0 ≤ ((s.data.getD i 0).toNat : Int), ((s.data.getD i 0).toNat : Int) ≤ 255] [] (by kernel_rfl) (oc rfl (oc (by omega) (oc (by omega) (oc (by omega) on)))) wn ?_
    refine l_pure 38 [] [vI ((s.data.getD i 0).toNat : Int), vI 97, vI 122] (.bool (inB ((s.data.getD i 0).toNat : Int) 97 122)) Try.call38 rfl rfl rfl rfl (fun bs w hS => ref_In _ _ _ w) ?_
    refine JL_run 1 [] [15, 3, 0] 0 ⟨[(15, vB (!(inB ((s.data.getD i 0).toNat : Int) 97 122))), (3, vI ((i : Nat) : Int)), (0, vS s)], []⟩ [] [] (by kernel_rfl) on wn ?_
    refine l_nil (q_then_normal ?_)
    cases h2 : inB ((s.data.getD i 0).toNat : Int) 97 122 with
    | true =>
      refine c_if false rfl ?_
      refine c_skip ?_
      refine q_block_normal (q_then_normal ?_)
      refine c_region ?_
      refine JL_run 3 [] [3, 0] 0 ⟨[(3, vI (((i : Nat) : Int) + 1)), (0, vS s)], []⟩ [inR (((i : Nat) : Int) + 1)] [] (by kernel_rfl) (oc (by unfold inR; omega) on) wn ?_
      refine l_nil (q_loop (x := (i : Nat)) ((i + 1) : Nat) ⟨by omega, fun j hj => by rcases Nat.lt_succ_iff_lt_or_eq.1 hj with h | h; exact hI j h; subst h; simp only [inB, nameBad, Bool.and_eq_true, Bool.or_eq_false_iff, decide_eq_true_eq, decide_eq_false_iff_not] at *; omega⟩ (by omega) (s_start [3, 0] 0 (by kernel_rfl) rfl))
    | false =>
      refine c_if true rfl ?_
      refine c_seq ?_
      refine c_region ?_
      refine JL_run 1 [] [2] 0 ⟨[(2, vB false)], []⟩ [] [] (by kernel_rfl) on wn ?_
      refine l_nil (q_then_normal ?_)
      refine c_ret ?_
      refine q_block_ret (q_then_ret (q_then_ret (q_block_ret (q_then_ret (q_ret (.inl rfl) [vB false] rfl (fun bs w hS => ?_))))))
      refine ⟨?_, hS.kp⟩
      rw [mName_bad (i := i) (by omega) (by simp only [inB, nameBad, Bool.and_eq_false_iff, Bool.or_eq_true, decide_eq_true_eq, decide_eq_false_iff_not] at *; omega)]
      rfl
  | false =>
    have h1 := of_decide_eq_false h1
    refine c_if false rfl ?_
    refine c_exit ?_
    refine q_then_exit (q_then_exit (q_block_hit (q_then_normal ?_)))
    refine c_seq ?_
    refine c_region ?_
    refine JL_run 2 [] [17] 0 ⟨[(17, vI (s.size : Int))], []⟩ [] [] (by kernel_rfl) on wn ?_
    refine l_pure 38 [] [vI (s.size : Int), vI 1, vI 6] (.bool (inB (s.size : Int) 1 6)) Try.call38 rfl rfl rfl rfl (fun bs w hS => ref_In _ _ _ w) ?_
    refine JL_run 1 [] [2] 0 ⟨[(2, vB (inB (s.size : Int) 1 6))], []⟩ [] [] (by kernel_rfl) on wn ?_
    refine l_nil (q_then_normal ?_)
    refine c_ret ?_
    refine q_ret (.inl rfl) [vB (inB (s.size : Int) 1 6)] rfl (fun bs w hS => ?_)
    refine ⟨?_, hS.kp⟩
    simp only [retOf, den, List.map_cons, List.map_nil, mName_good fun j hj => hI j (by omega)]

theorem clone_ByteArray {B : Nat → Prop} (s : Sl ByteArray) (w : World) (hs : s.rd B w) (hb : s.n ≤ 1048576) : Calls Try.prog 40 #[.slice s.A s.n s.c] w fun e w' => ∃ y : Sl ByteArray, e = .returned y.val ∧ y.xs = s.xs ∧ Kp [] w w' ∧ Fresh w w' (rowA 9 y.A y.c y.xs) := by
  have oks := Sl.rd.ok hs
  have ncs := Sl.ok.nc oks
  have hns : s.n = s.xs.length := rfl
  refine calls_J0 8 Try.func40 rfl rfl [.slice s.A s.n s.c] rfl ?_
  refine c_seq ?_
  refine c_region ?_
  refine JL_run 1 [] [0] 0 ⟨[(0, .v (.slice s.A s.n s.c))], []⟩ [] [] (by kernel_rfl) on wn ?_
  refine l_nil (q_then_normal ?_)
  refine c_seq ?_
  refine c_seq ?_
  refine c_region ?_
  refine JL_run 2 [(1, .val (.bool s.A.isNone))] [4, 0] 0 ⟨[(4, vB s.A.isNone), (0, .v (.slice s.A s.n s.c))], []⟩ [∀ w, (do eqGuard .eql 26 (.tmp 3) (.const (.slice none 0 0)) (.slice s.A s.n s.c) (.slice none 0 0); binOp .eql 26 (.slice s.A s.n s.c) (.slice none 0 0) : Sem Value).run Try.prog w = .ok (.bool s.A.isNone) w] [] (by kernel_rfl) (oc (eq_nil Try.underlying26) on) wn ?_
  refine l_nil (q_then_normal ?_)
  cases h1 : s.A.isNone with
  | true =>
    refine c_if true rfl ?_
    refine c_seq ?_
    refine c_region ?_
    refine JL_run 1 [] [2] 0 ⟨[(2, .v (.slice none 0 0))], []⟩ [] [] (by kernel_rfl) on wn ?_
    refine l_nil (q_then_normal ?_)
    refine c_ret ?_
    refine q_then_ret (q_ret (.inl rfl) [.v (.slice none 0 0)] rfl (fun bs w hS => ?_))
    have hnil : s.xs = [] := Sl.ok.empty oks (by cases h : s.A <;> simp_all)
    exact ⟨Sl.nil, rfl, hnil.symm, hS.kp, rowA_nil 9 w⟩
  | false =>
    refine c_if false rfl ?_
    refine c_skip ?_
    refine q_then_normal ?_
    refine c_seq ?_
    refine c_region ?_
    refine l_row0A (α := ByteArray) 9 Try.underlying26 rfl rfl rfl rfl ?_
    intro A1
    refine JL_run 1 [] [6, 5] 0 ⟨[(6, .v (.slice s.A s.n s.c)), (5, .v (.slice A1 (([] : List ByteArray).length) 0))], []⟩ [] [] (by kernel_rfl) on wn ?_
    refine l_appendA (α := ByteArray) 9 16 A1 0 ([]) (.v (.slice s.A s.n s.c)) (s.xs) Try.underlying26 (by kernel_rfl) rfl rfl rfl (fun bs w hS => ⟨_, _, rfl, Sl.rd.src (s := s) (Sl.rd.kp hs hS.kp)⟩) (by simp only [List.length_nil]; omega) (by simp only [List.length_nil]; omega) ?_
    intro A2 c2
    refine JL_run 1 [] [2] 0 ⟨[(2, .v (.slice A2 (([] ++ s.xs).length) c2))], []⟩ [] [] (by kernel_rfl) on wn ?_
    refine l_nil (q_then_normal ?_)
    refine c_ret ?_
    refine q_ret (.inl rfl) [.v (.slice A2 (([] ++ s.xs).length) c2)] rfl (fun bs w hS => ?_)
    exact ⟨⟨A2, c2, [] ++ s.xs⟩, rfl, by simp, hS.kp, hS.out1⟩

theorem clone_Wait {B : Nat → Prop} (s : Sl DWait) (w : World) (hs : s.rd B w) (hb : s.n ≤ 1048576) : Calls Try.prog 42 #[.slice s.A s.n s.c] w fun e w' => ∃ y : Sl DWait, e = .returned y.val ∧ y.xs = s.xs ∧ Kp [] w w' ∧ Fresh w w' (rowA 66 y.A y.c y.xs) := by
  have oks := Sl.rd.ok hs
  have ncs := Sl.ok.nc oks
  have hns : s.n = s.xs.length := rfl
  refine calls_J0 8 Try.func42 rfl rfl [.slice s.A s.n s.c] rfl ?_
  refine c_seq ?_
  refine c_region ?_
  refine JL_run 1 [] [0] 0 ⟨[(0, .v (.slice s.A s.n s.c))], []⟩ [] [] (by kernel_rfl) on wn ?_
  refine l_nil (q_then_normal ?_)
  refine c_seq ?_
  refine c_seq ?_
  refine c_region ?_
  refine JL_run 2 [(1, .val (.bool s.A.isNone))] [4, 0] 0 ⟨[(4, vB s.A.isNone), (0, .v (.slice s.A s.n s.c))], []⟩ [∀ w, (do eqGuard .eql 32 (.tmp 3) (.const (.slice none 0 0)) (.slice s.A s.n s.c) (.slice none 0 0); binOp .eql 32 (.slice s.A s.n s.c) (.slice none 0 0) : Sem Value).run Try.prog w = .ok (.bool s.A.isNone) w] [] (by kernel_rfl) (oc (eq_nil Try.underlying32) on) wn ?_
  refine l_nil (q_then_normal ?_)
  cases h1 : s.A.isNone with
  | true =>
    refine c_if true rfl ?_
    refine c_seq ?_
    refine c_region ?_
    refine JL_run 1 [] [2] 0 ⟨[(2, .v (.slice none 0 0))], []⟩ [] [] (by kernel_rfl) on wn ?_
    refine l_nil (q_then_normal ?_)
    refine c_ret ?_
    refine q_then_ret (q_ret (.inl rfl) [.v (.slice none 0 0)] rfl (fun bs w hS => ?_))
    have hnil : s.xs = [] := Sl.ok.empty oks (by cases h : s.A <;> simp_all)
    exact ⟨Sl.nil, rfl, hnil.symm, hS.kp, rowA_nil 66 w⟩
  | false =>
    refine c_if false rfl ?_
    refine c_skip ?_
    refine q_then_normal ?_
    refine c_seq ?_
    refine c_region ?_
    refine l_row0A (α := DWait) 66 Try.underlying32 rfl rfl rfl rfl ?_
    intro A1
    refine JL_run 1 [] [6, 5] 0 ⟨[(6, .v (.slice s.A s.n s.c)), (5, .v (.slice A1 (([] : List DWait).length) 0))], []⟩ [] [] (by kernel_rfl) on wn ?_
    refine l_appendA (α := DWait) 66 56 A1 0 ([]) (.v (.slice s.A s.n s.c)) (s.xs) Try.underlying32 (by kernel_rfl) rfl rfl rfl (fun bs w hS => ⟨_, _, rfl, Sl.rd.src (s := s) (Sl.rd.kp hs hS.kp)⟩) (by simp only [List.length_nil]; omega) (by simp only [List.length_nil]; omega) ?_
    intro A2 c2
    refine JL_run 1 [] [2] 0 ⟨[(2, .v (.slice A2 (([] ++ s.xs).length) c2))], []⟩ [] [] (by kernel_rfl) on wn ?_
    refine l_nil (q_then_normal ?_)
    refine c_ret ?_
    refine q_ret (.inl rfl) [.v (.slice A2 (([] ++ s.xs).length) c2)] rfl (fun bs w hS => ?_)
    exact ⟨⟨A2, c2, [] ++ s.xs⟩, rfl, by simp, hS.kp, hS.out1⟩

theorem clone_Int {B : Nat → Prop} (s : Sl Int) (w : World) (hs : s.rd B w) (hb : s.n ≤ 1048576) : Calls Try.prog 45 #[.slice s.A s.n s.c] w fun e w' => ∃ y : Sl Int, e = .returned y.val ∧ y.xs = s.xs ∧ Kp [] w w' ∧ Fresh w w' (rowA 3 y.A y.c y.xs) := by
  have oks := Sl.rd.ok hs
  have ncs := Sl.ok.nc oks
  have hns : s.n = s.xs.length := rfl
  refine calls_J0 8 Try.func45 rfl rfl [.slice s.A s.n s.c] rfl ?_
  refine c_seq ?_
  refine c_region ?_
  refine JL_run 1 [] [0] 0 ⟨[(0, .v (.slice s.A s.n s.c))], []⟩ [] [] (by kernel_rfl) on wn ?_
  refine l_nil (q_then_normal ?_)
  refine c_seq ?_
  refine c_seq ?_
  refine c_region ?_
  refine JL_run 2 [(1, .val (.bool s.A.isNone))] [4, 0] 0 ⟨[(4, vB s.A.isNone), (0, .v (.slice s.A s.n s.c))], []⟩ [∀ w, (do eqGuard .eql 24 (.tmp 3) (.const (.slice none 0 0)) (.slice s.A s.n s.c) (.slice none 0 0); binOp .eql 24 (.slice s.A s.n s.c) (.slice none 0 0) : Sem Value).run Try.prog w = .ok (.bool s.A.isNone) w] [] (by kernel_rfl) (oc (eq_nil Try.underlying24) on) wn ?_
  refine l_nil (q_then_normal ?_)
  cases h1 : s.A.isNone with
  | true =>
    refine c_if true rfl ?_
    refine c_seq ?_
    refine c_region ?_
    refine JL_run 1 [] [2] 0 ⟨[(2, .v (.slice none 0 0))], []⟩ [] [] (by kernel_rfl) on wn ?_
    refine l_nil (q_then_normal ?_)
    refine c_ret ?_
    refine q_then_ret (q_ret (.inl rfl) [.v (.slice none 0 0)] rfl (fun bs w hS => ?_))
    have hnil : s.xs = [] := Sl.ok.empty oks (by cases h : s.A <;> simp_all)
    exact ⟨Sl.nil, rfl, hnil.symm, hS.kp, rowA_nil 3 w⟩
  | false =>
    refine c_if false rfl ?_
    refine c_skip ?_
    refine q_then_normal ?_
    refine c_seq ?_
    refine c_region ?_
    refine l_row0A (α := Int) 3 Try.underlying24 rfl rfl rfl rfl ?_
    intro A1
    refine JL_run 1 [] [6, 5] 0 ⟨[(6, .v (.slice s.A s.n s.c)), (5, .v (.slice A1 (([] : List Int).length) 0))], []⟩ [] [] (by kernel_rfl) on wn ?_
    refine l_appendA (α := Int) 3 8 A1 0 ([]) (.v (.slice s.A s.n s.c)) (s.xs) Try.underlying24 (by kernel_rfl) rfl rfl rfl (fun bs w hS => ⟨_, _, rfl, Sl.rd.src (s := s) (Sl.rd.kp hs hS.kp)⟩) (by simp only [List.length_nil]; omega) (by simp only [List.length_nil]; omega) ?_
    intro A2 c2
    refine JL_run 1 [] [2] 0 ⟨[(2, .v (.slice A2 (([] ++ s.xs).length) c2))], []⟩ [] [] (by kernel_rfl) on wn ?_
    refine l_nil (q_then_normal ?_)
    refine c_ret ?_
    refine q_ret (.inl rfl) [.v (.slice A2 (([] ++ s.xs).length) c2)] rfl (fun bs w hS => ?_)
    exact ⟨⟨A2, c2, [] ++ s.xs⟩, rfl, by simp, hS.kp, hS.out1⟩

theorem clone_Kept {B : Nat → Prop} (s : Sl DKept) (w : World) (hs : s.rd B w) (hb : s.n ≤ 1048576) : Calls Try.prog 47 #[.slice s.A s.n s.c] w fun e w' => ∃ y : Sl DKept, e = .returned y.val ∧ y.xs = s.xs ∧ Kp [] w w' ∧ Fresh w w' (rowA 85 y.A y.c y.xs) := by
  have oks := Sl.rd.ok hs
  have ncs := Sl.ok.nc oks
  have hns : s.n = s.xs.length := rfl
  refine calls_J0 8 Try.func47 rfl rfl [.slice s.A s.n s.c] rfl ?_
  refine c_seq ?_
  refine c_region ?_
  refine JL_run 1 [] [0] 0 ⟨[(0, .v (.slice s.A s.n s.c))], []⟩ [] [] (by kernel_rfl) on wn ?_
  refine l_nil (q_then_normal ?_)
  refine c_seq ?_
  refine c_seq ?_
  refine c_region ?_
  refine JL_run 2 [(1, .val (.bool s.A.isNone))] [4, 0] 0 ⟨[(4, vB s.A.isNone), (0, .v (.slice s.A s.n s.c))], []⟩ [∀ w, (do eqGuard .eql 78 (.tmp 3) (.const (.slice none 0 0)) (.slice s.A s.n s.c) (.slice none 0 0); binOp .eql 78 (.slice s.A s.n s.c) (.slice none 0 0) : Sem Value).run Try.prog w = .ok (.bool s.A.isNone) w] [] (by kernel_rfl) (oc (eq_nil Try.underlying78) on) wn ?_
  refine l_nil (q_then_normal ?_)
  cases h1 : s.A.isNone with
  | true =>
    refine c_if true rfl ?_
    refine c_seq ?_
    refine c_region ?_
    refine JL_run 1 [] [2] 0 ⟨[(2, .v (.slice none 0 0))], []⟩ [] [] (by kernel_rfl) on wn ?_
    refine l_nil (q_then_normal ?_)
    refine c_ret ?_
    refine q_then_ret (q_ret (.inl rfl) [.v (.slice none 0 0)] rfl (fun bs w hS => ?_))
    have hnil : s.xs = [] := Sl.ok.empty oks (by cases h : s.A <;> simp_all)
    exact ⟨Sl.nil, rfl, hnil.symm, hS.kp, rowA_nil 85 w⟩
  | false =>
    refine c_if false rfl ?_
    refine c_skip ?_
    refine q_then_normal ?_
    refine c_seq ?_
    refine c_region ?_
    refine l_row0A (α := DKept) 85 Try.underlying78 rfl rfl rfl rfl ?_
    intro A1
    refine JL_run 1 [] [6, 5] 0 ⟨[(6, .v (.slice s.A s.n s.c)), (5, .v (.slice A1 (([] : List DKept).length) 0))], []⟩ [] [] (by kernel_rfl) on wn ?_
    refine l_appendA (α := DKept) 85 40 A1 0 ([]) (.v (.slice s.A s.n s.c)) (s.xs) Try.underlying78 (by kernel_rfl) rfl rfl rfl (fun bs w hS => ⟨_, _, rfl, Sl.rd.src (s := s) (Sl.rd.kp hs hS.kp)⟩) (by simp only [List.length_nil]; omega) (by simp only [List.length_nil]; omega) ?_
    intro A2 c2
    refine JL_run 1 [] [2] 0 ⟨[(2, .v (.slice A2 (([] ++ s.xs).length) c2))], []⟩ [] [] (by kernel_rfl) on wn ?_
    refine l_nil (q_then_normal ?_)
    refine c_ret ?_
    refine q_ret (.inl rfl) [.v (.slice A2 (([] ++ s.xs).length) c2)] rfl (fun bs w hS => ?_)
    exact ⟨⟨A2, c2, [] ++ s.xs⟩, rfl, by simp, hS.kp, hS.out1⟩

theorem log_Copy {B : Nat → Prop} (x : CLog) (w : World) (hx : Rds.sub B w x) (hsm : Rds.small x) : Calls Try.prog 23 #[.agg #[.int .i64 x.base, .slice x.entries.A x.entries.n x.entries.c]] w fun e w' => ∃ y : CLog, e = .returned (y.val) ∧ y.abs = x.abs ∧ FreshS w w' y := by
  have okx := Rds.okof hx
  refine calls_J0 9 Try.func23 rfl rfl [.agg #[.int .i64 x.base, .slice x.entries.A x.entries.n x.entries.c]] rfl ?_
  refine c_seq ?_
  refine c_region ?_
  refine JL_run 2 [] [2, 1] 2 ⟨[(2, .p 1 0), (1, .p 0 0)], [⟨28, [vI x.base, .v (.slice x.entries.A x.entries.n x.entries.c)]⟩, ⟨28, [vI 0, .v (.slice none 0 0)]⟩]⟩ [] [] (by kernel_rfl) on wn ?_
  refine l_nil (q_then_normal ?_)
  refine c_seq ?_
  refine c_draw 6 [(0, false), (1, false), (2, false), (3, false), (4, true), (5, false)] [] [] Try_mixed (by kernel_rfl) (pq_then pq_body) (List.Sublist.refl _) ?_
  refine h_quiet [] 4 [(6, .v (.slice x.entries.A x.entries.n x.entries.c)), (5, .p 0 1), (4, vI x.base), (3, .p 0 0), (2, .p 1 0), (1, .p 0 0)] [] [] rfl rfl (by kernel_rfl) on wn ?_
  refine h_freshF (σ := Sl ByteArray) 40 [] [.v (.slice x.entries.A x.entries.n x.entries.c)] (fun y1 => .slice y1.A y1.n y1.c) (fun y1 => y1.xs = x.entries.xs) (fun y1 => rowA 9 y1.A y1.c (y1.xs : List ByteArray)) rfl Try.call40 rfl rfl rfl rfl (fun bs w hS => clone_ByteArray x.entries w (Rds.kp hx hS.kp) (And.left hsm)) (fun bs0 bs y w hp hl hS => hS.down hp hl rfl (le_same (le_same le_nil)) (.cons _ (List.Sublist.refl _))) ?_
  rintro y1 hF1
  refine h_quiet [] 1 [(8, .v (.agg #[.int .i64 x.base, .slice y1.A y1.n y1.c])), (7, .v (.slice y1.A y1.n y1.c)), (6, .v (.slice x.entries.A x.entries.n x.entries.c)), (5, .p 0 1), (4, vI x.base), (3, .p 0 0), (2, .p 1 0), (1, .p 0 0)] [] [] rfl rfl (by kernel_rfl) on wn ?_
  refine h_nil ?_
  refine JL_run 1 [] [2] 2 ⟨[(2, .p 1 0)], [⟨28, [vI x.base, .v (.slice x.entries.A x.entries.n x.entries.c)]⟩, ⟨28, [vI x.base, .v (.slice y1.A y1.n y1.c)]⟩]⟩ [] [] (by kernel_rfl) on wn ?_
  refine l_nil (q_then_normal ?_)
  refine c_ret ?_
  refine q_ret (.inl rfl) [.v (.agg #[.int .i64 x.base, .slice y1.A y1.n y1.c])] rfl (fun bs w hS => ?_)
  exact ⟨⟨x.base, y1⟩, rfl, by simp [CLog.abs, hF1], hS.outS (y := (⟨x.base, y1⟩ : CLog)) (allR_row (.head _) (hS.res _ (.head _)) (fun z hz => Sl.rd.mem (s := x.entries) hx z (hF1 ▸ hz)))⟩

theorem same_log {B B' : Nat → Prop} (a b : CLog) (w : World) (ha : Rds.sub B w a) (hb : Rds.sub B' w b) (he : a.abs = b.abs) : Calls Try.prog 24 #[.agg #[.int .i64 a.base, .slice a.entries.A a.entries.n a.entries.c], .agg #[.int .i64 b.base, .slice b.entries.A b.entries.n b.entries.c]] w fun e w' => e = .returned (.bool true) ∧ Kp [] w w' := by
  have oka := Rds.okof ha
  have okb := Rds.okof hb
  refine calls_J0 17 Try.func24 rfl rfl [.agg #[.int .i64 a.base, .slice a.entries.A a.entries.n a.entries.c], .agg #[.int .i64 b.base, .slice b.entries.A b.entries.n b.entries.c]] rfl ?_
  refine c_seq ?_
  refine c_region ?_
  refine JL_run 3 [] [3, 2] 2 ⟨[(3, .p 1 0), (2, .p 0 0)], [⟨28, [vI a.base, .v (.slice a.entries.A a.entries.n a.entries.c)]⟩, ⟨28, [vI b.base, .v (.slice b.entries.A b.entries.n b.entries.c)]⟩]⟩ [] [] (by kernel_rfl) on wn ?_
  refine l_nil (q_then_normal ?_)
  refine c_seq ?_
  refine c_region ?_
  refine JL_run 6 [] [10, 3, 2] 2 ⟨[(10, vB (decide (a.base = b.base))), (3, .p 1 0), (2, .p 0 0)], [⟨28, [vI a.base, .v (.slice a.entries.A a.entries.n a.entries.c)]⟩, ⟨28, [vI b.base, .v (.slice b.entries.A b.entries.n b.entries.c)]⟩]⟩ [] [] (by kernel_rfl) on wn ?_
  cases h1 : decide (a.base = b.base) with
  | true =>
    have h1 := of_decide_eq_true h1
    refine JL_run 4 [] [14, 12, 10] 0 ⟨[(14, .v (.slice b.entries.A b.entries.n b.entries.c)), (12, .v (.slice a.entries.A a.entries.n a.entries.c)), (10, vB true)], []⟩ [] [] (by kernel_rfl) on wn ?_
    refine l_pure 41 [] [.v (.slice a.entries.A a.entries.n a.entries.c), .v (.slice b.entries.A b.entries.n b.entries.c)] (.bool true) Try.call41 rfl rfl rfl rfl (fun bs w hS => same_texts _ _ w (Rds.kp ha hS.kp) (Rds.kp hb hS.kp) (congrArg DLog.entries he)) ?_
    refine JL_run 2 [] [4] 0 ⟨[(4, vB true)], []⟩ [] [] (by kernel_rfl) on wn ?_
    refine l_nil (q_then_normal ?_)
    refine c_ret ?_
    refine q_ret (.inl rfl) [vB true] rfl (fun bs w hS => ?_)
    exact ⟨rfl, hS.kp⟩
  | false =>
    have h1 := of_decide_eq_false h1
    exact absurd (congrArg (fun q => q.base) he) h1

theorem customer_Copy {B : Nat → Prop} (x : CCustomer) (w : World) (hx : Rds.sub B w x) (hsm : Rds.small x) : Calls Try.prog 27 #[.agg #[.int .i64 x.id, .int .i64 x.session, .int .i64 x.next, .slice x.waits.A x.waits.n x.waits.c]] w fun e w' => ∃ y : CCustomer, e = .returned (y.val) ∧ y.abs = x.abs ∧ FreshS w w' y := by
  have okx := Rds.okof hx
  refine calls_J0 8 Try.func27 rfl rfl [.agg #[.int .i64 x.id, .int .i64 x.session, .int .i64 x.next, .slice x.waits.A x.waits.n x.waits.c]] rfl ?_
  refine c_seq ?_
  refine c_region ?_
  refine JL_run 2 [] [2, 1] 2 ⟨[(2, .p 1 0), (1, .p 0 0)], [⟨34, [vI x.id, vI x.session, vI x.next, .v (.slice x.waits.A x.waits.n x.waits.c)]⟩, ⟨34, [vI 0, vI 0, vI 0, .v (.slice none 0 0)]⟩]⟩ [] [] (by kernel_rfl) on wn ?_
  refine l_nil (q_then_normal ?_)
  refine c_seq ?_
  refine c_region ?_
  refine JL_run 2 [] [4, 2, 1] 2 ⟨[(4, .v (.slice x.waits.A x.waits.n x.waits.c)), (2, .p 1 0), (1, .p 0 0)], [⟨34, [vI x.id, vI x.session, vI x.next, .v (.slice x.waits.A x.waits.n x.waits.c)]⟩, ⟨34, [vI 0, vI 0, vI 0, .v (.slice none 0 0)]⟩]⟩ [] [] (by kernel_rfl) on wn ?_
  refine l_freshF (σ := Sl DWait) 42 [] [.v (.slice x.waits.A x.waits.n x.waits.c)] (fun y1 => .slice y1.A y1.n y1.c) (fun y1 => y1.xs = x.waits.xs) (fun y1 => rowA 66 y1.A y1.c (y1.xs : List DWait)) Try.call42 rfl rfl rfl rfl (fun bs w hS => clone_Wait x.waits w (Rds.kp hx hS.kp) (And.left hsm)) ?_
  rintro y1 hF1
  refine JL_run 2 [] [2, 1] 2 ⟨[(2, .p 1 0), (1, .p 0 0)], [⟨34, [vI x.id, vI x.session, vI x.next, .v (.slice y1.A y1.n y1.c)]⟩, ⟨34, [vI 0, vI 0, vI 0, .v (.slice none 0 0)]⟩]⟩ [] [] (by kernel_rfl) on wn ?_
  refine l_nil (q_then_normal ?_)
  refine c_seq ?_
  refine c_region ?_
  refine JL_run 2 [] [2] 2 ⟨[(2, .p 1 0)], [⟨34, [vI x.id, vI x.session, vI x.next, .v (.slice y1.A y1.n y1.c)]⟩, ⟨34, [vI x.id, vI x.session, vI x.next, .v (.slice y1.A y1.n y1.c)]⟩]⟩ [] [] (by kernel_rfl) on wn ?_
  refine l_nil (q_then_normal ?_)
  refine c_ret ?_
  refine q_ret (.inl rfl) [.v (.agg #[.int .i64 x.id, .int .i64 x.session, .int .i64 x.next, .slice y1.A y1.n y1.c])] rfl (fun bs w hS => ?_)
  exact ⟨⟨x.id, x.session, x.next, y1⟩, rfl, by simp [CCustomer.abs, hF1], hS.outS (y := (⟨x.id, x.session, x.next, y1⟩ : CCustomer)) (allR_row (.head _) (hS.res _ (.head _)) (fun z hz => Sl.rd.mem (s := x.waits) hx z (hF1 ▸ hz)))⟩

theorem law_LogCopies {B : Nat → Prop} (x : CLog) (w : World) (hx : Rds.sub B w x) (hsm : Rds.small x) : Calls Try.prog 7 #[.agg #[.int .i64 x.base, .slice x.entries.A x.entries.n x.entries.c]] w fun e w' => e = .returned (.bool true) ∧ Kp [] w w' := by
  have okx := Rds.okof hx
  refine calls_J0 9 Try.func7 rfl rfl [.agg #[.int .i64 x.base, .slice x.entries.A x.entries.n x.entries.c]] rfl ?_
  refine c_seq ?_
  refine c_region ?_
  refine JL_run 2 [] [1] 1 ⟨[(1, .p 0 0)], [⟨28, [vI x.base, .v (.slice x.entries.A x.entries.n x.entries.c)]⟩]⟩ [] [] (by kernel_rfl) on wn ?_
  refine l_nil (q_then_normal ?_)
  refine c_seq ?_
  refine c_region ?_
  refine JL_run 1 [] [4, 1] 1 ⟨[(4, .v (.agg #[.int .i64 x.base, .slice x.entries.A x.entries.n x.entries.c])), (1, .p 0 0)], [⟨28, [vI x.base, .v (.slice x.entries.A x.entries.n x.entries.c)]⟩]⟩ [] [] (by kernel_rfl) on wn ?_
  refine l_sub_call (σ := CLog) 23 [] [.v (.agg #[.int .i64 x.base, .slice x.entries.A x.entries.n x.entries.c])] (fun y1 => .agg #[.int .i64 y1.base, .slice y1.entries.A y1.entries.n y1.entries.c]) (fun y1 => y1.abs = x.abs) Try.call23 rfl rfl rfl rfl (fun bs w hS => log_Copy x w (Rds.kp hx hS.kp) hsm) ?_
  rintro fp1 y1 hF1 hok1
  refine JL_run 2 [] [3, 1] 2 ⟨[(3, .p 1 0), (1, .p 0 0)], [⟨28, [vI x.base, .v (.slice x.entries.A x.entries.n x.entries.c)]⟩, ⟨28, [vI y1.base, .v (.slice y1.entries.A y1.entries.n y1.entries.c)]⟩]⟩ [] [] (by kernel_rfl) on wn ?_
  refine l_nil (q_then_normal ?_)
  refine c_seq ?_
  refine c_region ?_
  refine JL_run 2 [] [7, 6] 0 ⟨[(7, .v (.agg #[.int .i64 x.base, .slice x.entries.A x.entries.n x.entries.c])), (6, .v (.agg #[.int .i64 y1.base, .slice y1.entries.A y1.entries.n y1.entries.c]))], []⟩ [] [] (by kernel_rfl) on wn ?_
  refine l_pure 24 [] [.v (.agg #[.int .i64 y1.base, .slice y1.entries.A y1.entries.n y1.entries.c]), .v (.agg #[.int .i64 x.base, .slice x.entries.A x.entries.n x.entries.c])] (.bool true) Try.call24 rfl rfl rfl rfl (fun bs w hS => same_log y1 x w (hS.res _ (.head _)) (Rds.kp hx hS.kp) hF1) ?_
  refine JL_run 1 [] [2] 0 ⟨[(2, vB true)], []⟩ [] [] (by kernel_rfl) on wn ?_
  refine l_nil (q_then_normal ?_)
  refine c_ret ?_
  refine q_ret (.inl rfl) [vB true] rfl (fun bs w hS => ?_)
  refine ⟨?_, hS.kp⟩
  simp [retOf, den]

theorem law_LockNames (s : ByteArray) (w : World) (hs : s.size ≤ 9223372036854775807) : Calls Try.prog 10 #[.string s] w fun e w' => e = .returned (.bool true) ∧ Kp [] w w' := by
  refine calls_J0 12 Try.func10 rfl rfl [.string s] rfl ?_
  refine c_seq ?_
  refine c_region ?_
  refine JL_run 1 [] [0] 0 ⟨[(0, vS s)], []⟩ [] [] (by kernel_rfl) on wn ?_
  refine l_nil (q_then_normal ?_)
  refine c_seq ?_
  refine c_region ?_
  refine JL_run 1 [] [5, 0] 0 ⟨[(5, vS s), (0, vS s)], []⟩ [] [] (by kernel_rfl) on wn ?_
  refine l_pure 28 [] [vS s] (.bool (mName s)) Try.call28 rfl rfl rfl rfl (fun bs w hS => lock_Name _ w (by first | assumption | omega | (simp only [emp_size]; omega))) ?_
  refine JL_run 1 [] [3, 0] 0 ⟨[(3, vB (mName s)), (0, vS s)], []⟩ [] [] (by kernel_rfl) on wn ?_
  refine l_nil (q_then_normal ?_)
  refine c_seq ?_
  refine c_region ?_
  refine JL_run 1 [] [7, 3] 0 ⟨[(7, vS s), (3, vB (mName s))], []⟩ [] [] (by kernel_rfl) on wn ?_
  refine l_pure 29 [] [vS s] (.bool (mName s)) Try.call29 rfl rfl rfl rfl (fun bs w hS => ref_NameMay _ w (by first | assumption | omega | (simp only [emp_size]; omega))) ?_
  refine JL_run 1 [] [4, 3] 0 ⟨[(4, vB (mName s)), (3, vB (mName s))], []⟩ [] [] (by kernel_rfl) on wn ?_
  refine l_nil (q_then_normal ?_)
  refine c_seq ?_
  refine c_region ?_
  refine JL_run 4 [(2, .val (.bool ((mName s) == (mName s))))] [2] 0 ⟨[(2, vB ((mName s) == (mName s)))], []⟩ [∀ w, (do eqGuard .eql 4 (.tmp 9) (.tmp 10) (.bool (mName s)) (.bool (mName s)); binOp .eql 4 (.bool (mName s)) (.bool (mName s)) : Sem Value).run Try.prog w = .ok (.bool ((mName s) == (mName s))) w] [] (by kernel_rfl) (oc (eq_bool Try.underlying4) on) wn ?_
  refine l_nil (q_then_normal ?_)
  refine c_ret ?_
  refine q_ret (.inl rfl) [vB ((mName s) == (mName s))] rfl (fun bs w hS => ?_)
  refine ⟨?_, hS.kp⟩
  simp [retOf, den]

end Go.Proofs.Ytececkgjacccmaa.W
