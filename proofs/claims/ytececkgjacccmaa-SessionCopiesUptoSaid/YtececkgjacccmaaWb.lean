/-
  Names, copies and comparisons, walked: each returns what its model says.
  Conditions: those that each theorem states.
-/
import Derived.Test.YtececkgjacccmaaWa
set_option linter.unusedVariables false
set_option linter.unusedSimpArgs false
namespace Go.Proofs.Ytececkgjacccmaa.W
open Go.Proofs.Ytececkgjacccmaa.Fw Go.RowKit

theorem same_texts {B B' : Nat → Prop} (a b : Sl ByteArray) (w : World) (ha : a.rd B w) (hb : b.rd B' w) (he : a.xs = b.xs) : Calls Try.prog 41 #[.slice a.A a.n a.c, .slice b.A b.n b.c] w fun e w' => e = .returned (.bool true) ∧ Kp [] w w' := by
  have oka := Sl.rd.ok ha
  have okb := Sl.rd.ok hb
  have hn := xs_n he
  have nca := Sl.ok.nc oka
  refine calls_J0 26 Try.func41 rfl rfl [.slice a.A a.n a.c, .slice b.A b.n b.c] rfl ?_
  refine c_seq ?_
  refine c_region ?_
  refine JL_run 1 [] [0, 1] 0 ⟨[(0, .v (.slice a.A a.n a.c)), (1, .v (.slice b.A b.n b.c))], []⟩ [] [] (by kernel_rfl) on wn ?_
  refine l_nil (q_then_normal ?_)
  refine c_seq ?_
  refine c_seq ?_
  refine c_region ?_
  refine JL_run 5 [] [10, 0, 1] 0 ⟨[(10, vB (!(decide (((a.n : Nat) : Int) = ((b.n : Nat) : Int))))), (0, .v (.slice a.A a.n a.c)), (1, .v (.slice b.A b.n b.c))], []⟩ [] [] (by kernel_rfl) on wn ?_
  refine l_nil (q_then_normal ?_)
  cases h1 : decide (((a.n : Nat) : Int) = ((b.n : Nat) : Int)) with
  | true =>
    have h1 := of_decide_eq_true h1
    refine c_if false rfl ?_
    refine c_skip ?_
    refine q_then_normal ?_
    refine c_seq ?_
    refine c_seq ?_
    refine c_region ?_
    refine JL_run 1 [] [5, 0, 1] 0 ⟨[(5, vI 0), (0, .v (.slice a.A a.n a.c)), (1, .v (.slice b.A b.n b.c))], []⟩ [] [] (by kernel_rfl) on wn ?_
    refine l_nil (q_then_normal ?_)
    refine c_block ?_
    refine c_loop (σ := Nat) (fun i => True) (fun i => a.n - i) (fun i => []) (fun i => ⟨[(5, vI ((i : Nat) : Int)), (0, .v (.slice a.A a.n a.c)), (1, .v (.slice b.A b.n b.c))], []⟩) 0 trivial (s_start [5, 0, 1] 0 (by kernel_rfl) rfl) ?_
    rintro i _
    have hat := xs_at he i
    refine c_seq ?_
    refine c_seq ?_
    refine c_region ?_
    refine JL_run 4 [] [14, 5, 0, 1] 0 ⟨[(14, vB (decide (((i : Nat) : Int) < ((a.n : Nat) : Int)))), (5, vI ((i : Nat) : Int)), (0, .v (.slice a.A a.n a.c)), (1, .v (.slice b.A b.n b.c))], []⟩ [] [] (by kernel_rfl) on wn ?_
    refine l_nil (q_then_normal ?_)
    cases h2 : decide (((i : Nat) : Int) < ((a.n : Nat) : Int)) with
    | true =>
      have h2 := of_decide_eq_true h2
      refine c_if true rfl ?_
      refine c_skip ?_
      refine q_then_normal ?_
      refine c_seq ?_
      refine c_block ?_
      refine c_seq ?_
      refine c_draw 9 [(0, false), (1, false), (2, false), (3, false), (4, false), (5, false), (6, false), (7, false), (8, false)] [] [] Try_mixed (by kernel_rfl) (pq_then (pq_block (pq_then (pq_then (pq_block (pq_then pq_body)))))) (List.Sublist.refl _) ?_
      refine h_quiet [(2, .idx a.ad i), (3, .ext [.string (a.at i)]), (6, .idx b.ad i), (7, .ext [.string (b.at i)])] 9 [(25, vB (!(decide ((a.at i) = (b.at i))))), (24, vS (b.at i)), (23, .v (.pointer (some (b.ad.add (i * 1))))), (22, vI ((i : Nat) : Int)), (21, .v (.slice b.A b.n b.c)), (20, vS (a.at i)), (19, .v (.pointer (some (a.ad.add (i * 1))))), (18, vI ((i : Nat) : Int)), (17, .v (.slice a.A a.n a.c)), (14, vB true), (5, vI ((i : Nat) : Int)), (0, .v (.slice a.A a.n a.c)), (1, .v (.slice b.A b.n b.c))] [a.A = some a.ad, ((i : Nat) : Int) = ((i : Nat) : Int), i < a.n, b.A = some b.ad, ((i : Nat) : Int) = ((i : Nat) : Int), i < b.n] [(a.ad.add (i * 1), [.string (a.at i)]), (b.ad.add (i * 1), [.string (b.at i)])] rfl rfl (by kernel_rfl) (oc (Sl.ok.own (s := a) (i := i) oka (by omega)) (oc rfl (oc (by omega) (oc (Sl.ok.own (s := b) (i := i) okb (by omega)) (oc rfl (oc (by omega) on)))))) (fun w hk hr => ⟨(Sl.rd.all (s := a) (i := i) (Sl.rd.kp ha hk) (by omega) rfl), ⟨(Sl.rd.all (s := b) (i := i) (Sl.rd.kp hb hk) (by omega) rfl), trivial⟩⟩) ?_
      refine h_nil ?_
      refine l_nil (q_then_normal ?_)
      cases h3 : decide ((a.at i) = (b.at i)) with
      | true =>
        have h3 := of_decide_eq_true h3
        refine c_if false rfl ?_
        refine c_skip ?_
        refine q_block_normal (q_then_normal ?_)
        refine c_region ?_
        refine JL_run 3 [] [5, 0, 1] 0 ⟨[(5, vI (((i : Nat) : Int) + 1)), (0, .v (.slice a.A a.n a.c)), (1, .v (.slice b.A b.n b.c))], []⟩ [inR (((i : Nat) : Int) + 1)] [] (by kernel_rfl) (oc (by unfold inR; omega) on) wn ?_
        refine l_nil (q_loop (x := (i : Nat)) ((i + 1) : Nat) trivial (by omega) (s_start [5, 0, 1] 0 (by kernel_rfl) rfl))
      | false =>
        have h3 := of_decide_eq_false h3
        exfalso; first | omega | exact h3 (xs_at he i)
    | false =>
      have h2 := of_decide_eq_false h2
      refine c_if false rfl ?_
      refine c_exit ?_
      refine q_then_exit (q_then_exit (q_block_hit (q_then_normal ?_)))
      refine c_seq ?_
      refine c_region ?_
      refine JL_run 1 [] [4] 0 ⟨[(4, vB true)], []⟩ [] [] (by kernel_rfl) on wn ?_
      refine l_nil (q_then_normal ?_)
      refine c_ret ?_
      refine q_ret (.inl rfl) [vB true] rfl (fun bs w hS => ?_)
      exact ⟨rfl, hS.kp⟩
  | false =>
    have h1 := of_decide_eq_false h1
    exfalso; first | omega | exact h1 (xs_at he i)

theorem same_ints {B B' : Nat → Prop} (a b : Sl Int) (w : World) (ha : a.rd B w) (hb : b.rd B' w) (he : a.xs = b.xs) : Calls Try.prog 46 #[.slice a.A a.n a.c, .slice b.A b.n b.c] w fun e w' => e = .returned (.bool true) ∧ Kp [] w w' := by
  have oka := Sl.rd.ok ha
  have okb := Sl.rd.ok hb
  have hn := xs_n he
  have nca := Sl.ok.nc oka
  refine calls_J0 26 Try.func46 rfl rfl [.slice a.A a.n a.c, .slice b.A b.n b.c] rfl ?_
  refine c_seq ?_
  refine c_region ?_
  refine JL_run 1 [] [0, 1] 0 ⟨[(0, .v (.slice a.A a.n a.c)), (1, .v (.slice b.A b.n b.c))], []⟩ [] [] (by kernel_rfl) on wn ?_
  refine l_nil (q_then_normal ?_)
  refine c_seq ?_
  refine c_seq ?_
  refine c_region ?_
  refine JL_run 5 [] [10, 0, 1] 0 ⟨[(10, vB (!(decide (((a.n : Nat) : Int) = ((b.n : Nat) : Int))))), (0, .v (.slice a.A a.n a.c)), (1, .v (.slice b.A b.n b.c))], []⟩ [] [] (by kernel_rfl) on wn ?_
  refine l_nil (q_then_normal ?_)
  cases h1 : decide (((a.n : Nat) : Int) = ((b.n : Nat) : Int)) with
  | true =>
    have h1 := of_decide_eq_true h1
    refine c_if false rfl ?_
    refine c_skip ?_
    refine q_then_normal ?_
    refine c_seq ?_
    refine c_seq ?_
    refine c_region ?_
    refine JL_run 1 [] [5, 0, 1] 0 ⟨[(5, vI 0), (0, .v (.slice a.A a.n a.c)), (1, .v (.slice b.A b.n b.c))], []⟩ [] [] (by kernel_rfl) on wn ?_
    refine l_nil (q_then_normal ?_)
    refine c_block ?_
    refine c_loop (σ := Nat) (fun i => True) (fun i => a.n - i) (fun i => []) (fun i => ⟨[(5, vI ((i : Nat) : Int)), (0, .v (.slice a.A a.n a.c)), (1, .v (.slice b.A b.n b.c))], []⟩) 0 trivial (s_start [5, 0, 1] 0 (by kernel_rfl) rfl) ?_
    rintro i _
    have hat := xs_at he i
    refine c_seq ?_
    refine c_seq ?_
    refine c_region ?_
    refine JL_run 4 [] [14, 5, 0, 1] 0 ⟨[(14, vB (decide (((i : Nat) : Int) < ((a.n : Nat) : Int)))), (5, vI ((i : Nat) : Int)), (0, .v (.slice a.A a.n a.c)), (1, .v (.slice b.A b.n b.c))], []⟩ [] [] (by kernel_rfl) on wn ?_
    refine l_nil (q_then_normal ?_)
    cases h2 : decide (((i : Nat) : Int) < ((a.n : Nat) : Int)) with
    | true =>
      have h2 := of_decide_eq_true h2
      refine c_if true rfl ?_
      refine c_skip ?_
      refine q_then_normal ?_
      refine c_seq ?_
      refine c_block ?_
      refine c_seq ?_
      refine c_draw 9 [(0, false), (1, false), (2, false), (3, false), (4, false), (5, false), (6, false), (7, false), (8, false)] [] [] Try_mixed (by kernel_rfl) (pq_then (pq_block (pq_then (pq_then (pq_block (pq_then pq_body)))))) (List.Sublist.refl _) ?_
      refine h_quiet [(2, .idx a.ad i), (3, .ext [.int .i64 (a.at i)]), (6, .idx b.ad i), (7, .ext [.int .i64 (b.at i)])] 9 [(25, vB (!(decide ((a.at i) = (b.at i))))), (24, vI (b.at i)), (23, .v (.pointer (some (b.ad.add (i * 1))))), (22, vI ((i : Nat) : Int)), (21, .v (.slice b.A b.n b.c)), (20, vI (a.at i)), (19, .v (.pointer (some (a.ad.add (i * 1))))), (18, vI ((i : Nat) : Int)), (17, .v (.slice a.A a.n a.c)), (14, vB true), (5, vI ((i : Nat) : Int)), (0, .v (.slice a.A a.n a.c)), (1, .v (.slice b.A b.n b.c))] [a.A = some a.ad, ((i : Nat) : Int) = ((i : Nat) : Int), i < a.n, b.A = some b.ad, ((i : Nat) : Int) = ((i : Nat) : Int), i < b.n] [(a.ad.add (i * 1), [.int .i64 (a.at i)]), (b.ad.add (i * 1), [.int .i64 (b.at i)])] rfl rfl (by kernel_rfl) (oc (Sl.ok.own (s := a) (i := i) oka (by omega)) (oc rfl (oc (by omega) (oc (Sl.ok.own (s := b) (i := i) okb (by omega)) (oc rfl (oc (by omega) on)))))) (fun w hk hr => ⟨(Sl.rd.all (s := a) (i := i) (Sl.rd.kp ha hk) (by omega) rfl), ⟨(Sl.rd.all (s := b) (i := i) (Sl.rd.kp hb hk) (by omega) rfl), trivial⟩⟩) ?_
      refine h_nil ?_
      refine l_nil (q_then_normal ?_)
      cases h3 : decide ((a.at i) = (b.at i)) with
      | true =>
        have h3 := of_decide_eq_true h3
        refine c_if false rfl ?_
        refine c_skip ?_
        refine q_block_normal (q_then_normal ?_)
        refine c_region ?_
        refine JL_run 3 [] [5, 0, 1] 0 ⟨[(5, vI (((i : Nat) : Int) + 1)), (0, .v (.slice a.A a.n a.c)), (1, .v (.slice b.A b.n b.c))], []⟩ [inR (((i : Nat) : Int) + 1)] [] (by kernel_rfl) (oc (by unfold inR; omega) on) wn ?_
        refine l_nil (q_loop (x := (i : Nat)) ((i + 1) : Nat) trivial (by omega) (s_start [5, 0, 1] 0 (by kernel_rfl) rfl))
      | false =>
        have h3 := of_decide_eq_false h3
        exfalso; first | omega | exact h3 (xs_at he i)
    | false =>
      have h2 := of_decide_eq_false h2
      refine c_if false rfl ?_
      refine c_exit ?_
      refine q_then_exit (q_then_exit (q_block_hit (q_then_normal ?_)))
      refine c_seq ?_
      refine c_region ?_
      refine JL_run 1 [] [4] 0 ⟨[(4, vB true)], []⟩ [] [] (by kernel_rfl) on wn ?_
      refine l_nil (q_then_normal ?_)
      refine c_ret ?_
      refine q_ret (.inl rfl) [vB true] rfl (fun bs w hS => ?_)
      exact ⟨rfl, hS.kp⟩
  | false =>
    have h1 := of_decide_eq_false h1
    exfalso; first | omega | exact h1 (xs_at he i)

theorem lock_Name1 (c : UInt8) (w : World) : Calls Try.prog 44 #[.int .u8 (c.toNat : Int)] w fun e w' => e = .returned (.bool (nameBad c)) ∧ Kp [] w w' := by
  refine calls_J0 9 Try.func44 rfl rfl [.int .u8 (c.toNat : Int)] rfl ?_
  refine c_seq ?_
  refine c_region ?_
  refine JL_run 1 [] [0] 0 ⟨[(0, .v (.int .u8 (c.toNat : Int)))], []⟩ [] [] (by kernel_rfl) on wn ?_
  refine l_nil (q_then_normal ?_)
  refine c_seq ?_
  refine c_region ?_
  refine JL_run 3 [] [5, 0] 0 ⟨[(5, vB (decide ((c.toNat : Int) < 97))), (0, .v (.int .u8 (c.toNat : Int)))], []⟩ [] [] (by kernel_rfl) on wn ?_
  cases h1 : decide ((c.toNat : Int) < 97) with
  | true =>
    have h1 := of_decide_eq_true h1
    refine JL_run 4 [] [2] 0 ⟨[(2, vB true)], []⟩ [] [] (by kernel_rfl) on wn ?_
    refine l_nil (q_then_normal ?_)
    refine c_ret ?_
    refine q_ret (.inl rfl) [vB true] rfl (fun bs w hS => ?_)
    exact ⟨by simp [retOf, den, nameBad, h1], hS.kp⟩
  | false =>
    have h1 := of_decide_eq_false h1
    refine JL_run 4 [] [2] 0 ⟨[(2, vB (decide ((122 : Int) < (c.toNat : Int))))], []⟩ [] [] (by kernel_rfl) on wn ?_
    refine l_nil (q_then_normal ?_)
    refine c_ret ?_
    refine q_ret (.inl rfl) [vB (decide ((122 : Int) < (c.toNat : Int)))] rfl (fun bs w hS => ?_)
    exact ⟨by simp [retOf, den, nameBad, h1], hS.kp⟩

theorem idx_bytes {B : Nat → Prop} (s : Sl UInt8) (w : World) (hs : s.rd B w) : Calls Try.prog 50 #[.slice s.A s.n s.c, .func (.func 44) #[] #[]] w fun e w' => e = .returned (.int .i64 (mIdx nameBad s.xs)) ∧ Kp [] w w' := by
  have oks := Sl.rd.ok hs
  have ncs := Sl.ok.nc oks
  have hns : s.n = s.xs.length := rfl
  refine calls_J 19 [] Try.func50 rfl rfl [] [] [] [.v (.slice s.A s.n s.c), .fn 44 []] [.slice s.A s.n s.c, .func (.func 44) #[] #[]] rfl rfl (WS.start w) ?_
  refine c_seq ?_
  refine c_region ?_
  refine JL_run 1 [] [0, 1] 0 ⟨[(0, .v (.slice s.A s.n s.c)), (1, .fn 44 [])], []⟩ [] [] (by kernel_rfl) on wn ?_
  refine l_nil (q_then_normal ?_)
  refine c_seq ?_
  refine c_seq ?_
  refine c_region ?_
  refine JL_run 3 [] [8, 7, 0, 1] 0 ⟨[(8, vI 0), (7, vI ((s.n : Nat) : Int)), (0, .v (.slice s.A s.n s.c)), (1, .fn 44 [])], []⟩ [] [] (by kernel_rfl) on wn ?_
  refine l_nil (q_then_normal ?_)
  refine c_block ?_
  refine c_loop (σ := Nat) (fun i => i ≤ s.n ∧ ∀ j, j < i → nameBad (s.at j) = false) (fun i => s.n - i) (fun i => []) (fun i => ⟨[(8, vI ((i : Nat) : Int)), (7, vI ((s.n : Nat) : Int)), (0, .v (.slice s.A s.n s.c)), (1, .fn 44 [])], []⟩) 0 ⟨Nat.zero_le _, fun j hj => absurd hj (Nat.not_lt_zero _)⟩ (s_start [8, 7, 0, 1] 0 (by kernel_rfl) rfl) ?_
  rintro i ⟨hi, hI⟩
  refine c_seq ?_
  refine c_region ?_
  refine JL_run 1 [] [9, 8, 7, 0, 1] 0 ⟨[(9, vB (decide (((i : Nat) : Int) < ((s.n : Nat) : Int)))), (8, vI ((i : Nat) : Int)), (7, vI ((s.n : Nat) : Int)), (0, .v (.slice s.A s.n s.c)), (1, .fn 44 [])], []⟩ [] [] (by kernel_rfl) on wn ?_
  refine l_nil (q_then_normal ?_)
  refine c_seq ?_
  cases h1 : decide (((i : Nat) : Int) < ((s.n : Nat) : Int)) with
  | true =>
    have h1 := of_decide_eq_true h1
    refine c_if true rfl ?_
    refine c_skip ?_
    refine q_then_normal ?_
    refine c_seq ?_
    refine c_block ?_
    refine c_seq ?_
    refine c_region ?_
    refine JL_run 2 [] [5, 8, 7, 0, 1] 0 ⟨[(5, vI ((i : Nat) : Int)), (8, vI ((i : Nat) : Int)), (7, vI ((s.n : Nat) : Int)), (0, .v (.slice s.A s.n s.c)), (1, .fn 44 [])], []⟩ [] [] (by kernel_rfl) on wn ?_
    refine l_nil (q_then_normal ?_)
    refine c_seq ?_
    refine c_region ?_
    refine JL_run 5 [(3, .idx s.ad i), (4, .ext [.int .u8 ((s.at i).toNat : Int)])] [15, 11, 5, 8, 7, 0, 1] 0 ⟨[(15, .v (.int .u8 ((s.at i).toNat : Int))), (11, .fn 44 []), (5, vI ((i : Nat) : Int)), (8, vI ((i : Nat) : Int)), (7, vI ((s.n : Nat) : Int)), (0, .v (.slice s.A s.n s.c)), (1, .fn 44 [])], []⟩ [s.A = some s.ad, ((i : Nat) : Int) = ((i : Nat) : Int), i < s.n] [(s.ad.add (i * 1), [.int .u8 ((s.at i).toNat : Int)])] (by kernel_rfl) (oc (Sl.ok.own (s := s) (i := i) oks (by omega)) (oc rfl (oc (by omega) on))) (fun w hk hr => ⟨(Sl.rd.all (s := s) (i := i) (Sl.rd.kp hs hk) (by omega) rfl), trivial⟩) ?_
    refine l_pure 44 [] [.v (.int .u8 ((s.at i).toNat : Int))] (.bool (nameBad (s.at i))) Try.call44 rfl rfl rfl rfl (fun bs w hS => lock_Name1 _ w) ?_
    refine l_nil (q_then_normal ?_)
    cases h2 : nameBad (s.at i) with
    | true =>
      refine c_if true rfl ?_
      refine c_seq ?_
      refine c_region ?_
      refine JL_run 2 [] [4] 0 ⟨[(4, vI ((i : Nat) : Int))], []⟩ [] [] (by kernel_rfl) on wn ?_
      refine l_nil (q_then_normal ?_)
      refine c_ret ?_
      refine q_block_ret (q_then_ret (q_then_ret (q_block_ret (q_then_ret (q_ret (.inl rfl) [vI ((i : Nat) : Int)] rfl (fun bs w hS => ?_))))))
      refine ⟨?_, hS.kp⟩
      rw [mIdx_here (by omega) (by assumption) hI]
      rfl
    | false =>
      refine c_if false rfl ?_
      refine c_skip ?_
      refine q_block_normal (q_then_normal ?_)
      refine c_region ?_
      refine JL_run 2 [] [8, 7, 0, 1] 0 ⟨[(8, vI (((i : Nat) : Int) + 1)), (7, vI ((s.n : Nat) : Int)), (0, .v (.slice s.A s.n s.c)), (1, .fn 44 [])], []⟩ [inR (((i : Nat) : Int) + 1)] [] (by kernel_rfl) (oc (by unfold inR; omega) on) wn ?_
      refine l_nil (q_loop (x := (i : Nat)) ((i + 1) : Nat) ⟨by omega, fun j hj => by rcases Nat.lt_succ_iff_lt_or_eq.1 hj with h | h; exact hI j h; subst h; assumption⟩ (by omega) (s_start [8, 7, 0, 1] 0 (by kernel_rfl) rfl))
  | false =>
    have h1 := of_decide_eq_false h1
    refine c_if false rfl ?_
    refine c_exit ?_
    refine q_then_exit (q_then_exit (q_block_hit (q_then_normal ?_)))
    refine c_seq ?_
    refine c_region ?_
    refine JL_run 1 [] [4] 0 ⟨[(4, vI (-1))], []⟩ [] [] (by kernel_rfl) on wn ?_
    refine l_nil (q_then_normal ?_)
    refine c_ret ?_
    refine q_ret (.inl rfl) [vI (-1)] rfl (fun bs w hS => ?_)
    refine ⟨?_, hS.kp⟩
    rw [mIdx_none fun j hj => hI j (by omega)]
    rfl

theorem has_bytes {B : Nat → Prop} (s : Sl UInt8) (w : World) (hs : s.rd B w) : Calls Try.prog 43 #[.slice s.A s.n s.c, .func (.func 44) #[] #[]] w fun e w' => e = .returned (.bool (s.xs.any nameBad)) ∧ Kp [] w w' := by
  have oks := Sl.rd.ok hs
  have ncs := Sl.ok.nc oks
  have hns : s.n = s.xs.length := rfl
  refine calls_J 9 [] Try.func43 rfl rfl [] [] [] [.v (.slice s.A s.n s.c), .fn 44 []] [.slice s.A s.n s.c, .func (.func 44) #[] #[]] rfl rfl (WS.start w) ?_
  refine c_seq ?_
  refine c_region ?_
  refine JL_run 1 [] [0, 1] 0 ⟨[(0, .v (.slice s.A s.n s.c)), (1, .fn 44 [])], []⟩ [] [] (by kernel_rfl) on wn ?_
  refine l_nil (q_then_normal ?_)
  refine c_seq ?_
  refine c_region ?_
  refine JL_run 2 [] [6, 5] 0 ⟨[(6, .fn 44 []), (5, .v (.slice s.A s.n s.c))], []⟩ [] [] (by kernel_rfl) on wn ?_
  refine l_pure 50 [] [.v (.slice s.A s.n s.c), .fn 44 []] (.int .i64 (mIdx nameBad s.xs)) Try.call50 rfl rfl rfl rfl (fun bs w hS => idx_bytes _ w (Sl.rd.kp hs hS.kp)) ?_
  refine JL_run 2 [] [4] 0 ⟨[(4, vB (decide ((0 : Int) ≤ mIdx nameBad s.xs)))], []⟩ [] [] (by kernel_rfl) on wn ?_
  refine l_nil (q_then_normal ?_)
  refine c_ret ?_
  refine q_ret (.inl rfl) [vB (decide ((0 : Int) ≤ mIdx nameBad s.xs))] rfl (fun bs w hS => ?_)
  refine ⟨?_, hS.kp⟩
  simp only [retOf, den, List.map_cons, List.map_nil, mIdx_nonneg]

theorem lock_Name (s : ByteArray) (w : World) (hs : s.size ≤ 9223372036854775807) : Calls Try.prog 28 #[.string s] w fun e w' => e = .returned (.bool (mName s)) ∧ Kp [] w w' := by
  refine calls_J0 16 Try.func28 rfl rfl [.string s] rfl ?_
  refine c_seq ?_
  refine c_region ?_
  refine JL_run 1 [] [0] 0 ⟨[(0, vS s)], []⟩ [] [] (by kernel_rfl) on wn ?_
  refine l_nil (q_then_normal ?_)
  refine c_seq ?_
  refine c_region ?_
  refine JL_run 3 [] [5, 0] 0 ⟨[(5, vB (!(decide (s = emp)))), (0, vS s)], []⟩ [] [] (by kernel_rfl) on wn ?_
  cases h1 : decide (s = emp) with
  | true =>
    have h1 := of_decide_eq_true h1
    refine JL_run 11 [] [2] 0 ⟨[(2, vB false)], []⟩ [] [] (by kernel_rfl) on wn ?_
    refine l_nil (q_then_normal ?_)
    refine c_ret ?_
    refine q_ret (.inl rfl) [vB false] rfl (fun bs w hS => ?_)
    refine ⟨?_, hS.kp⟩
    simp [retOf, den, mName, *]
  | false =>
    have h1 := of_decide_eq_false h1
    refine JL_run 5 [] [10, 0] 0 ⟨[(10, vB (decide ((s.size : Int) ≤ 6))), (0, vS s)], []⟩ [] [] (by kernel_rfl) on wn ?_
    cases h2 : decide ((s.size : Int) ≤ 6) with
    | true =>
      have h2 := of_decide_eq_true h2
      refine JL_run 1 [] [11, 10] 0 ⟨[(11, vS s), (10, vB true)], []⟩ [] [] (by kernel_rfl) on wn ?_
      refine l_strbytes 5 s Try.underlying9 Try.underlying68 Try.underlying5 (by unfold maxLen; omega) rfl rfl rfl ?_
      rintro fp1 y1 hF1 hok1
      refine l_pure 43 [] [.v (.slice y1.A y1.n y1.c), .fn 44 []] (.bool (y1.xs.any nameBad)) Try.call43 rfl rfl rfl rfl (fun bs w hS => has_bytes _ w (hS.res _ (.head _))) ?_
      refine JL_run 3 [] [2] 0 ⟨[(2, vB (!(y1.xs.any nameBad)))], []⟩ [] [] (by kernel_rfl) on wn ?_
      refine l_nil (q_then_normal ?_)
      refine c_ret ?_
      refine q_ret (.inl rfl) [vB (!(y1.xs.any nameBad))] rfl (fun bs w hS => ?_)
      refine ⟨?_, hS.kp⟩
      simp [retOf, den, mName, *]
    | false =>
      have h2 := of_decide_eq_false h2
      refine JL_run 6 [] [2] 0 ⟨[(2, vB false)], []⟩ [] [] (by kernel_rfl) on wn ?_
      refine l_nil (q_then_normal ?_)
      refine c_ret ?_
      refine q_ret (.inl rfl) [vB false] rfl (fun bs w hS => ?_)
      refine ⟨?_, hS.kp⟩
      simp [retOf, den, mName, *]

theorem ref_NameMay (s : ByteArray) (w : World) (hs : s.size ≤ 9223372036854775807) : Calls Try.prog 29 #[.string s] w fun e w' => e = .returned (.bool (mName s)) ∧ Kp [] w w' := by
  refine calls_J0 19 Try.func29 rfl rfl [.string s] rfl ?_
  refine c_seq ?_
  refine c_region ?_
  refine JL_run 1 [] [0] 0 ⟨[(0, vS s)], []⟩ [] [] (by kernel_rfl) on wn ?_
  refine l_nil (q_then_normal ?_)
  refine c_seq ?_
  refine c_seq ?_
  refine c_region ?_
  refine JL_run 1 [] [3, 0] 0 ⟨[(3, vI 0), (0, vS s)], []⟩ [] [] (by kernel_rfl) on wn ?_
  refine l_nil (q_then_normal ?_)
  refine c_block ?_
  refine c_loop (σ := Nat) (fun i => i ≤ s.size ∧ ∀ j, j < i → nameBad (s.data.getD j 0) = false) (fun i => s.size - i) (fun i => []) (fun i => ⟨[(3, vI ((i : Nat) : Int)), (0, vS s)], []⟩) 0 ⟨Nat.zero_le _, fun j hj => absurd hj (Nat.not_lt_zero _)⟩ (s_start [3, 0] 0 (by kernel_rfl) rfl) ?_
  rintro i ⟨hi, hI⟩
  have hu := (s.data.getD i 0).toNat_lt
  refine c_seq ?_
  refine c_seq ?_
  refine c_region ?_
  refine JL_run 4 [] [7, 3, 0] 0 ⟨[(7, vB (decide (((i : Nat) : Int) < (s.size : Int)))), (3, vI ((i : Nat) : Int)), (0, vS s)], []⟩ [] [] (by kernel_rfl) on wn ?_
  refine l_nil (q_then_normal ?_)
  cases h1 : decide (((i : Nat) : Int) < (s.size : Int)) with
  | true =>
    have h1 := of_decide_eq_true h1
    refine c_if true rfl ?_
    refine c_skip ?_
    refine q_then_normal ?_
    refine c_seq ?_
    refine c_block ?_
    refine c_seq ?_
    refine c_region ?_
    refine JL_run 4 [(2, .sidx i)] [13, 3, 0] 0 ⟨[(13, vI ((s.data.getD i 0).toNat : Int)), (3, vI ((i : Nat) : Int)), (0, vS s)], []⟩ [((i : Nat) : Int) = ((i : Nat) : Int), i < s.size, 0 ≤ ((s.data.getD i 0).toNat : Int), ((s.data.getD i 0).toNat : Int) ≤ 255] [] (by kernel_rfl) (oc rfl (oc (by omega) (oc (by omega) (oc (by omega) on)))) wn ?_
    refine l_pure 38 [] [vI ((s.data.getD i 0).toNat : Int), vI 97, vI 122] (.bool (inB ((s.data.getD i 0).toNat : Int) 97 122)) Try.call38 rfl rfl rfl rfl (fun bs w hS => ref_In _ _ _ w) ?_
    refine JL_run 1 [] [15, 3, 0] 0 ⟨[(15, vB (!(inB ((s.data.getD i 0).toNat : Int) 97 122))), (3, vI ((i : Nat) : Int)), (0, vS s)], []⟩ [] [] (by kernel_rfl) on wn ?_
    refine l_nil (q_then_normal ?_)
    cases h2 : inB ((s.data.getD i 0).toNat : Int) 97 122 with
    | true =>
      refine c_if false rfl ?_
      refine c_skip ?_
      refine q_block_normal (q_then_normal ?_)
      refine c_region ?_
      refine JL_run 3 [] [3, 0] 0 ⟨[(3, vI (((i : Nat) : Int) + 1)), (0, vS s)], []⟩ [inR (((i : Nat) : Int) + 1)] [] (by kernel_rfl) (oc (by unfold inR; omega) on) wn ?_
      refine l_nil (q_loop (x := (i : Nat)) ((i + 1) : Nat) ⟨by omega, fun j hj => by rcases Nat.lt_succ_iff_lt_or_eq.1 hj with h | h; exact hI j h; subst h; simp only [inB, nameBad, Bool.and_eq_true, Bool.or_eq_false_iff, decide_eq_true_eq, decide_eq_false_iff_not] at *; omega⟩ (by omega) (s_start [3, 0] 0 (by kernel_rfl) rfl))
    | false =>
      refine c_if true rfl ?_
      refine c_seq ?_
      refine c_region ?_
      refine JL_run 1 [] [2] 0 ⟨[(2, vB false)], []⟩ [] [] (by kernel_rfl) on wn ?_
      refine l_nil (q_then_normal ?_)
      refine c_ret ?_
      refine q_block_ret (q_then_ret (q_then_ret (q_block_ret (q_then_ret (q_ret (.inl rfl) [vB false] rfl (fun bs w hS => ?_))))))
      refine ⟨?_, hS.kp⟩
      rw [mName_bad (i := i) (by omega) (by simp only [inB, nameBad, Bool.and_eq_false_iff, Bool.or_eq_true, decide_eq_true_eq, decide_eq_false_iff_not] at *; omega)]
      rfl
  | false =>
    have h1 := of_decide_eq_false h1
    refine c_if false rfl ?_
    refine c_exit ?_
    refine q_then_exit (q_then_exit (q_block_hit (q_then_normal ?_)))
    refine c_seq ?_
    refine c_region ?_
    refine JL_run 2 [] [17] 0 ⟨[(17, vI (s.size : Int))], []⟩ [] [] (by kernel_rfl) on wn ?_
    refine l_pure 38 [] [vI (s.size : Int), vI 1, vI 6] (.bool (inB (s.size : Int) 1 6)) Try.call38 rfl rfl rfl rfl (fun bs w hS => ref_In _ _ _ w) ?_
    refine JL_run 1 [] [2] 0 ⟨[(2, vB (inB (s.size : Int) 1 6))], []⟩ [] [] (by kernel_rfl) on wn ?_
    refine l_nil (q_then_normal ?_)
    refine c_ret ?_
    refine q_ret (.inl rfl) [vB (inB (s.size : Int) 1 6)] rfl (fun bs w hS => ?_)
    refine ⟨?_, hS.kp⟩
    simp only [retOf, den, List.map_cons, List.map_nil, mName_good fun j hj => hI j (by omega)]

theorem clone_ByteArray {B : Nat → Prop} (s : Sl ByteArray) (w : World) (hs : s.rd B w) (hb : s.n ≤ 1048576) : Calls Try.prog 40 #[.slice s.A s.n s.c] w fun e w' => ∃ y : Sl ByteArray, e = .returned y.val ∧ y.xs = s.xs ∧ Kp [] w w' ∧ Fresh w w' (rowA 9 y.A y.c y.xs) := by
  have oks := Sl.rd.ok hs
  have ncs := Sl.ok.nc oks
  have hns : s.n = s.xs.length := rfl
  refine calls_J0 8 Try.func40 rfl rfl [.slice s.A s.n s.c] rfl ?_
  refine c_seq ?_
  refine c_region ?_
  refine JL_run 1 [] [0] 0 ⟨[(0, .v (.slice s.A s.n s.c))], []⟩ [] [] (by kernel_rfl) on wn ?_
  refine l_nil (q_then_normal ?_)
  refine c_seq ?_
  refine c_seq ?_
  refine c_region ?_
  refine JL_run 2 [(1, .val (.bool s.A.isNone))] [4, 0] 0 ⟨[(4, vB s.A.isNone), (0, .v (.slice s.A s.n s.c))], []⟩ [∀ w, (do eqGuard .eql 26 (.tmp 3) (.const (.slice none 0 0)) (.slice s.A s.n s.c) (.slice none 0 0); binOp .eql 26 (.slice s.A s.n s.c) (.slice none 0 0) : Sem Value).run Try.prog w = .ok (.bool s.A.isNone) w] [] (by kernel_rfl) (oc (eq_nil Try.underlying26) on) wn ?_
  refine l_nil (q_then_normal ?_)
  cases h1 : s.A.isNone with
  | true =>
    refine c_if true rfl ?_
    refine c_seq ?_
    refine c_region ?_
    refine JL_run 1 [] [2] 0 ⟨[(2, .v (.slice none 0 0))], []⟩ [] [] (by kernel_rfl) on wn ?_
    refine l_nil (q_then_normal ?_)
    refine c_ret ?_
    refine q_then_ret (q_ret (.inl rfl) [.v (.slice none 0 0)] rfl (fun bs w hS => ?_))
    have hnil : s.xs = [] := Sl.ok.empty oks (by cases h : s.A <;> simp_all)
    exact ⟨Sl.nil, rfl, hnil.symm, hS.kp, rowA_nil 9 w⟩
  | false =>
    refine c_if false rfl ?_
    refine c_skip ?_
    refine q_then_normal ?_
    refine c_seq ?_
    refine c_region ?_
    refine l_row0A (α := ByteArray) 9 Try.underlying26 rfl rfl rfl rfl ?_
    intro A1
    refine JL_run 1 [] [6, 5] 0 ⟨[(6, .v (.slice s.A s.n s.c)), (5, .v (.slice A1 (([] : List ByteArray).length) 0))], []⟩ [] [] (by kernel_rfl) on wn ?_
    refine l_appendA (α := ByteArray) 9 16 A1 0 ([]) (.v (.slice s.A s.n s.c)) (s.xs) Try.underlying26 (by kernel_rfl) rfl rfl rfl (fun bs w hS => ⟨_, _, rfl, Sl.rd.src (s := s) (Sl.rd.kp hs hS.kp)⟩) (by simp only [List.length_nil]; omega) (by simp only [List.length_nil]; omega) ?_
    intro A2 c2
    refine JL_run 1 [] [2] 0 ⟨[(2, .v (.slice A2 (([] ++ s.xs).length) c2))], []⟩ [] [] (by kernel_rfl) on wn ?_
    refine l_nil (q_then_normal ?_)
    refine c_ret ?_
    refine q_ret (.inl rfl) [.v (.slice A2 (([] ++ s.xs).length) c2)] rfl (fun bs w hS => ?_)
    exact ⟨⟨A2, c2, [] ++ s.xs⟩, rfl, by simp, hS.kp, hS.out1⟩

theorem clone_Wait {B : Nat → Prop} (s : Sl DWait) (w : World) (hs : s.rd B w) (hb : s.n ≤ 1048576) : Calls Try.prog 42 #[.slice s.A s.n s.c] w fun e w' => ∃ y : Sl DWait, e = .returned y.val ∧ y.xs = s.xs ∧ Kp [] w w' ∧ Fresh w w' (rowA 66 y.A y.c y.xs) := by
  have oks := Sl.rd.ok hs
  have ncs := Sl.ok.nc oks
  have hns : s.n = s.xs.length := rfl
  refine calls_J0 8 Try.func42 rfl rfl [.slice s.A s.n s.c] rfl ?_
  refine c_seq ?_
  refine c_region ?_
  refine JL_run 1 [] [0] 0 ⟨[(0, .v (.slice s.A s.n s.c))], []⟩ [] [] (by kernel_rfl) on wn ?_
  refine l_nil (q_then_normal ?_)
  refine c_seq ?_
  refine c_seq ?_
  refine c_region ?_
  refine JL_run 2 [(1, .val (.bool s.A.isNone))] [4, 0] 0 ⟨[(4, vB s.A.isNone), (0, .v (.slice s.A s.n s.c))], []⟩ [∀ w, (do eqGuard .eql 32 (.tmp 3) (.const (.slice none 0 0)) (.slice s.A s.n s.c) (.slice none 0 0); binOp .eql 32 (.slice s.A s.n s.c) (.slice none 0 0) : Sem Value).run Try.prog w = .ok (.bool s.A.isNone) w] [] (by kernel_rfl) (oc (eq_nil Try.underlying32) on) wn ?_
  refine l_nil (q_then_normal ?_)
  cases h1 : s.A.isNone with
  | true =>
    refine c_if true rfl ?_
    refine c_seq ?_
    refine c_region ?_
    refine JL_run 1 [] [2] 0 ⟨[(2, .v (.slice none 0 0))], []⟩ [] [] (by kernel_rfl) on wn ?_
    refine l_nil (q_then_normal ?_)
    refine c_ret ?_
    refine q_then_ret (q_ret (.inl rfl) [.v (.slice none 0 0)] rfl (fun bs w hS => ?_))
    have hnil : s.xs = [] := Sl.ok.empty oks (by cases h : s.A <;> simp_all)
    exact ⟨Sl.nil, rfl, hnil.symm, hS.kp, rowA_nil 66 w⟩
  | false =>
    refine c_if false rfl ?_
    refine c_skip ?_
    refine q_then_normal ?_
    refine c_seq ?_
    refine c_region ?_
    refine l_row0A (α := DWait) 66 Try.underlying32 rfl rfl rfl rfl ?_
    intro A1
    refine JL_run 1 [] [6, 5] 0 ⟨[(6, .v (.slice s.A s.n s.c)), (5, .v (.slice A1 (([] : List DWait).length) 0))], []⟩ [] [] (by kernel_rfl) on wn ?_
    refine l_appendA (α := DWait) 66 56 A1 0 ([]) (.v (.slice s.A s.n s.c)) (s.xs) Try.underlying32 (by kernel_rfl) rfl rfl rfl (fun bs w hS => ⟨_, _, rfl, Sl.rd.src (s := s) (Sl.rd.kp hs hS.kp)⟩) (by simp only [List.length_nil]; omega) (by simp only [List.length_nil]; omega) ?_
    intro A2 c2
    refine JL_run 1 [] [2] 0 ⟨[(2, .v (.slice A2 (([] ++ s.xs).length) c2))], []⟩ [] [] (by kernel_rfl) on wn ?_
    refine l_nil (q_then_normal ?_)
    refine c_ret ?_
    refine q_ret (.inl rfl) [.v (.slice A2 (([] ++ s.xs).length) c2)] rfl (fun bs w hS => ?_)
    exact ⟨⟨A2, c2, [] ++ s.xs⟩, rfl, by simp, hS.kp, hS.out1⟩

theorem clone_Int {B : Nat → Prop} (s : Sl Int) (w : World) (hs : s.rd B w) (hb : s.n ≤ 1048576) : Calls Try.prog 45 #[.slice s.A s.n s.c] w fun e w' => ∃ y : Sl Int, e = .returned y.val ∧ y.xs = s.xs ∧ Kp [] w w' ∧ Fresh w w' (rowA 3 y.A y.c y.xs) := by
  have oks := Sl.rd.ok hs
  have ncs := Sl.ok.nc oks
  have hns : s.n = s.xs.length := rfl
  refine calls_J0 8 Try.func45 rfl rfl [.slice s.A s.n s.c] rfl ?_
  refine c_seq ?_
  refine c_region ?_
  refine JL_run 1 [] [0] 0 ⟨[(0, .v (.slice s.A s.n s.c))], []⟩ [] [] (by kernel_rfl) on wn ?_
  refine l_nil (q_then_normal ?_)
  refine c_seq ?_
  refine c_seq ?_
  refine c_region ?_
  refine JL_run 2 [(1, .val (.bool s.A.isNone))] [4, 0] 0 ⟨[(4, vB s.A.isNone), (0, .v (.slice s.A s.n s.c))], []⟩ [∀ w, (do eqGuard .eql 24 (.tmp 3) (.const (.slice none 0 0)) (.slice s.A s.n s.c) (.slice none 0 0); binOp .eql 24 (.slice s.A s.n s.c) (.slice none 0 0) : Sem Value).run Try.prog w = .ok (.bool s.A.isNone) w] [] (by kernel_rfl) (oc (eq_nil Try.underlying24) on) wn ?_
  refine l_nil (q_then_normal ?_)
  cases h1 : s.A.isNone with
  | true =>
    refine c_if true rfl ?_
    refine c_seq ?_
    refine c_region ?_
    refine JL_run 1 [] [2] 0 ⟨[(2, .v (.slice none 0 0))], []⟩ [] [] (by kernel_rfl) on wn ?_
    refine l_nil (q_then_normal ?_)
    refine c_ret ?_
    refine q_then_ret (q_ret (.inl rfl) [.v (.slice none 0 0)] rfl (fun bs w hS => ?_))
    have hnil : s.xs = [] := Sl.ok.empty oks (by cases h : s.A <;> simp_all)
    exact ⟨Sl.nil, rfl, hnil.symm, hS.kp, rowA_nil 3 w⟩
  | false =>
    refine c_if false rfl ?_
    refine c_skip ?_
    refine q_then_normal ?_
    refine c_seq ?_
    refine c_region ?_
    refine l_row0A (α := Int) 3 Try.underlying24 rfl rfl rfl rfl ?_
    intro A1
    refine JL_run 1 [] [6, 5] 0 ⟨[(6, .v (.slice s.A s.n s.c)), (5, .v (.slice A1 (([] : List Int).length) 0))], []⟩ [] [] (by kernel_rfl) on wn ?_
    refine l_appendA (α := Int) 3 8 A1 0 ([]) (.v (.slice s.A s.n s.c)) (s.xs) Try.underlying24 (by kernel_rfl) rfl rfl rfl (fun bs w hS => ⟨_, _, rfl, Sl.rd.src (s := s) (Sl.rd.kp hs hS.kp)⟩) (by simp only [List.length_nil]; omega) (by simp only [List.length_nil]; omega) ?_
    intro A2 c2
    refine JL_run 1 [] [2] 0 ⟨[(2, .v (.slice A2 (([] ++ s.xs).length) c2))], []⟩ [] [] (by kernel_rfl) on wn ?_
    refine l_nil (q_then_normal ?_)
    refine c_ret ?_
    refine q_ret (.inl rfl) [.v (.slice A2 (([] ++ s.xs).length) c2)] rfl (fun bs w hS => ?_)
    exact ⟨⟨A2, c2, [] ++ s.xs⟩, rfl, by simp, hS.kp, hS.out1⟩

theorem clone_Kept {B : Nat → Prop} (s : Sl DKept) (w : World) (hs : s.rd B w) (hb : s.n ≤ 1048576) : Calls Try.prog 47 #[.slice s.A s.n s.c] w fun e w' => ∃ y : Sl DKept, e = .returned y.val ∧ y.xs = s.xs ∧ Kp [] w w' ∧ Fresh w w' (rowA 85 y.A y.c y.xs) := by
  have oks := Sl.rd.ok hs
  have ncs := Sl.ok.nc oks
  have hns : s.n = s.xs.length := rfl
  refine calls_J0 8 Try.func47 rfl rfl [.slice s.A s.n s.c] rfl ?_
  refine c_seq ?_
  refine c_region ?_
  refine JL_run 1 [] [0] 0 ⟨[(0, .v (.slice s.A s.n s.c))], []⟩ [] [] (by kernel_rfl) on wn ?_
  refine l_nil (q_then_normal ?_)
  refine c_seq ?_
  refine c_seq ?_
  refine c_region ?_
  refine JL_run 2 [(1, .val (.bool s.A.isNone))] [4, 0] 0 ⟨[(4, vB s.A.isNone), (0, .v (.slice s.A s.n s.c))], []⟩ [∀ w, (do eqGuard .eql 78 (.tmp 3) (.const (.slice none 0 0)) (.slice s.A s.n s.c) (.slice none 0 0); binOp .eql 78 (.slice s.A s.n s.c) (.slice none 0 0) : Sem Value).run Try.prog w = .ok (.bool s.A.isNone) w] [] (by kernel_rfl) (oc (eq_nil Try.underlying78) on) wn ?_
  refine l_nil (q_then_normal ?_)
  cases h1 : s.A.isNone with
  | true =>
    refine c_if true rfl ?_
    refine c_seq ?_
    refine c_region ?_
    refine JL_run 1 [] [2] 0 ⟨[(2, .v (.slice none 0 0))], []⟩ [] [] (by kernel_rfl) on wn ?_
    refine l_nil (q_then_normal ?_)
    refine c_ret ?_
    refine q_then_ret (q_ret (.inl rfl) [.v (.slice none 0 0)] rfl (fun bs w hS => ?_))
    have hnil : s.xs = [] := Sl.ok.empty oks (by cases h : s.A <;> simp_all)
    exact ⟨Sl.nil, rfl, hnil.symm, hS.kp, rowA_nil 85 w⟩
  | false =>
    refine c_if false rfl ?_
    refine c_skip ?_
    refine q_then_normal ?_
    refine c_seq ?_
    refine c_region ?_
    refine l_row0A (α := DKept) 85 Try.underlying78 rfl rfl rfl rfl ?_
    intro A1
    refine JL_run 1 [] [6, 5] 0 ⟨[(6, .v (.slice s.A s.n s.c)), (5, .v (.slice A1 (([] : List DKept).length) 0))], []⟩ [] [] (by kernel_rfl) on wn ?_
    refine l_appendA (α := DKept) 85 40 A1 0 ([]) (.v (.slice s.A s.n s.c)) (s.xs) Try.underlying78 (by kernel_rfl) rfl rfl rfl (fun bs w hS => ⟨_, _, rfl, Sl.rd.src (s := s) (Sl.rd.kp hs hS.kp)⟩) (by simp only [List.length_nil]; omega) (by simp only [List.length_nil]; omega) ?_
    intro A2 c2
    refine JL_run 1 [] [2] 0 ⟨[(2, .v (.slice A2 (([] ++ s.xs).length) c2))], []⟩ [] [] (by kernel_rfl) on wn ?_
    refine l_nil (q_then_normal ?_)
    refine c_ret ?_
    refine q_ret (.inl rfl) [.v (.slice A2 (([] ++ s.xs).length) c2)] rfl (fun bs w hS => ?_)
    exact ⟨⟨A2, c2, [] ++ s.xs⟩, rfl, by simp, hS.kp, hS.out1⟩

theorem log_Copy {B : Nat → Prop} (x : CLog) (w : World) (hx : Rds.sub B w x) (hsm : Rds.small x) : Calls Try.prog 23 #[.agg #[.int .i64 x.base, .slice x.entries.A x.entries.n x.entries.c]] w fun e w' => ∃ y : CLog, e = .returned (y.val) ∧ y.abs = x.abs ∧ FreshS w w' y := by
  have okx := Rds.okof hx
  refine calls_J0 9 Try.func23 rfl rfl [.agg #[.int .i64 x.base, .slice x.entries.A x.entries.n x.entries.c]] rfl ?_
  refine c_seq ?_
  refine c_region ?_
  refine JL_run 2 [] [2, 1] 2 ⟨[(2, .p 1 0), (1, .p 0 0)], [⟨28, [vI x.base, .v (.slice x.entries.A x.entries.n x.entries.c)]⟩, ⟨28, [vI 0, .v (.slice none 0 0)]⟩]⟩ [] [] (by kernel_rfl) on wn ?_
  refine l_nil (q_then_normal ?_)
  refine c_seq ?_
  refine c_draw 6 [(0, false), (1, false), (2, false), (3, false), (4, true), (5, false)] [] [] Try_mixed (by kernel_rfl) (pq_then pq_body) (List.Sublist.refl _) ?_
  refine h_quiet [] 4 [(6, .v (.slice x.entries.A x.entries.n x.entries.c)), (5, .p 0 1), (4, vI x.base), (3, .p 0 0), (2, .p 1 0), (1, .p 0 0)] [] [] rfl rfl (by kernel_rfl) on wn ?_
  refine h_freshF (σ := Sl ByteArray) 40 [] [.v (.slice x.entries.A x.entries.n x.entries.c)] (fun y1 => .slice y1.A y1.n y1.c) (fun y1 => y1.xs = x.entries.xs) (fun y1 => rowA 9 y1.A y1.c (y1.xs : List ByteArray)) rfl Try.call40 rfl rfl rfl rfl (fun bs w hS => clone_ByteArray x.entries w (Rds.kp hx hS.kp) (And.left hsm)) (fun bs0 bs y w hp hl hS => hS.down hp hl rfl (le_same (le_same le_nil)) (.cons _ (List.Sublist.refl _))) ?_
  rintro y1 hF1
  refine h_quiet [] 1 [(8, .v (.agg #[.int .i64 x.base, .slice y1.A y1.n y1.c])), (7, .v (.slice y1.A y1.n y1.c)), (6, .v (.slice x.entries.A x.entries.n x.entries.c)), (5, .p 0 1), (4, vI x.base), (3, .p 0 0), (2, .p 1 0), (1, .p 0 0)] [] [] rfl rfl (by kernel_rfl) on wn ?_
  refine h_nil ?_
  refine JL_run 1 [] [2] 2 ⟨[(2, .p 1 0)], [⟨28, [vI x.base, .v (.slice x.entries.A x.entries.n x.entries.c)]⟩, ⟨28, [vI x.base, .v (.slice y1.A y1.n y1.c)]⟩]⟩ [] [] (by kernel_rfl) on wn ?_
  refine l_nil (q_then_normal ?_)
  refine c_ret ?_
  refine q_ret (.inl rfl) [.v (.agg #[.int .i64 x.base, .slice y1.A y1.n y1.c])] rfl (fun bs w hS => ?_)
  exact ⟨⟨x.base, y1⟩, rfl, by simp [CLog.abs, hF1], hS.outS (y := (⟨x.base, y1⟩ : CLog)) (allR_row (.head _) (hS.res _ (.head _)) (fun z hz => Sl.rd.mem (s := x.entries) hx z (hF1 ▸ hz)))⟩

theorem same_log {B B' : Nat → Prop} (a b : CLog) (w : World) (ha : Rds.sub B w a) (hb : Rds.sub B' w b) (he : a.abs = b.abs) : Calls Try.prog 24 #[.agg #[.int .i64 a.base, .slice a.entries.A a.entries.n a.entries.c], .agg #[.int .i64 b.base, .slice b.entries.A b.entries.n b.entries.c]] w fun e w' => e = .returned (.bool true) ∧ Kp [] w w' := by
  have oka := Rds.okof ha
  have okb := Rds.okof hb
  refine calls_J0 17 Try.func24 rfl rfl [.agg #[.int .i64 a.base, .slice a.entries.A a.entries.n a.entries.c], .agg #[.int .i64 b.base, .slice b.entries.A b.entries.n b.entries.c]] rfl ?_
  refine c_seq ?_
  refine c_region ?_
  refine JL_run 3 [] [3, 2] 2 ⟨[(3, .p 1 0), (2, .p 0 0)], [⟨28, [vI a.base, .v (.slice a.entries.A a.entries.n a.entries.c)]⟩, ⟨28, [vI b.base, .v (.slice b.entries.A b.entries.n b.entries.c)]⟩]⟩ [] [] (by kernel_rfl) on wn ?_
  refine l_nil (q_then_normal ?_)
  refine c_seq ?_
  refine c_region ?_
  refine JL_run 6 [] [10, 3, 2] 2 ⟨[(10, vB (decide (a.base = b.base))), (3, .p 1 0), (2, .p 0 0)], [⟨28, [vI a.base, .v (.slice a.entries.A a.entries.n a.entries.c)]⟩, ⟨28, [vI b.base, .v (.slice b.entries.A b.entries.n b.entries.c)]⟩]⟩ [] [] (by kernel_rfl) on wn ?_
  cases h1 : decide (a.base = b.base) with
  | true =>
    have h1 := of_decide_eq_true h1
    refine JL_run 4 [] [14, 12, 10] 0 ⟨[(14, .v (.slice b.entries.A b.entries.n b.entries.c)), (12, .v (.slice a.entries.A a.entries.n a.entries.c)), (10, vB true)], []⟩ [] [] (by kernel_rfl) on wn ?_
    refine l_pure 41 [] [.v (.slice a.entries.A a.entries.n a.entries.c), .v (.slice b.entries.A b.entries.n b.entries.c)] (.bool true) Try.call41 rfl rfl rfl rfl (fun bs w hS => same_texts _ _ w (Rds.kp ha hS.kp) (Rds.kp hb hS.kp) (congrArg DLog.entries he)) ?_
    refine JL_run 2 [] [4] 0 ⟨[(4, vB true)], []⟩ [] [] (by kernel_rfl) on wn ?_
    refine l_nil (q_then_normal ?_)
    refine c_ret ?_
    refine q_ret (.inl rfl) [vB true] rfl (fun bs w hS => ?_)
    exact ⟨rfl, hS.kp⟩
  | false =>
    have h1 := of_decide_eq_false h1
    exact absurd (congrArg (fun q => q.base) he) h1

theorem customer_Copy {B : Nat → Prop} (x : CCustomer) (w : World) (hx : Rds.sub B w x) (hsm : Rds.small x) : Calls Try.prog 27 #[.agg #[.int .i64 x.id, .int .i64 x.session, .int .i64 x.next, .slice x.waits.A x.waits.n x.waits.c]] w fun e w' => ∃ y : CCustomer, e = .returned (y.val) ∧ y.abs = x.abs ∧ FreshS w w' y := by
  have okx := Rds.okof hx
  refine calls_J0 8 Try.func27 rfl rfl [.agg #[.int .i64 x.id, .int .i64 x.session, .int .i64 x.next, .slice x.waits.A x.waits.n x.waits.c]] rfl ?_
  refine c_seq ?_
  refine c_region ?_
  refine JL_run 2 [] [2, 1] 2 ⟨[(2, .p 1 0), (1, .p 0 0)], [⟨34, [vI x.id, vI x.session, vI x.next, .v (.slice x.waits.A x.waits.n x.waits.c)]⟩, ⟨34, [vI 0, vI 0, vI 0, .v (.slice none 0 0)]⟩]⟩ [] [] (by kernel_rfl) on wn ?_
  refine l_nil (q_then_normal ?_)
  refine c_seq ?_
  refine c_region ?_
  refine JL_run 2 [] [4, 2, 1] 2 ⟨[(4, .v (.slice x.waits.A x.waits.n x.waits.c)), (2, .p 1 0), (1, .p 0 0)], [⟨34, [vI x.id, vI x.session, vI x.next, .v (.slice x.waits.A x.waits.n x.waits.c)]⟩, ⟨34, [vI 0, vI 0, vI 0, .v (.slice none 0 0)]⟩]⟩ [] [] (by kernel_rfl) on wn ?_
  refine l_freshF (σ := Sl DWait) 42 [] [.v (.slice x.waits.A x.waits.n x.waits.c)] (fun y1 => .slice y1.A y1.n y1.c) (fun y1 => y1.xs = x.waits.xs) (fun y1 => rowA 66 y1.A y1.c (y1.xs : List DWait)) Try.call42 rfl rfl rfl rfl (fun bs w hS => clone_Wait x.waits w (Rds.kp hx hS.kp) (And.left hsm)) ?_
  rintro y1 hF1
  refine JL_run 2 [] [2, 1] 2 ⟨[(2, .p 1 0), (1, .p 0 0)], [⟨34, [vI x.id, vI x.session, vI x.next, .v (.slice y1.A y1.n y1.c)]⟩, ⟨34, [vI 0, vI 0, vI 0, .v (.slice none 0 0)]⟩]⟩ [] [] (by kernel_rfl) on wn ?_
  refine l_nil (q_then_normal ?_)
  refine c_seq ?_
  refine c_region ?_
  refine JL_run 2 [] [2] 2 ⟨[(2, .p 1 0)], [⟨34, [vI x.id, vI x.session, vI x.next, .v (.slice y1.A y1.n y1.c)]⟩, ⟨34, [vI x.id, vI x.session, vI x.next, .v (.slice y1.A y1.n y1.c)]⟩]⟩ [] [] (by kernel_rfl) on wn ?_
  refine l_nil (q_then_normal ?_)
  refine c_ret ?_
  refine q_ret (.inl rfl) [.v (.agg #[.int .i64 x.id, .int .i64 x.session, .int .i64 x.next, .slice y1.A y1.n y1.c])] rfl (fun bs w hS => ?_)
  exact ⟨⟨x.id, x.session, x.next, y1⟩, rfl, by simp [CCustomer.abs, hF1], hS.outS (y := (⟨x.id, x.session, x.next, y1⟩ : CCustomer)) (allR_row (.head _) (hS.res _ (.head _)) (fun z hz => Sl.rd.mem (s := x.waits) hx z (hF1 ▸ hz)))⟩

theorem law_LogCopies {B : Nat → Prop} (x : CLog) (w : World) (hx : Rds.sub B w x) (hsm : Rds.small x) : Calls Try.prog 7 #[.agg #[.int .i64 x.base, .slice x.entries.A x.entries.n x.entries.c]] w fun e w' => e = .returned (.bool true) ∧ Kp [] w w' := by
  have okx := Rds.okof hx
  refine calls_J0 9 Try.func7 rfl rfl [.agg #[.int .i64 x.base, .slice x.entries.A x.entries.n x.entries.c]] rfl ?_
  refine c_seq ?_
  refine c_region ?_
  refine JL_run 2 [] [1] 1 ⟨[(1, .p 0 0)], [⟨28, [vI x.base, .v (.slice x.entries.A x.entries.n x.entries.c)]⟩]⟩ [] [] (by kernel_rfl) on wn ?_
  refine l_nil (q_then_normal ?_)
  refine c_seq ?_
  refine c_region ?_
  refine JL_run 1 [] [4, 1] 1 ⟨[(4, .v (.agg #[.int .i64 x.base, .slice x.entries.A x.entries.n x.entries.c])), (1, .p 0 0)], [⟨28, [vI x.base, .v (.slice x.entries.A x.entries.n x.entries.c)]⟩]⟩ [] [] (by kernel_rfl) on wn ?_
  refine l_sub_call (σ := CLog) 23 [] [.v (.agg #[.int .i64 x.base, .slice x.entries.A x.entries.n x.entries.c])] (fun y1 => .agg #[.int .i64 y1.base, .slice y1.entries.A y1.entries.n y1.entries.c]) (fun y1 => y1.abs = x.abs) Try.call23 rfl rfl rfl rfl (fun bs w hS => log_Copy x w (Rds.kp hx hS.kp) hsm) ?_
  rintro fp1 y1 hF1 hok1
  refine JL_run 2 [] [3, 1] 2 ⟨[(3, .p 1 0), (1, .p 0 0)], [⟨28, [vI x.base, .v (.slice x.entries.A x.entries.n x.entries.c)]⟩, ⟨28, [vI y1.base, .v (.slice y1.entries.A y1.entries.n y1.entries.c)]⟩]⟩ [] [] (by kernel_rfl) on wn ?_
  refine l_nil (q_then_normal ?_)
  refine c_seq ?_
  refine c_region ?_
  refine JL_run 2 [] [7, 6] 0 ⟨[(7, .v (.agg #[.int .i64 x.base, .slice x.entries.A x.entries.n x.entries.c])), (6, .v (.agg #[.int .i64 y1.base, .slice y1.entries.A y1.entries.n y1.entries.c]))], []⟩ [] [] (by kernel_rfl) on wn ?_
  refine l_pure 24 [] [.v (.agg #[.int .i64 y1.base, .slice y1.entries.A y1.entries.n y1.entries.c]), .v (.agg #[.int .i64 x.base, .slice x.entries.A x.entries.n x.entries.c])] (.bool true) Try.call24 rfl rfl rfl rfl (fun bs w hS => same_log y1 x w (hS.res _ (.head _)) (Rds.kp hx hS.kp) hF1) ?_
  refine JL_run 1 [] [2] 0 ⟨[(2, vB true)], []⟩ [] [] (by kernel_rfl) on wn ?_
  refine l_nil (q_then_normal ?_)
  refine c_ret ?_
  refine q_ret (.inl rfl) [vB true] rfl (fun bs w hS => ?_)
  refine ⟨?_, hS.kp⟩
  simp [retOf, den]

theorem same_customer {B B' : Nat → Prop} (a b : CCustomer) (w : World) (ha : Rds.sub B w a) (hb : Rds.sub B' w b) (he : a.abs = b.abs) : Calls Try.prog 20 #[.agg #[.int .i64 a.id, .int .i64 a.session, .int .i64 a.next, .slice a.waits.A a.waits.n a.waits.c], .agg #[.int .i64 b.id, .int .i64 b.session, .int .i64 b.next, .slice b.waits.A b.waits.n b.waits.c]] w fun e w' => e = .returned (.bool true) ∧ Kp [] w w' := by
  have oka := Rds.okof ha
  have okb := Rds.okof hb
  have hw : a.waits.xs = b.waits.xs := congrArg DCustomer.waits he
  have hwn := xs_n hw
  have h1 : a.id = b.id := congrArg DCustomer.id he
  have h2 : a.session = b.session := congrArg DCustomer.session he
  have h3 : a.next = b.next := congrArg DCustomer.next he
  have nca := Sl.ok.nc oka
  refine calls_J0 52 Try.func20 rfl rfl [.agg #[.int .i64 a.id, .int .i64 a.session, .int .i64 a.next, .slice a.waits.A a.waits.n a.waits.c], .agg #[.int .i64 b.id, .int .i64 b.session, .int .i64 b.next, .slice b.waits.A b.waits.n b.waits.c]] rfl ?_
  refine c_seq ?_
  refine c_region ?_
  refine JL_run 3 [] [3, 2] 2 ⟨[(3, .p 1 0), (2, .p 0 0)], [⟨34, [vI a.id, vI a.session, vI a.next, .v (.slice a.waits.A a.waits.n a.waits.c)]⟩, ⟨34, [vI b.id, vI b.session, vI b.next, .v (.slice b.waits.A b.waits.n b.waits.c)]⟩]⟩ [] [] (by kernel_rfl) on wn ?_
  refine l_nil (q_then_normal ?_)
  refine c_seq ?_
  refine c_seq ?_
  refine c_region ?_
  refine JL_run 6 [] [11, 3, 2] 2 ⟨[(11, vB (!(decide (a.id = b.id)))), (3, .p 1 0), (2, .p 0 0)], [⟨34, [vI a.id, vI a.session, vI a.next, .v (.slice a.waits.A a.waits.n a.waits.c)]⟩, ⟨34, [vI b.id, vI b.session, vI b.next, .v (.slice b.waits.A b.waits.n b.waits.c)]⟩]⟩ [] [] (by kernel_rfl) on wn ?_
  cases h11 : decide (a.id = b.id) with
  | true =>
    have h11 := of_decide_eq_true h11
    refine JL_run 7 [] [18, 3, 2] 2 ⟨[(18, vB (!(decide (a.session = b.session)))), (3, .p 1 0), (2, .p 0 0)], [⟨34, [vI a.id, vI a.session, vI a.next, .v (.slice a.waits.A a.waits.n a.waits.c)]⟩, ⟨34, [vI b.id, vI b.session, vI b.next, .v (.slice b.waits.A b.waits.n b.waits.c)]⟩]⟩ [] [] (by kernel_rfl) on wn ?_
    cases h12 : decide (a.session = b.session) with
    | true =>
      have h12 := of_decide_eq_true h12
      refine JL_run 7 [] [25, 3, 2] 2 ⟨[(25, vB (!(decide (a.next = b.next)))), (3, .p 1 0), (2, .p 0 0)], [⟨34, [vI a.id, vI a.session, vI a.next, .v (.slice a.waits.A a.waits.n a.waits.c)]⟩, ⟨34, [vI b.id, vI b.session, vI b.next, .v (.slice b.waits.A b.waits.n b.waits.c)]⟩]⟩ [] [] (by kernel_rfl) on wn ?_
      cases h13 : decide (a.next = b.next) with
      | true =>
        have h13 := of_decide_eq_true h13
        refine JL_run 8 [] [33, 3, 2] 2 ⟨[(33, vB (!(decide (((a.waits.n : Nat) : Int) = ((b.waits.n : Nat) : Int))))), (3, .p 1 0), (2, .p 0 0)], [⟨34, [vI a.id, vI a.session, vI a.next, .v (.slice a.waits.A a.waits.n a.waits.c)]⟩, ⟨34, [vI b.id, vI b.session, vI b.next, .v (.slice b.waits.A b.waits.n b.waits.c)]⟩]⟩ [] [] (by kernel_rfl) on wn ?_
        refine l_nil (q_then_normal ?_)
        cases h14 : decide (((a.waits.n : Nat) : Int) = ((b.waits.n : Nat) : Int)) with
        | true =>
          have h14 := of_decide_eq_true h14
          refine c_if false rfl ?_
          refine c_skip ?_
          refine q_then_normal ?_
          refine c_seq ?_
          refine c_seq ?_
          refine c_region ?_
          refine JL_run 1 [] [5, 3, 2] 2 ⟨[(5, vI 0), (3, .p 1 0), (2, .p 0 0)], [⟨34, [vI a.id, vI a.session, vI a.next, .v (.slice a.waits.A a.waits.n a.waits.c)]⟩, ⟨34, [vI b.id, vI b.session, vI b.next, .v (.slice b.waits.A b.waits.n b.waits.c)]⟩]⟩ [] [] (by kernel_rfl) on wn ?_
          refine l_nil (q_then_normal ?_)
          refine c_block ?_
          refine c_loop (σ := Nat) (fun i => True) (fun i => a.waits.n - i) (fun i => []) (fun i => ⟨[(5, vI ((i : Nat) : Int)), (3, .p 1 0), (2, .p 0 0)], [⟨34, [vI a.id, vI a.session, vI a.next, .v (.slice a.waits.A a.waits.n a.waits.c)]⟩, ⟨34, [vI b.id, vI b.session, vI b.next, .v (.slice b.waits.A b.waits.n b.waits.c)]⟩]⟩) 0 trivial (s_start [5, 3, 2] 2 (by kernel_rfl) rfl) ?_
          rintro i _
          have hat := xs_at hw i
          refine c_seq ?_
          refine c_seq ?_
          refine c_region ?_
          refine JL_run 5 [] [38, 5, 3, 2] 2 ⟨[(38, vB (decide (((i : Nat) : Int) < ((a.waits.n : Nat) : Int)))), (5, vI ((i : Nat) : Int)), (3, .p 1 0), (2, .p 0 0)], [⟨34, [vI a.id, vI a.session, vI a.next, .v (.slice a.waits.A a.waits.n a.waits.c)]⟩, ⟨34, [vI b.id, vI b.session, vI b.next, .v (.slice b.waits.A b.waits.n b.waits.c)]⟩]⟩ [] [] (by kernel_rfl) on wn ?_
          refine l_nil (q_then_normal ?_)
          cases h15 : decide (((i : Nat) : Int) < ((a.waits.n : Nat) : Int)) with
          | true =>
            have h15 := of_decide_eq_true h15
            refine c_if true rfl ?_
            refine c_skip ?_
            refine q_then_normal ?_
            refine c_seq ?_
            refine c_block ?_
            refine c_seq ?_
            refine c_draw 11 [(0, false), (1, false), (2, false), (3, false), (4, false), (5, false), (6, false), (7, false), (8, false), (9, false), (10, false)] [] [] Try_mixed (by kernel_rfl) (pq_then (pq_block (pq_then (pq_then (pq_block (pq_then pq_body)))))) (List.Sublist.refl _) ?_
            refine h_quiet [(3, .idx a.waits.ad i), (4, .ext [.int .i64 ((a.waits.at i).seq), .int .i64 ((a.waits.at i).op.kind), .string ((a.waits.at i).op.a), .string ((a.waits.at i).op.b), .int .i64 ((a.waits.at i).op.n)]), (8, .idx b.waits.ad i), (9, .ext [.int .i64 ((b.waits.at i).seq), .int .i64 ((b.waits.at i).op.kind), .string ((b.waits.at i).op.a), .string ((b.waits.at i).op.b), .int .i64 ((b.waits.at i).op.n)]), (10, .val (.bool (!((decide ((a.waits.at i).seq = (b.waits.at i).seq)) && (((decide ((a.waits.at i).op.kind = (b.waits.at i).op.kind)) && ((decide (((a.waits.at i).op.a) = ((b.waits.at i).op.a))) && ((decide (((a.waits.at i).op.b) = ((b.waits.at i).op.b))) && ((decide ((a.waits.at i).op.n = (b.waits.at i).op.n)) && true)))) && true)))))] 11 [(51, vB (!((decide ((a.waits.at i).seq = (b.waits.at i).seq)) && (((decide ((a.waits.at i).op.kind = (b.waits.at i).op.kind)) && ((decide (((a.waits.at i).op.a) = ((b.waits.at i).op.a))) && ((decide (((a.waits.at i).op.b) = ((b.waits.at i).op.b))) && ((decide ((a.waits.at i).op.n = (b.waits.at i).op.n)) && true)))) && true)))), (50, .v (.agg #[.int .i64 ((b.waits.at i).seq), .int .i64 ((b.waits.at i).op.kind), .string ((b.waits.at i).op.a), .string ((b.waits.at i).op.b), .int .i64 ((b.waits.at i).op.n)])), (49, .v (.pointer (some (b.waits.ad.add (i * 5))))), (48, vI ((i : Nat) : Int)), (47, .v (.slice b.waits.A b.waits.n b.waits.c)), (46, .p 1 3), (45, .v (.agg #[.int .i64 ((a.waits.at i).seq), .int .i64 ((a.waits.at i).op.kind), .string ((a.waits.at i).op.a), .string ((a.waits.at i).op.b), .int .i64 ((a.waits.at i).op.n)])), (44, .v (.pointer (some (a.waits.ad.add (i * 5))))), (43, vI ((i : Nat) : Int)), (42, .v (.slice a.waits.A a.waits.n a.waits.c)), (41, .p 0 3), (38, vB true), (5, vI ((i : Nat) : Int)), (3, .p 1 0), (2, .p 0 0)] [a.waits.A = some a.waits.ad, ((i : Nat) : Int) = ((i : Nat) : Int), i < a.waits.n, b.waits.A = some b.waits.ad, ((i : Nat) : Int) = ((i : Nat) : Int), i < b.waits.n, ∀ w, (do eqGuard .neq 66 (.tmp 45) (.tmp 50) (.agg #[.int .i64 ((a.waits.at i).seq), .int .i64 ((a.waits.at i).op.kind), .string ((a.waits.at i).op.a), .string ((a.waits.at i).op.b), .int .i64 ((a.waits.at i).op.n)]) (.agg #[.int .i64 ((b.waits.at i).seq), .int .i64 ((b.waits.at i).op.kind), .string ((b.waits.at i).op.a), .string ((b.waits.at i).op.b), .int .i64 ((b.waits.at i).op.n)]); binOp .neq 66 (.agg #[.int .i64 ((a.waits.at i).seq), .int .i64 ((a.waits.at i).op.kind), .string ((a.waits.at i).op.a), .string ((a.waits.at i).op.b), .int .i64 ((a.waits.at i).op.n)]) (.agg #[.int .i64 ((b.waits.at i).seq), .int .i64 ((b.waits.at i).op.kind), .string ((b.waits.at i).op.a), .string ((b.waits.at i).op.b), .int .i64 ((b.waits.at i).op.n)]) : Sem Value).run Try.prog w = .ok (.bool (!((decide ((a.waits.at i).seq = (b.waits.at i).seq)) && (((decide ((a.waits.at i).op.kind = (b.waits.at i).op.kind)) && ((decide (((a.waits.at i).op.a) = ((b.waits.at i).op.a))) && ((decide (((a.waits.at i).op.b) = ((b.waits.at i).op.b))) && ((decide ((a.waits.at i).op.n = (b.waits.at i).op.n)) && true)))) && true)))) w] [(a.waits.ad.add (i * 5), [.int .i64 ((a.waits.at i).seq), .int .i64 ((a.waits.at i).op.kind), .string ((a.waits.at i).op.a), .string ((a.waits.at i).op.b), .int .i64 ((a.waits.at i).op.n)]), (b.waits.ad.add (i * 5), [.int .i64 ((b.waits.at i).seq), .int .i64 ((b.waits.at i).op.kind), .string ((b.waits.at i).op.a), .string ((b.waits.at i).op.b), .int .i64 ((b.waits.at i).op.n)])] rfl rfl (by kernel_rfl) (oc (Sl.ok.own (s := a.waits) (i := i) oka (by omega)) (oc rfl (oc (by omega) (oc (Sl.ok.own (s := b.waits) (i := i) okb (by omega)) (oc rfl (oc (by omega) (oc (neq_agg (by kernel_rfl) (by kernel_rfl)) on))))))) (fun w hk hr => ⟨(Sl.rd.all (s := a.waits) (i := i) (Rds.kp ha hk) (by omega) rfl), ⟨(Sl.rd.all (s := b.waits) (i := i) (Rds.kp hb hk) (by omega) rfl), trivial⟩⟩) ?_
            refine h_nil ?_
            refine l_nil (q_then_normal ?_)
            cases h16 : (decide ((a.waits.at i).seq = (b.waits.at i).seq)) && (((decide ((a.waits.at i).op.kind = (b.waits.at i).op.kind)) && ((decide (((a.waits.at i).op.a) = ((b.waits.at i).op.a))) && ((decide (((a.waits.at i).op.b) = ((b.waits.at i).op.b))) && ((decide ((a.waits.at i).op.n = (b.waits.at i).op.n)) && true)))) && true) with
            | true =>
              refine c_if false rfl ?_
              refine c_skip ?_
              refine q_block_normal (q_then_normal ?_)
              refine c_region ?_
              refine JL_run 3 [] [5, 3, 2] 2 ⟨[(5, vI (((i : Nat) : Int) + 1)), (3, .p 1 0), (2, .p 0 0)], [⟨34, [vI a.id, vI a.session, vI a.next, .v (.slice a.waits.A a.waits.n a.waits.c)]⟩, ⟨34, [vI b.id, vI b.session, vI b.next, .v (.slice b.waits.A b.waits.n b.waits.c)]⟩]⟩ [inR (((i : Nat) : Int) + 1)] [] (by kernel_rfl) (oc (by unfold inR; omega) on) wn ?_
              refine l_nil (q_loop (x := (i : Nat)) ((i + 1) : Nat) trivial (by omega) (s_start [5, 3, 2] 2 (by kernel_rfl) rfl))
            | false =>
              exfalso; first | omega | (rw [hat] at h16; simp at h16)
          | false =>
            have h15 := of_decide_eq_false h15
            refine c_if false rfl ?_
            refine c_exit ?_
            refine q_then_exit (q_then_exit (q_block_hit (q_then_normal ?_)))
            refine c_seq ?_
            refine c_region ?_
            refine JL_run 1 [] [4] 0 ⟨[(4, vB true)], []⟩ [] [] (by kernel_rfl) on wn ?_
            refine l_nil (q_then_normal ?_)
            refine c_ret ?_
            refine q_ret (.inl rfl) [vB true] rfl (fun bs w hS => ?_)
            exact ⟨rfl, hS.kp⟩
        | false =>
          have h14 := of_decide_eq_false h14
          exfalso; first | omega | (rw [hat] at h14; simp at h14)
      | false =>
        have h13 := of_decide_eq_false h13
        exfalso; first | omega | (rw [hat] at h13; simp at h13)
    | false =>
      have h12 := of_decide_eq_false h12
      exfalso; first | omega | (rw [hat] at h12; simp at h12)
  | false =>
    have h11 := of_decide_eq_false h11
    exfalso; first | omega | (rw [hat] at h11; simp at h11)

theorem law_CustomerCopies {B : Nat → Prop} (x : CCustomer) (w : World) (hx : Rds.sub B w x) (hsm : Rds.small x) : Calls Try.prog 9 #[.agg #[.int .i64 x.id, .int .i64 x.session, .int .i64 x.next, .slice x.waits.A x.waits.n x.waits.c]] w fun e w' => e = .returned (.bool true) ∧ Kp [] w w' := by
  have okx := Rds.okof hx
  refine calls_J0 9 Try.func9 rfl rfl [.agg #[.int .i64 x.id, .int .i64 x.session, .int .i64 x.next, .slice x.waits.A x.waits.n x.waits.c]] rfl ?_
  refine c_seq ?_
  refine c_region ?_
  refine JL_run 2 [] [1] 1 ⟨[(1, .p 0 0)], [⟨34, [vI x.id, vI x.session, vI x.next, .v (.slice x.waits.A x.waits.n x.waits.c)]⟩]⟩ [] [] (by kernel_rfl) on wn ?_
  refine l_nil (q_then_normal ?_)
  refine c_seq ?_
  refine c_region ?_
  refine JL_run 1 [] [4, 1] 1 ⟨[(4, .v (.agg #[.int .i64 x.id, .int .i64 x.session, .int .i64 x.next, .slice x.waits.A x.waits.n x.waits.c])), (1, .p 0 0)], [⟨34, [vI x.id, vI x.session, vI x.next, .v (.slice x.waits.A x.waits.n x.waits.c)]⟩]⟩ [] [] (by kernel_rfl) on wn ?_
  refine l_sub_call (σ := CCustomer) 27 [] [.v (.agg #[.int .i64 x.id, .int .i64 x.session, .int .i64 x.next, .slice x.waits.A x.waits.n x.waits.c])] (fun y1 => .agg #[.int .i64 y1.id, .int .i64 y1.session, .int .i64 y1.next, .slice y1.waits.A y1.waits.n y1.waits.c]) (fun y1 => y1.abs = x.abs) Try.call27 rfl rfl rfl rfl (fun bs w hS => customer_Copy x w (Rds.kp hx hS.kp) hsm) ?_
  rintro fp1 y1 hF1 hok1
  refine JL_run 2 [] [3, 1] 2 ⟨[(3, .p 1 0), (1, .p 0 0)], [⟨34, [vI x.id, vI x.session, vI x.next, .v (.slice x.waits.A x.waits.n x.waits.c)]⟩, ⟨34, [vI y1.id, vI y1.session, vI y1.next, .v (.slice y1.waits.A y1.waits.n y1.waits.c)]⟩]⟩ [] [] (by kernel_rfl) on wn ?_
  refine l_nil (q_then_normal ?_)
  refine c_seq ?_
  refine c_region ?_
  refine JL_run 2 [] [7, 6] 0 ⟨[(7, .v (.agg #[.int .i64 x.id, .int .i64 x.session, .int .i64 x.next, .slice x.waits.A x.waits.n x.waits.c])), (6, .v (.agg #[.int .i64 y1.id, .int .i64 y1.session, .int .i64 y1.next, .slice y1.waits.A y1.waits.n y1.waits.c]))], []⟩ [] [] (by kernel_rfl) on wn ?_
  refine l_pure 20 [] [.v (.agg #[.int .i64 y1.id, .int .i64 y1.session, .int .i64 y1.next, .slice y1.waits.A y1.waits.n y1.waits.c]), .v (.agg #[.int .i64 x.id, .int .i64 x.session, .int .i64 x.next, .slice x.waits.A x.waits.n x.waits.c])] (.bool true) Try.call20 rfl rfl rfl rfl (fun bs w hS => same_customer y1 x w (hS.res _ (.head _)) (Rds.kp hx hS.kp) hF1) ?_
  refine JL_run 1 [] [2] 0 ⟨[(2, vB true)], []⟩ [] [] (by kernel_rfl) on wn ?_
  refine l_nil (q_then_normal ?_)
  refine c_ret ?_
  refine q_ret (.inl rfl) [vB true] rfl (fun bs w hS => ?_)
  refine ⟨?_, hS.kp⟩
  simp [retOf, den]

theorem customer_New (n : Int) (w : World) : Calls Try.prog 18 #[.int .i64 n] w fun e w' => e = .returned (.tuple #[.agg #[.int .i64 ((mNew n).1.id), .int .i64 ((mNew n).1.session), .int .i64 ((mNew n).1.next), .slice none 0 0], .int .i64 ((mNew n).2)]) ∧ Kp [] w w' := by
  refine calls_J0 13 Try.func18 rfl rfl [.int .i64 n] rfl ?_
  refine c_seq ?_
  refine c_region ?_
  refine JL_run 2 [] [2, 0] 1 ⟨[(2, .p 0 0), (0, vI n)], [⟨34, [vI 0, vI 0, vI 0, .v (.slice none 0 0)]⟩]⟩ [] [] (by kernel_rfl) on wn ?_
  refine l_nil (q_then_normal ?_)
  refine c_seq ?_
  refine c_seq ?_
  refine c_region ?_
  refine JL_run 3 [] [6, 2, 0] 1 ⟨[(6, vB (decide (n < 1))), (2, .p 0 0), (0, vI n)], [⟨34, [vI 0, vI 0, vI 0, .v (.slice none 0 0)]⟩]⟩ [] [] (by kernel_rfl) on wn ?_
  cases h1 : decide (n < 1) with
  | true =>
    have h1 := of_decide_eq_true h1
    refine JL_run 3 [] [9, 2, 0] 1 ⟨[(9, vB true), (2, .p 0 0), (0, vI n)], [⟨34, [vI 0, vI 0, vI 0, .v (.slice none 0 0)]⟩]⟩ [] [] (by kernel_rfl) on wn ?_
    refine l_nil (q_then_normal ?_)
    refine c_if true rfl ?_
    refine c_seq ?_
    refine c_region ?_
    refine JL_run 3 [] [3, 2] 1 ⟨[(3, vI 2), (2, .p 0 0)], [⟨34, [vI 0, vI 0, vI 0, .v (.slice none 0 0)]⟩]⟩ [] [] (by kernel_rfl) on wn ?_
    refine l_nil (q_then_normal ?_)
    refine c_ret ?_
    refine q_then_ret (q_ret (.inl rfl) [.v (.agg #[.int .i64 0, .int .i64 0, .int .i64 0, .slice none 0 0]), vI 2] rfl (fun bs w hS => ?_))
    refine ⟨?_, hS.kp⟩
    simp only [retOf, den, List.map_cons, List.map_nil, mNew]
    first | rw [if_pos (by (try simp only [inB, Bool.and_eq_true, Bool.and_eq_false_iff, decide_eq_true_eq, decide_eq_false_iff_not] at *); omega)] | rw [if_neg (by (try simp only [inB, Bool.and_eq_true, Bool.and_eq_false_iff, decide_eq_true_eq, decide_eq_false_iff_not] at *); omega)]
    try rfl
  | false =>
    have h1 := of_decide_eq_false h1
    refine JL_run 3 [] [9, 2, 0] 1 ⟨[(9, vB (decide ((9 : Int) < n))), (2, .p 0 0), (0, vI n)], [⟨34, [vI 0, vI 0, vI 0, .v (.slice none 0 0)]⟩]⟩ [] [] (by kernel_rfl) on wn ?_
    refine l_nil (q_then_normal ?_)
    cases h2 : decide ((9 : Int) < n) with
    | true =>
      have h2 := of_decide_eq_true h2
      refine c_if true rfl ?_
      refine c_seq ?_
      refine c_region ?_
      refine JL_run 3 [] [3, 2] 1 ⟨[(3, vI 2), (2, .p 0 0)], [⟨34, [vI 0, vI 0, vI 0, .v (.slice none 0 0)]⟩]⟩ [] [] (by kernel_rfl) on wn ?_
      refine l_nil (q_then_normal ?_)
      refine c_ret ?_
      refine q_then_ret (q_ret (.inl rfl) [.v (.agg #[.int .i64 0, .int .i64 0, .int .i64 0, .slice none 0 0]), vI 2] rfl (fun bs w hS => ?_))
      refine ⟨?_, hS.kp⟩
      simp only [retOf, den, List.map_cons, List.map_nil, mNew]
      first | rw [if_pos (by (try simp only [inB, Bool.and_eq_true, Bool.and_eq_false_iff, decide_eq_true_eq, decide_eq_false_iff_not] at *); omega)] | rw [if_neg (by (try simp only [inB, Bool.and_eq_true, Bool.and_eq_false_iff, decide_eq_true_eq, decide_eq_false_iff_not] at *); omega)]
      try rfl
    | false =>
      have h2 := of_decide_eq_false h2
      refine c_if false rfl ?_
      refine c_skip ?_
      refine q_then_normal ?_
      refine c_seq ?_
      refine c_region ?_
      refine JL_run 4 [] [3, 2] 1 ⟨[(3, vI 0), (2, .p 0 0)], [⟨34, [vI n, vI 0, vI 1, .v (.slice none 0 0)]⟩]⟩ [] [] (by kernel_rfl) on wn ?_
      refine l_nil (q_then_normal ?_)
      refine c_ret ?_
      refine q_ret (.inl rfl) [.v (.agg #[.int .i64 n, .int .i64 0, .int .i64 1, .slice none 0 0]), vI 0] rfl (fun bs w hS => ?_)
      refine ⟨?_, hS.kp⟩
      simp only [retOf, den, List.map_cons, List.map_nil, mNew]
      first | rw [if_pos (by (try simp only [inB, Bool.and_eq_true, Bool.and_eq_false_iff, decide_eq_true_eq, decide_eq_false_iff_not] at *); omega)] | rw [if_neg (by (try simp only [inB, Bool.and_eq_true, Bool.and_eq_false_iff, decide_eq_true_eq, decide_eq_false_iff_not] at *); omega)]
      try rfl

theorem ref_CustomerOf (n : Int) (w : World) : Calls Try.prog 19 #[.int .i64 n] w fun e w' => e = .returned (.tuple #[.agg #[.int .i64 ((mNew n).1.id), .int .i64 ((mNew n).1.session), .int .i64 ((mNew n).1.next), .slice none 0 0], .int .i64 ((mNew n).2)]) ∧ Kp [] w w' := by
  refine calls_J0 10 Try.func19 rfl rfl [.int .i64 n] rfl ?_
  refine c_seq ?_
  refine c_region ?_
  refine JL_run 2 [] [2, 0] 1 ⟨[(2, .p 0 0), (0, vI n)], [⟨34, [vI 0, vI 0, vI 0, .v (.slice none 0 0)]⟩]⟩ [] [] (by kernel_rfl) on wn ?_
  refine l_nil (q_then_normal ?_)
  refine c_seq ?_
  refine c_seq ?_
  refine c_region ?_
  refine JL_run 1 [] [4, 2, 0] 1 ⟨[(4, vI n), (2, .p 0 0), (0, vI n)], [⟨34, [vI 0, vI 0, vI 0, .v (.slice none 0 0)]⟩]⟩ [] [] (by kernel_rfl) on wn ?_
  refine l_pure 38 [] [vI n, vI 1, vI 9] (.bool (inB n 1 9)) Try.call38 rfl rfl rfl rfl (fun bs w hS => ref_In _ _ _ w) ?_
  refine JL_run 1 [] [6, 2, 0] 1 ⟨[(6, vB (!(inB n 1 9))), (2, .p 0 0), (0, vI n)], [⟨34, [vI 0, vI 0, vI 0, .v (.slice none 0 0)]⟩]⟩ [] [] (by kernel_rfl) on wn ?_
  refine l_nil (q_then_normal ?_)
  cases h1 : inB n 1 9 with
  | true =>
    refine c_if false rfl ?_
    refine c_skip ?_
    refine q_then_normal ?_
    refine c_seq ?_
    refine c_region ?_
    refine JL_run 4 [] [3, 2] 1 ⟨[(3, vI 0), (2, .p 0 0)], [⟨34, [vI n, vI 0, vI 1, .v (.slice none 0 0)]⟩]⟩ [] [] (by kernel_rfl) on wn ?_
    refine l_nil (q_then_normal ?_)
    refine c_ret ?_
    refine q_ret (.inl rfl) [.v (.agg #[.int .i64 n, .int .i64 0, .int .i64 1, .slice none 0 0]), vI 0] rfl (fun bs w hS => ?_)
    refine ⟨?_, hS.kp⟩
    simp only [retOf, den, List.map_cons, List.map_nil, mNew]
    first | rw [if_pos (by (try simp only [inB, Bool.and_eq_true, Bool.and_eq_false_iff, decide_eq_true_eq, decide_eq_false_iff_not] at *); omega)] | rw [if_neg (by (try simp only [inB, Bool.and_eq_true, Bool.and_eq_false_iff, decide_eq_true_eq, decide_eq_false_iff_not] at *); omega)]
    try rfl
  | false =>
    refine c_if true rfl ?_
    refine c_seq ?_
    refine c_region ?_
    refine JL_run 3 [] [3, 2] 1 ⟨[(3, vI 2), (2, .p 0 0)], [⟨34, [vI 0, vI 0, vI 0, .v (.slice none 0 0)]⟩]⟩ [] [] (by kernel_rfl) on wn ?_
    refine l_nil (q_then_normal ?_)
    refine c_ret ?_
    refine q_then_ret (q_ret (.inl rfl) [.v (.agg #[.int .i64 0, .int .i64 0, .int .i64 0, .slice none 0 0]), vI 2] rfl (fun bs w hS => ?_))
    refine ⟨?_, hS.kp⟩
    simp only [retOf, den, List.map_cons, List.map_nil, mNew]
    first | rw [if_pos (by (try simp only [inB, Bool.and_eq_true, Bool.and_eq_false_iff, decide_eq_true_eq, decide_eq_false_iff_not] at *); omega)] | rw [if_neg (by (try simp only [inB, Bool.and_eq_true, Bool.and_eq_false_iff, decide_eq_true_eq, decide_eq_false_iff_not] at *); omega)]
    try rfl

theorem law_CustomerNews (n : Int) (w : World) : Calls Try.prog 5 #[.int .i64 n] w fun e w' => e = .returned (.bool true) ∧ Kp [] w w' := by
  refine calls_J0 25 Try.func5 rfl rfl [.int .i64 n] rfl ?_
  refine c_seq ?_
  refine c_region ?_
  refine JL_run 1 [] [0] 0 ⟨[(0, vI n)], []⟩ [] [] (by kernel_rfl) on wn ?_
  refine l_nil (q_then_normal ?_)
  refine c_seq ?_
  refine c_region ?_
  refine JL_run 1 [] [8, 0] 0 ⟨[(8, vI n), (0, vI n)], []⟩ [] [] (by kernel_rfl) on wn ?_
  refine l_pure 18 [] [vI n] (.tuple #[.agg #[.int .i64 ((mNew n).1.id), .int .i64 ((mNew n).1.session), .int .i64 ((mNew n).1.next), .slice none 0 0], .int .i64 ((mNew n).2)]) Try.call18 rfl rfl rfl rfl (fun bs w hS => customer_New n w) ?_
  refine JL_run 6 [] [4, 3, 0] 1 ⟨[(4, vI ((mNew n).2)), (3, .p 0 0), (0, vI n)], [⟨34, [vI ((mNew n).1.id), vI ((mNew n).1.session), vI ((mNew n).1.next), .v (.slice none 0 0)]⟩]⟩ [] [] (by kernel_rfl) on wn ?_
  refine l_nil (q_then_normal ?_)
  refine c_seq ?_
  refine c_region ?_
  refine JL_run 1 [] [13, 4, 3] 1 ⟨[(13, vI n), (4, vI ((mNew n).2)), (3, .p 0 0)], [⟨34, [vI ((mNew n).1.id), vI ((mNew n).1.session), vI ((mNew n).1.next), .v (.slice none 0 0)]⟩]⟩ [] [] (by kernel_rfl) on wn ?_
  refine l_pure 19 [] [vI n] (.tuple #[.agg #[.int .i64 ((mNew n).1.id), .int .i64 ((mNew n).1.session), .int .i64 ((mNew n).1.next), .slice none 0 0], .int .i64 ((mNew n).2)]) Try.call19 rfl rfl rfl rfl (fun bs w hS => ref_CustomerOf n w) ?_
  refine JL_run 6 [] [6, 5, 4, 3] 2 ⟨[(6, vI ((mNew n).2)), (5, .p 1 0), (4, vI ((mNew n).2)), (3, .p 0 0)], [⟨34, [vI ((mNew n).1.id), vI ((mNew n).1.session), vI ((mNew n).1.next), .v (.slice none 0 0)]⟩, ⟨34, [vI ((mNew n).1.id), vI ((mNew n).1.session), vI ((mNew n).1.next), .v (.slice none 0 0)]⟩]⟩ [] [] (by kernel_rfl) on wn ?_
  refine l_nil (q_then_normal ?_)
  refine c_seq ?_
  refine c_region ?_
  refine JL_run 4 [] [20, 5, 3] 2 ⟨[(20, vB (decide ((mNew n).2 = (mNew n).2))), (5, .p 1 0), (3, .p 0 0)], [⟨34, [vI ((mNew n).1.id), vI ((mNew n).1.session), vI ((mNew n).1.next), .v (.slice none 0 0)]⟩, ⟨34, [vI ((mNew n).1.id), vI ((mNew n).1.session), vI ((mNew n).1.next), .v (.slice none 0 0)]⟩]⟩ [] [] (by kernel_rfl) on wn ?_
  cases h1 : decide ((mNew n).2 = (mNew n).2) with
  | true =>
    have h1 := of_decide_eq_true h1
    refine JL_run 2 [] [22, 21, 20] 0 ⟨[(22, .v (.agg #[.int .i64 ((mNew n).1.id), .int .i64 ((mNew n).1.session), .int .i64 ((mNew n).1.next), .slice none 0 0])), (21, .v (.agg #[.int .i64 ((mNew n).1.id), .int .i64 ((mNew n).1.session), .int .i64 ((mNew n).1.next), .slice none 0 0])), (20, vB true)], []⟩ [] [] (by kernel_rfl) on wn ?_
    refine l_pure 20 [] [.v (.agg #[.int .i64 ((mNew n).1.id), .int .i64 ((mNew n).1.session), .int .i64 ((mNew n).1.next), .slice none 0 0]), .v (.agg #[.int .i64 ((mNew n).1.id), .int .i64 ((mNew n).1.session), .int .i64 ((mNew n).1.next), .slice none 0 0])] (.bool true) Try.call20 rfl rfl rfl rfl (fun bs w hS => same_customer (⟨(mNew n).1.id, (mNew n).1.session, (mNew n).1.next, Sl.nil⟩ : CCustomer) (⟨(mNew n).1.id, (mNew n).1.session, (mNew n).1.next, Sl.nil⟩ : CCustomer) w (Sl.rd_nil anyB w) (Sl.rd_nil anyB w) rfl) ?_
    refine JL_run 2 [] [2] 0 ⟨[(2, vB true)], []⟩ [] [] (by kernel_rfl) on wn ?_
    refine l_nil (q_then_normal ?_)
    refine c_ret ?_
    refine q_ret (.inl rfl) [vB true] rfl (fun bs w hS => ?_)
    refine ⟨?_, hS.kp⟩
    simp [retOf, den]
  | false =>
    have h1 := of_decide_eq_false h1
    exact absurd rfl h1

theorem lock_Copy {B : Nat → Prop} (s : Sl CLock) (w : World) (hs : s.rd B w) (hsm : Rds.small s) : Calls Try.prog 32 #[.slice s.A s.n s.c] w fun e w' => ∃ y : Sl CLock, e = .returned y.val ∧ y.xs.map CLock.abs = s.xs.map CLock.abs ∧ Kp [] w w' ∧ Fresh w w' (locksR 75 3 y) := by
  have oks := Sl.rd.ok hs
  have ncs := Sl.ok.nc oks
  refine calls_J0 22 Try.func32 rfl rfl [.slice s.A s.n s.c] rfl ?_
  refine c_seq ?_
  refine c_region ?_
  refine JL_run 1 [] [0] 0 ⟨[(0, .v (.slice s.A s.n s.c))], []⟩ [] [] (by kernel_rfl) on wn ?_
  refine l_nil (q_then_normal ?_)
  refine c_seq ?_
  refine c_region ?_
  refine JL_run 1 [] [3, 0] 0 ⟨[(3, .v (.slice none 0 0)), (0, .v (.slice s.A s.n s.c))], []⟩ [] [] (by kernel_rfl) on wn ?_
  refine l_nil (q_then_normal ?_)
  refine c_seq ?_
  refine c_seq ?_
  refine c_region ?_
  refine JL_run 3 [] [8, 7, 6, 3] 0 ⟨[(8, vI 0), (7, vI ((s.n : Nat) : Int)), (6, .v (.slice s.A s.n s.c)), (3, .v (.slice none 0 0))], []⟩ [] [] (by kernel_rfl) on wn ?_
  refine l_nil (q_then_normal ?_)
  refine c_block ?_
  refine c_rowA (α := CLock) 75 ?_
  refine c_nores (ownL (lineR 3) []) rfl (fun w x hx => by cases hx) ?_
  refine c_loop (σ := Nat × Option Addr × Nat × List CLock) (fun ⟨i, A, c, L⟩ => i ≤ s.n ∧ L.length = i ∧ L.map CLock.abs = (s.xs.take i).map CLock.abs) (fun ⟨i, A, c, L⟩ => s.n - i) (fun ⟨i, A, c, L⟩ => [ownL (lineR 3) L, rowA 75 A c (L : List CLock)]) (fun ⟨i, A, c, L⟩ => ⟨[(8, vI ((i : Nat) : Int)), (7, vI ((s.n : Nat) : Int)), (6, .v (.slice s.A s.n s.c)), (3, .v (.slice A L.length c))], []⟩) ⟨0, none, 0, []⟩ ⟨Nat.zero_le _, rfl, by simp⟩ (s_start [8, 7, 6, 3] 0 (by kernel_rfl) rfl) ?_
  rintro ⟨i, A, c, L⟩ ⟨hi, hL, hI⟩
  have hsn := hsm.1
  refine c_seq ?_
  refine c_region ?_
  refine JL_run 1 [] [9, 8, 7, 6, 3] 0 ⟨[(9, vB (decide (((i : Nat) : Int) < ((s.n : Nat) : Int)))), (8, vI ((i : Nat) : Int)), (7, vI ((s.n : Nat) : Int)), (6, .v (.slice s.A s.n s.c)), (3, .v (.slice A L.length c))], []⟩ [] [] (by kernel_rfl) on wn ?_
  refine l_nil (q_then_normal ?_)
  refine c_seq ?_
  cases h1 : decide (((i : Nat) : Int) < ((s.n : Nat) : Int)) with
  | true =>
    have h1 := of_decide_eq_true h1
    refine c_if true rfl ?_
    refine c_skip ?_
    refine q_then_normal ?_
    refine c_seq ?_
    refine c_block ?_
    refine c_seq ?_
    refine c_region ?_
    refine JL_run 4 [(0, .idx s.ad i), (1, .ext [.string ((s.at i).name), .int .i64 ((s.at i).holder), .int .i64 ((s.at i).fence), .slice (((s.at i).line).A) (((s.at i).line).n) (((s.at i).line).c)])] [5, 8, 7, 6, 3] 1 ⟨[(5, .p 0 0), (8, vI ((i : Nat) : Int)), (7, vI ((s.n : Nat) : Int)), (6, .v (.slice s.A s.n s.c)), (3, .v (.slice A L.length c))], [⟨75, [vS ((s.at i).name), vI ((s.at i).holder), vI ((s.at i).fence), .v (.slice (((s.at i).line).A) (((s.at i).line).n) (((s.at i).line).c))]⟩]⟩ [s.A = some s.ad, ((i : Nat) : Int) = ((i : Nat) : Int), i < s.n] [(s.ad.add (i * 4), [.string ((s.at i).name), .int .i64 ((s.at i).holder), .int .i64 ((s.at i).fence), .slice (((s.at i).line).A) (((s.at i).line).n) (((s.at i).line).c)])] (by kernel_rfl) (oc (Sl.ok.own (s := s) (i := i) oks (by omega)) (oc rfl (oc (by omega) on))) (fun w hk hr => ⟨(Sl.rd.all (s := s) (i := i) (Sl.rd.kp hs hk) (by omega) rfl), trivial⟩) ?_
    refine l_nil (q_then_normal ?_)
    refine c_seq ?_
    refine c_region ?_
    refine JL_run 2 [] [13, 5, 8, 7, 6, 3] 1 ⟨[(13, .v (.slice (((s.at i).line).A) (((s.at i).line).n) (((s.at i).line).c))), (5, .p 0 0), (8, vI ((i : Nat) : Int)), (7, vI ((s.n : Nat) : Int)), (6, .v (.slice s.A s.n s.c)), (3, .v (.slice A L.length c))], [⟨75, [vS ((s.at i).name), vI ((s.at i).holder), vI ((s.at i).fence), .v (.slice (((s.at i).line).A) (((s.at i).line).n) (((s.at i).line).c))]⟩]⟩ [] [] (by kernel_rfl) on wn ?_
    refine l_freshF (σ := Sl Int) 45 [] [.v (.slice (((s.at i).line).A) (((s.at i).line).n) (((s.at i).line).c))] (fun y1 => .slice y1.A y1.n y1.c) (fun y1 => y1.xs = ((s.at i).line).xs) (fun y1 => rowA 3 y1.A y1.c (y1.xs : List Int)) Try.call45 rfl rfl rfl rfl (fun bs w hS => clone_Int ((s.at i).line) w (And.right (Sl.rd.sub (s := s) (i := i) (Sl.rd.kp hs hS.kp) (by omega))) (hsm.2 i (by omega)).1) ?_
    rintro y1 hF1
    refine JL_run 2 [] [5, 8, 7, 6, 3] 1 ⟨[(5, .p 0 0), (8, vI ((i : Nat) : Int)), (7, vI ((s.n : Nat) : Int)), (6, .v (.slice s.A s.n s.c)), (3, .v (.slice A L.length c))], [⟨75, [vS ((s.at i).name), vI ((s.at i).holder), vI ((s.at i).fence), .v (.slice y1.A y1.n y1.c)]⟩]⟩ [] [] (by kernel_rfl) on wn ?_
    refine l_nil (q_then_normal ?_)
    refine c_region ?_
    refine JL_run 3 [] [18, 16, 8, 7, 6] 2 ⟨[(18, .s 1 0 1 1), (16, .v (.slice A L.length c)), (8, vI ((i : Nat) : Int)), (7, vI ((s.n : Nat) : Int)), (6, .v (.slice s.A s.n s.c))], [⟨75, [vS ((s.at i).name), vI ((s.at i).holder), vI ((s.at i).fence), .v (.slice y1.A y1.n y1.c)]⟩, ⟨75, [vS ((s.at i).name), vI ((s.at i).holder), vI ((s.at i).fence), .v (.slice y1.A y1.n y1.c)]⟩]⟩ [] [] (by kernel_rfl) on wn ?_
    refine l_perm (R' := [rowA 75 A c (L : List CLock), rowA 3 y1.A y1.c (y1.xs : List Int), ownL (lineR 3) L]) (permfront 2 rfl) ?_
    refine l_appendA (α := CLock) 75 56 A c (L) (.s 1 0 1 1) ([(⟨(s.at i).name, (s.at i).holder, (s.at i).fence, y1⟩ : CLock)]) Try.underlying49 (by kernel_rfl) rfl rfl rfl (fun bs w hS => by obtain ⟨q1, q2, q3, q4⟩ := src_loc (i := 1) (off := 0) (k := 1) (c := 1) (q := 4) (vs := [.string ((s.at i).name), .int .i64 ((s.at i).holder), .int .i64 ((s.at i).fence), .slice y1.A y1.n y1.c]) hS rfl rfl; exact ⟨some q1, q2, q3, q4⟩) (by first | omega | (simp only [List.length_nil, List.length_cons, List.length_append]; omega)) (by first | omega | (simp only [List.length_nil, List.length_cons, List.length_append]; omega)) ?_
    intro A3 c3
    refine JL_run 1 [] [3, 8, 7, 6] 0 ⟨[(3, .v (.slice A3 ((L ++ [(⟨(s.at i).name, (s.at i).holder, (s.at i).fence, y1⟩ : CLock)]).length) c3)), (8, vI ((i : Nat) : Int)), (7, vI ((s.n : Nat) : Int)), (6, .v (.slice s.A s.n s.c))], []⟩ [] [] (by kernel_rfl) on wn ?_
    refine l_nil (q_block_normal (q_then_normal ?_))
    refine c_region ?_
    refine JL_run 2 [] [8, 3, 7, 6] 0 ⟨[(8, vI (((i : Nat) : Int) + 1)), (3, .v (.slice A3 ((L ++ [(⟨(s.at i).name, (s.at i).holder, (s.at i).fence, y1⟩ : CLock)]).length) c3)), (7, vI ((s.n : Nat) : Int)), (6, .v (.slice s.A s.n s.c))], []⟩ [inR (((i : Nat) : Int) + 1)] [] (by kernel_rfl) (oc (by unfold inR; omega) on) wn ?_
    refine l_perm (R' := [rowA 3 y1.A y1.c (y1.xs : List Int), ownL (lineR 3) L, rowA 75 A3 c3 (L ++ [(⟨(s.at i).name, (s.at i).holder, (s.at i).fence, y1⟩ : CLock)] : List CLock)]) (by exact perm3 0 _ _ _) ?_
    refine l_join (ownL (lineR 3) (L ++ [(⟨(s.at i).name, (s.at i).holder, (s.at i).fence, y1⟩ : CLock)])) (ownL_app_fp (lineR 3) L (⟨(s.at i).name, (s.at i).holder, (s.at i).fence, y1⟩ : CLock)) (fun w => ownL_app_p (lineR 3) L (⟨(s.at i).name, (s.at i).holder, (s.at i).fence, y1⟩ : CLock) w) ?_
    refine l_nil (q_loop (x := (⟨i, A, c, L⟩ : Nat × Option Addr × Nat × List CLock)) (⟨i + 1, A3, c3, L ++ [(⟨(s.at i).name, (s.at i).holder, (s.at i).fence, y1⟩ : CLock)]⟩ : Nat × Option Addr × Nat × List CLock) ⟨by omega, by rw [List.length_append]; simp [hL], map_take_snoc (by omega) hI (by simp [CLock.abs, hF1])⟩ (by show s.n - (i + 1) < s.n - i; omega) (s_start [8, 7, 6, 3] 0 (by kernel_rfl) rfl))
  | false =>
    have h1 := of_decide_eq_false h1
    refine c_if false rfl ?_
    refine c_exit ?_
    refine q_then_exit (q_then_exit (q_block_hit (q_then_normal ?_)))
    refine c_seq ?_
    refine c_region ?_
    refine JL_run 2 [] [2] 0 ⟨[(2, .v (.slice A L.length c))], []⟩ [] [] (by kernel_rfl) on wn ?_
    refine l_nil (q_then_normal ?_)
    refine c_ret ?_
    refine q_ret (.inl rfl) [.v (.slice A L.length c)] rfl (fun bs w hS => ?_)
    have hn : L.length = s.n := by omega
    exact ⟨⟨A, c, L⟩, rfl, by rw [hI, take_all (by omega)], hS.kp, hS.out⟩
theorem lock_CopyS {B : Nat → Prop} (s : Sl CLock) (w : World) (hs : s.rd B w) (hsm : Rds.small s) : Calls Try.prog 32 #[.slice s.A s.n s.c] w fun e w' => ∃ y : Sl CLock, e = .returned y.val ∧ y.xs.map CLock.abs = s.xs.map CLock.abs ∧ FreshS w w' y :=
  (lock_Copy s w hs hsm).mono fun e w' ⟨y, h1, h2, h3, h4⟩ => ⟨y, h1, h2, h3, h4.sub fun hp => locksR_rd hp (locks_names hs h2)⟩

theorem session_Copy {B : Nat → Prop} (s : Sl CSession) (w : World) (hs : s.rd B w) (hsm : Rds.small s) : Calls Try.prog 34 #[.slice s.A s.n s.c] w fun e w' => ∃ y : Sl CSession, e = .returned y.val ∧ y.xs.map CSession.abs = s.xs.map CSession.abs ∧ Kp [] w w' ∧ Fresh w w' (sessR 80 85 y) := by
  have oks := Sl.rd.ok hs
  have ncs := Sl.ok.nc oks
  refine calls_J0 22 Try.func34 rfl rfl [.slice s.A s.n s.c] rfl ?_
  refine c_seq ?_
  refine c_region ?_
  refine JL_run 1 [] [0] 0 ⟨[(0, .v (.slice s.A s.n s.c))], []⟩ [] [] (by kernel_rfl) on wn ?_
  refine l_nil (q_then_normal ?_)
  refine c_seq ?_
  refine c_region ?_
  refine JL_run 1 [] [3, 0] 0 ⟨[(3, .v (.slice none 0 0)), (0, .v (.slice s.A s.n s.c))], []⟩ [] [] (by kernel_rfl) on wn ?_
  refine l_nil (q_then_normal ?_)
  refine c_seq ?_
  refine c_seq ?_
  refine c_region ?_
  refine JL_run 3 [] [8, 7, 6, 3] 0 ⟨[(8, vI 0), (7, vI ((s.n : Nat) : Int)), (6, .v (.slice s.A s.n s.c)), (3, .v (.slice none 0 0))], []⟩ [] [] (by kernel_rfl) on wn ?_
  refine l_nil (q_then_normal ?_)
  refine c_block ?_
  refine c_rowA (α := CSession) 80 ?_
  refine c_nores (ownL (keptR 85) []) rfl (fun w x hx => by cases hx) ?_
  refine c_loop (σ := Nat × Option Addr × Nat × List CSession) (fun ⟨i, A, c, L⟩ => i ≤ s.n ∧ L.length = i ∧ L.map CSession.abs = (s.xs.take i).map CSession.abs) (fun ⟨i, A, c, L⟩ => s.n - i) (fun ⟨i, A, c, L⟩ => [ownL (keptR 85) L, rowA 80 A c (L : List CSession)]) (fun ⟨i, A, c, L⟩ => ⟨[(8, vI ((i : Nat) : Int)), (7, vI ((s.n : Nat) : Int)), (6, .v (.slice s.A s.n s.c)), (3, .v (.slice A L.length c))], []⟩) ⟨0, none, 0, []⟩ ⟨Nat.zero_le _, rfl, by simp⟩ (s_start [8, 7, 6, 3] 0 (by kernel_rfl) rfl) ?_
  rintro ⟨i, A, c, L⟩ ⟨hi, hL, hI⟩
  have hsn := hsm.1
  refine c_seq ?_
  refine c_region ?_
  refine JL_run 1 [] [9, 8, 7, 6, 3] 0 ⟨[(9, vB (decide (((i : Nat) : Int) < ((s.n : Nat) : Int)))), (8, vI ((i : Nat) : Int)), (7, vI ((s.n : Nat) : Int)), (6, .v (.slice s.A s.n s.c)), (3, .v (.slice A L.length c))], []⟩ [] [] (by kernel_rfl) on wn ?_
  refine l_nil (q_then_normal ?_)
  refine c_seq ?_
  cases h1 : decide (((i : Nat) : Int) < ((s.n : Nat) : Int)) with
  | true =>
    have h1 := of_decide_eq_true h1
    refine c_if true rfl ?_
    refine c_skip ?_
    refine q_then_normal ?_
    refine c_seq ?_
    refine c_block ?_
    refine c_seq ?_
    refine c_region ?_
    refine JL_run 4 [(0, .idx s.ad i), (1, .ext [.int .i64 ((s.at i).client), .int .i64 ((s.at i).id), .int .i64 ((s.at i).acked), .int .i64 ((s.at i).last), .slice (((s.at i).replies).A) (((s.at i).replies).n) (((s.at i).replies).c)])] [5, 8, 7, 6, 3] 1 ⟨[(5, .p 0 0), (8, vI ((i : Nat) : Int)), (7, vI ((s.n : Nat) : Int)), (6, .v (.slice s.A s.n s.c)), (3, .v (.slice A L.length c))], [⟨80, [vI ((s.at i).client), vI ((s.at i).id), vI ((s.at i).acked), vI ((s.at i).last), .v (.slice (((s.at i).replies).A) (((s.at i).replies).n) (((s.at i).replies).c))]⟩]⟩ [s.A = some s.ad, ((i : Nat) : Int) = ((i : Nat) : Int), i < s.n] [(s.ad.add (i * 5), [.int .i64 ((s.at i).client), .int .i64 ((s.at i).id), .int .i64 ((s.at i).acked), .int .i64 ((s.at i).last), .slice (((s.at i).replies).A) (((s.at i).replies).n) (((s.at i).replies).c)])] (by kernel_rfl) (oc (Sl.ok.own (s := s) (i := i) oks (by omega)) (oc rfl (oc (by omega) on))) (fun w hk hr => ⟨(Sl.rd.all (s := s) (i := i) (Sl.rd.kp hs hk) (by omega) rfl), trivial⟩) ?_
    refine l_nil (q_then_normal ?_)
    refine c_seq ?_
    refine c_region ?_
    refine JL_run 2 [] [13, 5, 8, 7, 6, 3] 1 ⟨[(13, .v (.slice (((s.at i).replies).A) (((s.at i).replies).n) (((s.at i).replies).c))), (5, .p 0 0), (8, vI ((i : Nat) : Int)), (7, vI ((s.n : Nat) : Int)), (6, .v (.slice s.A s.n s.c)), (3, .v (.slice A L.length c))], [⟨80, [vI ((s.at i).client), vI ((s.at i).id), vI ((s.at i).acked), vI ((s.at i).last), .v (.slice (((s.at i).replies).A) (((s.at i).replies).n) (((s.at i).replies).c))]⟩]⟩ [] [] (by kernel_rfl) on wn ?_
    refine l_freshF (σ := Sl DKept) 47 [] [.v (.slice (((s.at i).replies).A) (((s.at i).replies).n) (((s.at i).replies).c))] (fun y1 => .slice y1.A y1.n y1.c) (fun y1 => y1.xs = ((s.at i).replies).xs) (fun y1 => rowA 85 y1.A y1.c (y1.xs : List DKept)) Try.call47 rfl rfl rfl rfl (fun bs w hS => clone_Kept ((s.at i).replies) w (Sl.rd.sub (s := s) (i := i) (Sl.rd.kp hs hS.kp) (by omega)) (hsm.2 i (by omega)).1) ?_
    rintro y1 hF1
    refine JL_run 2 [] [5, 8, 7, 6, 3] 1 ⟨[(5, .p 0 0), (8, vI ((i : Nat) : Int)), (7, vI ((s.n : Nat) : Int)), (6, .v (.slice s.A s.n s.c)), (3, .v (.slice A L.length c))], [⟨80, [vI ((s.at i).client), vI ((s.at i).id), vI ((s.at i).acked), vI ((s.at i).last), .v (.slice y1.A y1.n y1.c)]⟩]⟩ [] [] (by kernel_rfl) on wn ?_
    refine l_nil (q_then_normal ?_)
    refine c_region ?_
    refine JL_run 3 [] [18, 16, 8, 7, 6] 2 ⟨[(18, .s 1 0 1 1), (16, .v (.slice A L.length c)), (8, vI ((i : Nat) : Int)), (7, vI ((s.n : Nat) : Int)), (6, .v (.slice s.A s.n s.c))], [⟨80, [vI ((s.at i).client), vI ((s.at i).id), vI ((s.at i).acked), vI ((s.at i).last), .v (.slice y1.A y1.n y1.c)]⟩, ⟨80, [vI ((s.at i).client), vI ((s.at i).id), vI ((s.at i).acked), vI ((s.at i).last), .v (.slice y1.A y1.n y1.c)]⟩]⟩ [] [] (by kernel_rfl) on wn ?_
    refine l_perm (R' := [rowA 80 A c (L : List CSession), rowA 85 y1.A y1.c (y1.xs : List DKept), ownL (keptR 85) L]) (permfront 2 rfl) ?_
    refine l_appendA (α := CSession) 80 56 A c (L) (.s 1 0 1 1) ([(⟨(s.at i).client, (s.at i).id, (s.at i).acked, (s.at i).last, y1⟩ : CSession)]) Try.underlying53 (by kernel_rfl) rfl rfl rfl (fun bs w hS => by obtain ⟨q1, q2, q3, q4⟩ := src_loc (i := 1) (off := 0) (k := 1) (c := 1) (q := 5) (vs := [.int .i64 ((s.at i).client), .int .i64 ((s.at i).id), .int .i64 ((s.at i).acked), .int .i64 ((s.at i).last), .slice y1.A y1.n y1.c]) hS rfl rfl; exact ⟨some q1, q2, q3, q4⟩) (by first | omega | (simp only [List.length_nil, List.length_cons, List.length_append]; omega)) (by first | omega | (simp only [List.length_nil, List.length_cons, List.length_append]; omega)) ?_
    intro A3 c3
    refine JL_run 1 [] [3, 8, 7, 6] 0 ⟨[(3, .v (.slice A3 ((L ++ [(⟨(s.at i).client, (s.at i).id, (s.at i).acked, (s.at i).last, y1⟩ : CSession)]).length) c3)), (8, vI ((i : Nat) : Int)), (7, vI ((s.n : Nat) : Int)), (6, .v (.slice s.A s.n s.c))], []⟩ [] [] (by kernel_rfl) on wn ?_
    refine l_nil (q_block_normal (q_then_normal ?_))
    refine c_region ?_
    refine JL_run 2 [] [8, 3, 7, 6] 0 ⟨[(8, vI (((i : Nat) : Int) + 1)), (3, .v (.slice A3 ((L ++ [(⟨(s.at i).client, (s.at i).id, (s.at i).acked, (s.at i).last, y1⟩ : CSession)]).length) c3)), (7, vI ((s.n : Nat) : Int)), (6, .v (.slice s.A s.n s.c))], []⟩ [inR (((i : Nat) : Int) + 1)] [] (by kernel_rfl) (oc (by unfold inR; omega) on) wn ?_
    refine l_perm (R' := [rowA 85 y1.A y1.c (y1.xs : List DKept), ownL (keptR 85) L, rowA 80 A3 c3 (L ++ [(⟨(s.at i).client, (s.at i).id, (s.at i).acked, (s.at i).last, y1⟩ : CSession)] : List CSession)]) (by exact perm3 0 _ _ _) ?_
    refine l_join (ownL (keptR 85) (L ++ [(⟨(s.at i).client, (s.at i).id, (s.at i).acked, (s.at i).last, y1⟩ : CSession)])) (ownL_app_fp (keptR 85) L (⟨(s.at i).client, (s.at i).id, (s.at i).acked, (s.at i).last, y1⟩ : CSession)) (fun w => ownL_app_p (keptR 85) L (⟨(s.at i).client, (s.at i).id, (s.at i).acked, (s.at i).last, y1⟩ : CSession) w) ?_
    refine l_nil (q_loop (x := (⟨i, A, c, L⟩ : Nat × Option Addr × Nat × List CSession)) (⟨i + 1, A3, c3, L ++ [(⟨(s.at i).client, (s.at i).id, (s.at i).acked, (s.at i).last, y1⟩ : CSession)]⟩ : Nat × Option Addr × Nat × List CSession) ⟨by omega, by rw [List.length_append]; simp [hL], map_take_snoc (by omega) hI (by simp [CSession.abs, hF1])⟩ (by show s.n - (i + 1) < s.n - i; omega) (s_start [8, 7, 6, 3] 0 (by kernel_rfl) rfl))
  | false =>
    have h1 := of_decide_eq_false h1
    refine c_if false rfl ?_
    refine c_exit ?_
    refine q_then_exit (q_then_exit (q_block_hit (q_then_normal ?_)))
    refine c_seq ?_
    refine c_region ?_
    refine JL_run 2 [] [2] 0 ⟨[(2, .v (.slice A L.length c))], []⟩ [] [] (by kernel_rfl) on wn ?_
    refine l_nil (q_then_normal ?_)
    refine c_ret ?_
    refine q_ret (.inl rfl) [.v (.slice A L.length c)] rfl (fun bs w hS => ?_)
    have hn : L.length = s.n := by omega
    exact ⟨⟨A, c, L⟩, rfl, by rw [hI, take_all (by omega)], hS.kp, hS.out⟩
theorem session_CopyS {B : Nat → Prop} (s : Sl CSession) (w : World) (hs : s.rd B w) (hsm : Rds.small s) : Calls Try.prog 34 #[.slice s.A s.n s.c] w fun e w' => ∃ y : Sl CSession, e = .returned y.val ∧ y.xs.map CSession.abs = s.xs.map CSession.abs ∧ FreshS w w' y :=
  (session_Copy s w hs hsm).mono fun e w' ⟨y, h1, h2, h3, h4⟩ => ⟨y, h1, h2, h3, h4.sub fun hp => sessR_rd hp (sess_texts hs h2)⟩

theorem same_locks {B B' : Nat → Prop} (a b : Sl CLock) (w : World) (ha : a.rd B w) (hb : b.rd B' w) (he : a.xs.map CLock.abs = b.xs.map CLock.abs) : Calls Try.prog 33 #[.slice a.A a.n a.c, .slice b.A b.n b.c] w fun e w' => e = .returned (.bool true) ∧ Kp [] w w' := by
  have oka := Sl.rd.ok ha
  have okb := Sl.rd.ok hb
  have hn := map_n he
  have nca := Sl.ok.nc oka
  refine calls_J0 68 Try.func33 rfl rfl [.slice a.A a.n a.c, .slice b.A b.n b.c] rfl ?_
  refine c_seq ?_
  refine c_region ?_
  refine JL_run 1 [] [0, 1] 0 ⟨[(0, .v (.slice a.A a.n a.c)), (1, .v (.slice b.A b.n b.c))], []⟩ [] [] (by kernel_rfl) on wn ?_
  refine l_nil (q_then_normal ?_)
  refine c_seq ?_
  refine c_seq ?_
  refine c_region ?_
  refine JL_run 5 [] [10, 0, 1] 0 ⟨[(10, vB (!(decide (((a.n : Nat) : Int) = ((b.n : Nat) : Int))))), (0, .v (.slice a.A a.n a.c)), (1, .v (.slice b.A b.n b.c))], []⟩ [] [] (by kernel_rfl) on wn ?_
  refine l_nil (q_then_normal ?_)
  cases h1 : decide (((a.n : Nat) : Int) = ((b.n : Nat) : Int)) with
  | true =>
    have h1 := of_decide_eq_true h1
    refine c_if false rfl ?_
    refine c_skip ?_
    refine q_then_normal ?_
    refine c_seq ?_
    refine c_seq ?_
    refine c_region ?_
    refine JL_run 1 [] [5, 0, 1] 0 ⟨[(5, vI 0), (0, .v (.slice a.A a.n a.c)), (1, .v (.slice b.A b.n b.c))], []⟩ [] [] (by kernel_rfl) on wn ?_
    refine l_nil (q_then_normal ?_)
    refine c_block ?_
    refine c_loop (σ := Nat) (fun i => True) (fun i => a.n - i) (fun i => []) (fun i => ⟨[(5, vI ((i : Nat) : Int)), (0, .v (.slice a.A a.n a.c)), (1, .v (.slice b.A b.n b.c))], []⟩) 0 trivial (s_start [5, 0, 1] 0 (by kernel_rfl) rfl) ?_
    rintro i _
    have hat := map_at (f := CLock.abs) (g := CLock.abs) rfl he i
    have q1 : (a.at i).name = (b.at i).name := congrArg DLock.name hat
    have q2 : (a.at i).holder = (b.at i).holder := congrArg DLock.holder hat
    have q3 : (a.at i).fence = (b.at i).fence := congrArg DLock.fence hat
    have q4 : (a.at i).line.xs = (b.at i).line.xs := congrArg DLock.line hat
    refine c_seq ?_
    refine c_seq ?_
    refine c_region ?_
    refine JL_run 4 [] [14, 5, 0, 1] 0 ⟨[(14, vB (decide (((i : Nat) : Int) < ((a.n : Nat) : Int)))), (5, vI ((i : Nat) : Int)), (0, .v (.slice a.A a.n a.c)), (1, .v (.slice b.A b.n b.c))], []⟩ [] [] (by kernel_rfl) on wn ?_
    refine l_nil (q_then_normal ?_)
    cases h2 : decide (((i : Nat) : Int) < ((a.n : Nat) : Int)) with
    | true =>
      have h2 := of_decide_eq_true h2
      refine c_if true rfl ?_
      refine c_skip ?_
      refine q_then_normal ?_
      refine c_seq ?_
      refine c_block ?_
      refine c_seq ?_
      refine c_draw 51 [(0, false), (1, false), (2, false), (3, false), (4, false), (5, false), (6, false), (7, false), (8, false), (9, false), (10, false), (11, false), (12, false), (13, false), (14, false), (15, false), (16, false), (17, false), (18, false), (19, false), (20, false), (21, false), (22, false), (23, false), (24, false), (25, false), (26, false), (27, false), (28, false), (29, false), (30, false), (31, false), (32, false), (33, false), (34, false), (35, false), (36, false), (37, false), (38, false), (39, false), (40, false), (41, false), (42, false), (43, false), (44, false), (45, false), (46, false), (47, false), (48, true), (49, false), (50, false)] [] [] Try_mixed (by kernel_rfl) (pq_then (pq_block (pq_then (pq_then (pq_block (pq_then pq_body)))))) (List.Sublist.refl _) ?_
      refine h_quiet [(2, .idx a.ad i), (4, .ext [.string ((a.at i).name)]), (7, .idx b.ad i), (9, .ext [.string ((b.at i).name)])] 12 [(28, vB (!(decide (((a.at i).name) = ((b.at i).name))))), (27, vB (!(decide (((a.at i).name) = ((b.at i).name))))), (26, vS ((b.at i).name)), (25, .v (.pointer (some ((b.ad.add (i * 4)).add 0)))), (24, .v (.pointer (some (b.ad.add (i * 4))))), (23, vI ((i : Nat) : Int)), (22, .v (.slice b.A b.n b.c)), (21, vS ((a.at i).name)), (20, .v (.pointer (some ((a.ad.add (i * 4)).add 0)))), (19, .v (.pointer (some (a.ad.add (i * 4))))), (18, vI ((i : Nat) : Int)), (17, .v (.slice a.A a.n a.c)), (14, vB true), (5, vI ((i : Nat) : Int)), (0, .v (.slice a.A a.n a.c)), (1, .v (.slice b.A b.n b.c))] [a.A = some a.ad, ((i : Nat) : Int) = ((i : Nat) : Int), i < a.n, b.A = some b.ad, ((i : Nat) : Int) = ((i : Nat) : Int), i < b.n] [((a.ad.add (i * 4)).add 0, [.string ((a.at i).name)]), ((b.ad.add (i * 4)).add 0, [.string ((b.at i).name)])] rfl rfl (by kernel_rfl) (oc (Sl.ok.own (s := a) (i := i) oka (by omega)) (oc rfl (oc (by omega) (oc (Sl.ok.own (s := b) (i := i) okb (by omega)) (oc rfl (oc (by omega) on)))))) (fun w hk hr => ⟨(Sl.rd.fld (s := a) (i := i) (Sl.rd.kp ha hk) (by omega) 0 1 rfl), ⟨(Sl.rd.fld (s := b) (i := i) (Sl.rd.kp hb hk) (by omega) 0 1 rfl), trivial⟩⟩) ?_
      cases h3 : decide (((a.at i).name) = ((b.at i).name)) with
      | true =>
        have h3 := of_decide_eq_true h3
        refine h_quiet [(14, .idx a.ad i), (16, .ext [.int .i64 ((a.at i).holder)]), (19, .idx b.ad i), (21, .ext [.int .i64 ((b.at i).holder)])] 13 [(41, vB (!(decide ((a.at i).holder = (b.at i).holder)))), (40, vB (!(decide ((a.at i).holder = (b.at i).holder)))), (39, vB (!(decide ((a.at i).holder = (b.at i).holder)))), (38, vI ((b.at i).holder)), (37, .v (.pointer (some ((b.ad.add (i * 4)).add 1)))), (36, .v (.pointer (some (b.ad.add (i * 4))))), (35, vI ((i : Nat) : Int)), (34, .v (.slice b.A b.n b.c)), (33, vI ((a.at i).holder)), (32, .v (.pointer (some ((a.ad.add (i * 4)).add 1)))), (31, .v (.pointer (some (a.ad.add (i * 4))))), (30, vI ((i : Nat) : Int)), (29, .v (.slice a.A a.n a.c)), (28, vB false), (27, vB false), (26, vS ((b.at i).name)), (25, .v (.pointer (some ((b.ad.add (i * 4)).add 0)))), (24, .v (.pointer (some (b.ad.add (i * 4))))), (23, vI ((i : Nat) : Int)), (22, .v (.slice b.A b.n b.c)), (21, vS ((a.at i).name)), (20, .v (.pointer (some ((a.ad.add (i * 4)).add 0)))), (19, .v (.pointer (some (a.ad.add (i * 4))))), (18, vI ((i : Nat) : Int)), (17, .v (.slice a.A a.n a.c)), (14, vB true), (5, vI ((i : Nat) : Int)), (0, .v (.slice a.A a.n a.c)), (1, .v (.slice b.A b.n b.c))] [a.A = some a.ad, ((i : Nat) : Int) = ((i : Nat) : Int), i < a.n, b.A = some b.ad, ((i : Nat) : Int) = ((i : Nat) : Int), i < b.n] [((a.ad.add (i * 4)).add 1, [.int .i64 ((a.at i).holder)]), ((b.ad.add (i * 4)).add 1, [.int .i64 ((b.at i).holder)])] rfl rfl (by kernel_rfl) (oc (Sl.ok.own (s := a) (i := i) oka (by omega)) (oc rfl (oc (by omega) (oc (Sl.ok.own (s := b) (i := i) okb (by omega)) (oc rfl (oc (by omega) on)))))) (fun w hk hr => ⟨(Sl.rd.fld (s := a) (i := i) (Sl.rd.kp ha hk) (by omega) 1 1 rfl), ⟨(Sl.rd.fld (s := b) (i := i) (Sl.rd.kp hb hk) (by omega) 1 1 rfl), trivial⟩⟩) ?_
        cases h4 : decide ((a.at i).holder = (b.at i).holder) with
        | true =>
          have h4 := of_decide_eq_true h4
          refine h_quiet [(27, .idx a.ad i), (29, .ext [.int .i64 ((a.at i).fence)]), (32, .idx b.ad i), (34, .ext [.int .i64 ((b.at i).fence)])] 13 [(54, vB (!(decide ((a.at i).fence = (b.at i).fence)))), (53, vB (!(decide ((a.at i).fence = (b.at i).fence)))), (52, vB (!(decide ((a.at i).fence = (b.at i).fence)))), (51, vI ((b.at i).fence)), (50, .v (.pointer (some ((b.ad.add (i * 4)).add 2)))), (49, .v (.pointer (some (b.ad.add (i * 4))))), (48, vI ((i : Nat) : Int)), (47, .v (.slice b.A b.n b.c)), (46, vI ((a.at i).fence)), (45, .v (.pointer (some ((a.ad.add (i * 4)).add 2)))), (44, .v (.pointer (some (a.ad.add (i * 4))))), (43, vI ((i : Nat) : Int)), (42, .v (.slice a.A a.n a.c)), (41, vB false), (40, vB false), (39, vB false), (38, vI ((b.at i).holder)), (37, .v (.pointer (some ((b.ad.add (i * 4)).add 1)))), (36, .v (.pointer (some (b.ad.add (i * 4))))), (35, vI ((i : Nat) : Int)), (34, .v (.slice b.A b.n b.c)), (33, vI ((a.at i).holder)), (32, .v (.pointer (some ((a.ad.add (i * 4)).add 1)))), (31, .v (.pointer (some (a.ad.add (i * 4))))), (30, vI ((i : Nat) : Int)), (29, .v (.slice a.A a.n a.c)), (28, vB false), (27, vB false), (26, vS ((b.at i).name)), (25, .v (.pointer (some ((b.ad.add (i * 4)).add 0)))), (24, .v (.pointer (some (b.ad.add (i * 4))))), (23, vI ((i : Nat) : Int)), (22, .v (.slice b.A b.n b.c)), (21, vS ((a.at i).name)), (20, .v (.pointer (some ((a.ad.add (i * 4)).add 0)))), (19, .v (.pointer (some (a.ad.add (i * 4))))), (18, vI ((i : Nat) : Int)), (17, .v (.slice a.A a.n a.c)), (14, vB true), (5, vI ((i : Nat) : Int)), (0, .v (.slice a.A a.n a.c)), (1, .v (.slice b.A b.n b.c))] [a.A = some a.ad, ((i : Nat) : Int) = ((i : Nat) : Int), i < a.n, b.A = some b.ad, ((i : Nat) : Int) = ((i : Nat) : Int), i < b.n] [((a.ad.add (i * 4)).add 2, [.int .i64 ((a.at i).fence)]), ((b.ad.add (i * 4)).add 2, [.int .i64 ((b.at i).fence)])] rfl rfl (by kernel_rfl) (oc (Sl.ok.own (s := a) (i := i) oka (by omega)) (oc rfl (oc (by omega) (oc (Sl.ok.own (s := b) (i := i) okb (by omega)) (oc rfl (oc (by omega) on)))))) (fun w hk hr => ⟨(Sl.rd.fld (s := a) (i := i) (Sl.rd.kp ha hk) (by omega) 2 1 rfl), ⟨(Sl.rd.fld (s := b) (i := i) (Sl.rd.kp hb hk) (by omega) 2 1 rfl), trivial⟩⟩) ?_
          cases h5 : decide ((a.at i).fence = (b.at i).fence) with
          | true =>
            have h5 := of_decide_eq_true h5
            refine h_quiet [(40, .idx a.ad i), (42, .ext [.slice (((a.at i).line).A) (((a.at i).line).n) (((a.at i).line).c)]), (45, .idx b.ad i), (47, .ext [.slice (((b.at i).line).A) (((b.at i).line).n) (((b.at i).line).c)])] 10 [(64, .v (.slice (((b.at i).line).A) (((b.at i).line).n) (((b.at i).line).c))), (63, .v (.pointer (some ((b.ad.add (i * 4)).add 3)))), (62, .v (.pointer (some (b.ad.add (i * 4))))), (61, vI ((i : Nat) : Int)), (60, .v (.slice b.A b.n b.c)), (59, .v (.slice (((a.at i).line).A) (((a.at i).line).n) (((a.at i).line).c))), (58, .v (.pointer (some ((a.ad.add (i * 4)).add 3)))), (57, .v (.pointer (some (a.ad.add (i * 4))))), (56, vI ((i : Nat) : Int)), (55, .v (.slice a.A a.n a.c)), (54, vB false), (53, vB false), (52, vB false), (51, vI ((b.at i).fence)), (50, .v (.pointer (some ((b.ad.add (i * 4)).add 2)))), (49, .v (.pointer (some (b.ad.add (i * 4))))), (48, vI ((i : Nat) : Int)), (47, .v (.slice b.A b.n b.c)), (46, vI ((a.at i).fence)), (45, .v (.pointer (some ((a.ad.add (i * 4)).add 2)))), (44, .v (.pointer (some (a.ad.add (i * 4))))), (43, vI ((i : Nat) : Int)), (42, .v (.slice a.A a.n a.c)), (41, vB false), (40, vB false), (39, vB false), (38, vI ((b.at i).holder)), (37, .v (.pointer (some ((b.ad.add (i * 4)).add 1)))), (36, .v (.pointer (some (b.ad.add (i * 4))))), (35, vI ((i : Nat) : Int)), (34, .v (.slice b.A b.n b.c)), (33, vI ((a.at i).holder)), (32, .v (.pointer (some ((a.ad.add (i * 4)).add 1)))), (31, .v (.pointer (some (a.ad.add (i * 4))))), (30, vI ((i : Nat) : Int)), (29, .v (.slice a.A a.n a.c)), (28, vB false), (27, vB false), (26, vS ((b.at i).name)), (25, .v (.pointer (some ((b.ad.add (i * 4)).add 0)))), (24, .v (.pointer (some (b.ad.add (i * 4))))), (23, vI ((i : Nat) : Int)), (22, .v (.slice b.A b.n b.c)), (21, vS ((a.at i).name)), (20, .v (.pointer (some ((a.ad.add (i * 4)).add 0)))), (19, .v (.pointer (some (a.ad.add (i * 4))))), (18, vI ((i : Nat) : Int)), (17, .v (.slice a.A a.n a.c)), (14, vB true), (5, vI ((i : Nat) : Int)), (0, .v (.slice a.A a.n a.c)), (1, .v (.slice b.A b.n b.c))] [a.A = some a.ad, ((i : Nat) : Int) = ((i : Nat) : Int), i < a.n, b.A = some b.ad, ((i : Nat) : Int) = ((i : Nat) : Int), i < b.n] [((a.ad.add (i * 4)).add 3, [.slice (((a.at i).line).A) (((a.at i).line).n) (((a.at i).line).c)]), ((b.ad.add (i * 4)).add 3, [.slice (((b.at i).line).A) (((b.at i).line).n) (((b.at i).line).c)])] rfl rfl (by kernel_rfl) (oc (Sl.ok.own (s := a) (i := i) oka (by omega)) (oc rfl (oc (by omega) (oc (Sl.ok.own (s := b) (i := i) okb (by omega)) (oc rfl (oc (by omega) on)))))) (fun w hk hr => ⟨(Sl.rd.fld (s := a) (i := i) (Sl.rd.kp ha hk) (by omega) 3 1 rfl), ⟨(Sl.rd.fld (s := b) (i := i) (Sl.rd.kp hb hk) (by omega) 3 1 rfl), trivial⟩⟩) ?_
            refine h_pure 46 [] [.v (.slice (((a.at i).line).A) (((a.at i).line).n) (((a.at i).line).c)), .v (.slice (((b.at i).line).A) (((b.at i).line).n) (((b.at i).line).c))] (.bool true) rfl Try.call46 rfl rfl rfl rfl (fun bs w hS => same_ints _ _ w (And.right (Sl.rd.sub (s := a) (i := i) (Sl.rd.kp ha hS.kp) (by omega))) (And.right (Sl.rd.sub (s := b) (i := i) (Sl.rd.kp hb hS.kp) (by omega))) q4) (fun bs0 bs w hp hl hS => hS.down hp hl rfl le_nil (List.Sublist.refl _)) ?_
            refine h_quiet [] 2 [(67, vB false), (66, vB false), (65, vB true), (64, .v (.slice (((b.at i).line).A) (((b.at i).line).n) (((b.at i).line).c))), (63, .v (.pointer (some ((b.ad.add (i * 4)).add 3)))), (62, .v (.pointer (some (b.ad.add (i * 4))))), (61, vI ((i : Nat) : Int)), (60, .v (.slice b.A b.n b.c)), (59, .v (.slice (((a.at i).line).A) (((a.at i).line).n) (((a.at i).line).c))), (58, .v (.pointer (some ((a.ad.add (i * 4)).add 3)))), (57, .v (.pointer (some (a.ad.add (i * 4))))), (56, vI ((i : Nat) : Int)), (55, .v (.slice a.A a.n a.c)), (54, vB false), (53, vB false), (52, vB false), (51, vI ((b.at i).fence)), (50, .v (.pointer (some ((b.ad.add (i * 4)).add 2)))), (49, .v (.pointer (some (b.ad.add (i * 4))))), (48, vI ((i : Nat) : Int)), (47, .v (.slice b.A b.n b.c)), (46, vI ((a.at i).fence)), (45, .v (.pointer (some ((a.ad.add (i * 4)).add 2)))), (44, .v (.pointer (some (a.ad.add (i * 4))))), (43, vI ((i : Nat) : Int)), (42, .v (.slice a.A a.n a.c)), (41, vB false), (40, vB false), (39, vB false), (38, vI ((b.at i).holder)), (37, .v (.pointer (some ((b.ad.add (i * 4)).add 1)))), (36, .v (.pointer (some (b.ad.add (i * 4))))), (35, vI ((i : Nat) : Int)), (34, .v (.slice b.A b.n b.c)), (33, vI ((a.at i).holder)), (32, .v (.pointer (some ((a.ad.add (i * 4)).add 1)))), (31, .v (.pointer (some (a.ad.add (i * 4))))), (30, vI ((i : Nat) : Int)), (29, .v (.slice a.A a.n a.c)), (28, vB false), (27, vB false), (26, vS ((b.at i).name)), (25, .v (.pointer (some ((b.ad.add (i * 4)).add 0)))), (24, .v (.pointer (some (b.ad.add (i * 4))))), (23, vI ((i : Nat) : Int)), (22, .v (.slice b.A b.n b.c)), (21, vS ((a.at i).name)), (20, .v (.pointer (some ((a.ad.add (i * 4)).add 0)))), (19, .v (.pointer (some (a.ad.add (i * 4))))), (18, vI ((i : Nat) : Int)), (17, .v (.slice a.A a.n a.c)), (14, vB true), (5, vI ((i : Nat) : Int)), (0, .v (.slice a.A a.n a.c)), (1, .v (.slice b.A b.n b.c))] [] [] rfl rfl (by kernel_rfl) on wn ?_
            refine h_nil ?_
            refine l_nil (q_then_normal ?_)
            refine c_if false rfl ?_
            refine c_skip ?_
            refine q_block_normal (q_then_normal ?_)
            refine c_region ?_
            refine JL_run 3 [] [5, 0, 1] 0 ⟨[(5, vI (((i : Nat) : Int) + 1)), (0, .v (.slice a.A a.n a.c)), (1, .v (.slice b.A b.n b.c))], []⟩ [inR (((i : Nat) : Int) + 1)] [] (by kernel_rfl) (oc (by unfold inR; omega) on) wn ?_
            refine l_nil (q_loop (x := (i : Nat)) ((i + 1) : Nat) trivial (by omega) (s_start [5, 0, 1] 0 (by kernel_rfl) rfl))
          | false =>
            have h5 := of_decide_eq_false h5
            exfalso; first | omega | exact h5 q1
        | false =>
          have h4 := of_decide_eq_false h4
          exfalso; first | omega | exact h4 q1
      | false =>
        have h3 := of_decide_eq_false h3
        exfalso; first | omega | exact h3 q1
    | false =>
      have h2 := of_decide_eq_false h2
      refine c_if false rfl ?_
      refine c_exit ?_
      refine q_then_exit (q_then_exit (q_block_hit (q_then_normal ?_)))
      refine c_seq ?_
      refine c_region ?_
      refine JL_run 1 [] [4] 0 ⟨[(4, vB true)], []⟩ [] [] (by kernel_rfl) on wn ?_
      refine l_nil (q_then_normal ?_)
      refine c_ret ?_
      refine q_ret (.inl rfl) [vB true] rfl (fun bs w hS => ?_)
      exact ⟨rfl, hS.kp⟩
  | false =>
    have h1 := of_decide_eq_false h1
    exfalso; first | omega | exact h1 q1

theorem same_sessions {B B' : Nat → Prop} (a b : Sl CSession) (w : World) (ha : a.rd B w) (hb : b.rd B' w) (he : a.xs.map CSession.abs = b.xs.map CSession.abs) : Calls Try.prog 35 #[.slice a.A a.n a.c, .slice b.A b.n b.c] w fun e w' => e = .returned (.bool true) ∧ Kp [] w w' := by
  have oka := Sl.rd.ok ha
  have okb := Sl.rd.ok hb
  have hn := map_n he
  have nca := Sl.ok.nc oka
  refine calls_J0 81 Try.func35 rfl rfl [.slice a.A a.n a.c, .slice b.A b.n b.c] rfl ?_
  refine c_seq ?_
  refine c_region ?_
  refine JL_run 1 [] [0, 1] 0 ⟨[(0, .v (.slice a.A a.n a.c)), (1, .v (.slice b.A b.n b.c))], []⟩ [] [] (by kernel_rfl) on wn ?_
  refine l_nil (q_then_normal ?_)
  refine c_seq ?_
  refine c_seq ?_
  refine c_region ?_
  refine JL_run 5 [] [13, 0, 1] 0 ⟨[(13, vB (!(decide (((a.n : Nat) : Int) = ((b.n : Nat) : Int))))), (0, .v (.slice a.A a.n a.c)), (1, .v (.slice b.A b.n b.c))], []⟩ [] [] (by kernel_rfl) on wn ?_
  refine l_nil (q_then_normal ?_)
  cases h1 : decide (((a.n : Nat) : Int) = ((b.n : Nat) : Int)) with
  | true =>
    have h1 := of_decide_eq_true h1
    refine c_if false rfl ?_
    refine c_skip ?_
    refine q_then_normal ?_
    refine c_seq ?_
    refine c_seq ?_
    refine c_region ?_
    refine JL_run 1 [] [5, 0, 1] 0 ⟨[(5, vI 0), (0, .v (.slice a.A a.n a.c)), (1, .v (.slice b.A b.n b.c))], []⟩ [] [] (by kernel_rfl) on wn ?_
    refine l_nil (q_then_normal ?_)
    refine c_block ?_
    refine c_loop (σ := Nat) (fun i => True) (fun i => a.n - i) (fun i => []) (fun i => ⟨[(5, vI ((i : Nat) : Int)), (0, .v (.slice a.A a.n a.c)), (1, .v (.slice b.A b.n b.c))], []⟩) 0 trivial (s_start [5, 0, 1] 0 (by kernel_rfl) rfl) ?_
    rintro i _
    have hat := map_at (f := CSession.abs) (g := CSession.abs) rfl he i
    have q0 : (a.at i).client = (b.at i).client := congrArg DSession.client hat
    have q1 : (a.at i).id = (b.at i).id := congrArg DSession.id hat
    have q2 : (a.at i).acked = (b.at i).acked := congrArg DSession.acked hat
    have q3 : (a.at i).last = (b.at i).last := congrArg DSession.last hat
    have q4 : (a.at i).replies.xs = (b.at i).replies.xs := congrArg DSession.replies hat
    have q5 := xs_n q4
    refine c_seq ?_
    refine c_seq ?_
    refine c_region ?_
    refine JL_run 4 [] [17, 5, 0, 1] 0 ⟨[(17, vB (decide (((i : Nat) : Int) < ((a.n : Nat) : Int)))), (5, vI ((i : Nat) : Int)), (0, .v (.slice a.A a.n a.c)), (1, .v (.slice b.A b.n b.c))], []⟩ [] [] (by kernel_rfl) on wn ?_
    refine l_nil (q_then_normal ?_)
    cases h2 : decide (((i : Nat) : Int) < ((a.n : Nat) : Int)) with
    | true =>
      have h2 := of_decide_eq_true h2
      refine c_if true rfl ?_
      refine c_skip ?_
      refine q_then_normal ?_
      refine c_seq ?_
      refine c_block ?_
      refine c_seq ?_
      refine c_region ?_
      refine JL_run 6 [(2, .idx a.ad i), (3, .ext [.int .i64 ((a.at i).client), .int .i64 ((a.at i).id), .int .i64 ((a.at i).acked), .int .i64 ((a.at i).last), .slice (((a.at i).replies).A) (((a.at i).replies).n) (((a.at i).replies).c)])] [6, 5, 0, 1] 1 ⟨[(6, .p 0 0), (5, vI ((i : Nat) : Int)), (0, .v (.slice a.A a.n a.c)), (1, .v (.slice b.A b.n b.c))], [⟨80, [vI ((a.at i).client), vI ((a.at i).id), vI ((a.at i).acked), vI ((a.at i).last), .v (.slice (((a.at i).replies).A) (((a.at i).replies).n) (((a.at i).replies).c))]⟩]⟩ [a.A = some a.ad, ((i : Nat) : Int) = ((i : Nat) : Int), i < a.n] [(a.ad.add (i * 5), [.int .i64 ((a.at i).client), .int .i64 ((a.at i).id), .int .i64 ((a.at i).acked), .int .i64 ((a.at i).last), .slice (((a.at i).replies).A) (((a.at i).replies).n) (((a.at i).replies).c)])] (by kernel_rfl) (oc (Sl.ok.own (s := a) (i := i) oka (by omega)) (oc rfl (oc (by omega) on))) (fun w hk hr => ⟨(Sl.rd.all (s := a) (i := i) (Sl.rd.kp ha hk) (by omega) rfl), trivial⟩) ?_
      refine l_nil (q_then_normal ?_)
      refine c_seq ?_
      refine c_region ?_
      refine JL_run 6 [(2, .idx b.ad i), (3, .ext [.int .i64 ((b.at i).client), .int .i64 ((b.at i).id), .int .i64 ((b.at i).acked), .int .i64 ((b.at i).last), .slice (((b.at i).replies).A) (((b.at i).replies).n) (((b.at i).replies).c)])] [7, 6, 5, 0, 1] 2 ⟨[(7, .p 1 0), (6, .p 0 0), (5, vI ((i : Nat) : Int)), (0, .v (.slice a.A a.n a.c)), (1, .v (.slice b.A b.n b.c))], [⟨80, [vI ((a.at i).client), vI ((a.at i).id), vI ((a.at i).acked), vI ((a.at i).last), .v (.slice (((a.at i).replies).A) (((a.at i).replies).n) (((a.at i).replies).c))]⟩, ⟨80, [vI ((b.at i).client), vI ((b.at i).id), vI ((b.at i).acked), vI ((b.at i).last), .v (.slice (((b.at i).replies).A) (((b.at i).replies).n) (((b.at i).replies).c))]⟩]⟩ [b.A = some b.ad, ((i : Nat) : Int) = ((i : Nat) : Int), i < b.n] [(b.ad.add (i * 5), [.int .i64 ((b.at i).client), .int .i64 ((b.at i).id), .int .i64 ((b.at i).acked), .int .i64 ((b.at i).last), .slice (((b.at i).replies).A) (((b.at i).replies).n) (((b.at i).replies).c)])] (by kernel_rfl) (oc (Sl.ok.own (s := b) (i := i) okb (by omega)) (oc rfl (oc (by omega) on))) (fun w hk hr => ⟨(Sl.rd.all (s := b) (i := i) (Sl.rd.kp hb hk) (by omega) rfl), trivial⟩) ?_
      refine l_nil (q_then_normal ?_)
      refine c_seq ?_
      refine c_seq ?_
      refine c_region ?_
      refine JL_run 6 [] [33, 7, 6, 5, 0, 1] 2 ⟨[(33, vB (!(decide ((a.at i).client = (b.at i).client)))), (7, .p 1 0), (6, .p 0 0), (5, vI ((i : Nat) : Int)), (0, .v (.slice a.A a.n a.c)), (1, .v (.slice b.A b.n b.c))], [⟨80, [vI ((a.at i).client), vI ((a.at i).id), vI ((a.at i).acked), vI ((a.at i).last), .v (.slice (((a.at i).replies).A) (((a.at i).replies).n) (((a.at i).replies).c))]⟩, ⟨80, [vI ((b.at i).client), vI ((b.at i).id), vI ((b.at i).acked), vI ((b.at i).last), .v (.slice (((b.at i).replies).A) (((b.at i).replies).n) (((b.at i).replies).c))]⟩]⟩ [] [] (by kernel_rfl) on wn ?_
      cases h3 : decide ((a.at i).client = (b.at i).client) with
      | true =>
        have h3 := of_decide_eq_true h3
        refine JL_run 7 [] [40, 7, 6, 5, 0, 1] 2 ⟨[(40, vB (!(decide ((a.at i).id = (b.at i).id)))), (7, .p 1 0), (6, .p 0 0), (5, vI ((i : Nat) : Int)), (0, .v (.slice a.A a.n a.c)), (1, .v (.slice b.A b.n b.c))], [⟨80, [vI ((a.at i).client), vI ((a.at i).id), vI ((a.at i).acked), vI ((a.at i).last), .v (.slice (((a.at i).replies).A) (((a.at i).replies).n) (((a.at i).replies).c))]⟩, ⟨80, [vI ((b.at i).client), vI ((b.at i).id), vI ((b.at i).acked), vI ((b.at i).last), .v (.slice (((b.at i).replies).A) (((b.at i).replies).n) (((b.at i).replies).c))]⟩]⟩ [] [] (by kernel_rfl) on wn ?_
        cases h4 : decide ((a.at i).id = (b.at i).id) with
        | true =>
          have h4 := of_decide_eq_true h4
          refine JL_run 7 [] [47, 7, 6, 5, 0, 1] 2 ⟨[(47, vB (!(decide ((a.at i).acked = (b.at i).acked)))), (7, .p 1 0), (6, .p 0 0), (5, vI ((i : Nat) : Int)), (0, .v (.slice a.A a.n a.c)), (1, .v (.slice b.A b.n b.c))], [⟨80, [vI ((a.at i).client), vI ((a.at i).id), vI ((a.at i).acked), vI ((a.at i).last), .v (.slice (((a.at i).replies).A) (((a.at i).replies).n) (((a.at i).replies).c))]⟩, ⟨80, [vI ((b.at i).client), vI ((b.at i).id), vI ((b.at i).acked), vI ((b.at i).last), .v (.slice (((b.at i).replies).A) (((b.at i).replies).n) (((b.at i).replies).c))]⟩]⟩ [] [] (by kernel_rfl) on wn ?_
          cases h5 : decide ((a.at i).acked = (b.at i).acked) with
          | true =>
            have h5 := of_decide_eq_true h5
            refine JL_run 7 [] [54, 7, 6, 5, 0, 1] 2 ⟨[(54, vB (!(decide ((a.at i).last = (b.at i).last)))), (7, .p 1 0), (6, .p 0 0), (5, vI ((i : Nat) : Int)), (0, .v (.slice a.A a.n a.c)), (1, .v (.slice b.A b.n b.c))], [⟨80, [vI ((a.at i).client), vI ((a.at i).id), vI ((a.at i).acked), vI ((a.at i).last), .v (.slice (((a.at i).replies).A) (((a.at i).replies).n) (((a.at i).replies).c))]⟩, ⟨80, [vI ((b.at i).client), vI ((b.at i).id), vI ((b.at i).acked), vI ((b.at i).last), .v (.slice (((b.at i).replies).A) (((b.at i).replies).n) (((b.at i).replies).c))]⟩]⟩ [] [] (by kernel_rfl) on wn ?_
            cases h6 : decide ((a.at i).last = (b.at i).last) with
            | true =>
              have h6 := of_decide_eq_true h6
              refine JL_run 8 [] [62, 7, 6, 5, 0, 1] 2 ⟨[(62, vB (!(decide (((((a.at i).replies).n : Nat) : Int) = ((((b.at i).replies).n : Nat) : Int))))), (7, .p 1 0), (6, .p 0 0), (5, vI ((i : Nat) : Int)), (0, .v (.slice a.A a.n a.c)), (1, .v (.slice b.A b.n b.c))], [⟨80, [vI ((a.at i).client), vI ((a.at i).id), vI ((a.at i).acked), vI ((a.at i).last), .v (.slice (((a.at i).replies).A) (((a.at i).replies).n) (((a.at i).replies).c))]⟩, ⟨80, [vI ((b.at i).client), vI ((b.at i).id), vI ((b.at i).acked), vI ((b.at i).last), .v (.slice (((b.at i).replies).A) (((b.at i).replies).n) (((b.at i).replies).c))]⟩]⟩ [] [] (by kernel_rfl) on wn ?_
              refine l_nil (q_then_normal ?_)
              cases h7 : decide (((((a.at i).replies).n : Nat) : Int) = ((((b.at i).replies).n : Nat) : Int)) with
              | true =>
                have h7 := of_decide_eq_true h7
                refine c_if false rfl ?_
                refine c_skip ?_
                refine q_then_normal ?_
                refine c_seq ?_
                refine c_region ?_
                refine JL_run 1 [] [8, 7, 6, 5, 0, 1] 2 ⟨[(8, vI 0), (7, .p 1 0), (6, .p 0 0), (5, vI ((i : Nat) : Int)), (0, .v (.slice a.A a.n a.c)), (1, .v (.slice b.A b.n b.c))], [⟨80, [vI ((a.at i).client), vI ((a.at i).id), vI ((a.at i).acked), vI ((a.at i).last), .v (.slice (((a.at i).replies).A) (((a.at i).replies).n) (((a.at i).replies).c))]⟩, ⟨80, [vI ((b.at i).client), vI ((b.at i).id), vI ((b.at i).acked), vI ((b.at i).last), .v (.slice (((b.at i).replies).A) (((b.at i).replies).n) (((b.at i).replies).c))]⟩]⟩ [] [] (by kernel_rfl) on wn ?_
                refine l_nil (q_then_normal ?_)
                refine c_block ?_
                refine c_loop (σ := Nat) (fun j => True) (fun j => (a.at i).replies.n - j) (fun j => []) (fun j => ⟨[(8, vI ((j : Nat) : Int)), (7, .p 1 0), (6, .p 0 0), (5, vI ((i : Nat) : Int)), (0, .v (.slice a.A a.n a.c)), (1, .v (.slice b.A b.n b.c))], [⟨80, [vI ((a.at i).client), vI ((a.at i).id), vI ((a.at i).acked), vI ((a.at i).last), .v (.slice (((a.at i).replies).A) (((a.at i).replies).n) (((a.at i).replies).c))]⟩, ⟨80, [vI ((b.at i).client), vI ((b.at i).id), vI ((b.at i).acked), vI ((b.at i).last), .v (.slice (((b.at i).replies).A) (((b.at i).replies).n) (((b.at i).replies).c))]⟩]⟩) 0 trivial (s_start [8, 7, 6, 5, 0, 1] 2 (by kernel_rfl) rfl) ?_
                rintro j _
                have hbt := xs_at q4 j
                have ncr := Sl.ok.nc (Sl.ok.at oka (show i < a.n by omega))
                refine c_seq ?_
                refine c_seq ?_
                refine c_region ?_
                refine JL_run 5 [] [67, 8, 7, 6, 5, 0, 1] 2 ⟨[(67, vB (decide (((j : Nat) : Int) < ((((a.at i).replies).n : Nat) : Int)))), (8, vI ((j : Nat) : Int)), (7, .p 1 0), (6, .p 0 0), (5, vI ((i : Nat) : Int)), (0, .v (.slice a.A a.n a.c)), (1, .v (.slice b.A b.n b.c))], [⟨80, [vI ((a.at i).client), vI ((a.at i).id), vI ((a.at i).acked), vI ((a.at i).last), .v (.slice (((a.at i).replies).A) (((a.at i).replies).n) (((a.at i).replies).c))]⟩, ⟨80, [vI ((b.at i).client), vI ((b.at i).id), vI ((b.at i).acked), vI ((b.at i).last), .v (.slice (((b.at i).replies).A) (((b.at i).replies).n) (((b.at i).replies).c))]⟩]⟩ [] [] (by kernel_rfl) on wn ?_
                refine l_nil (q_then_normal ?_)
                cases h8 : decide (((j : Nat) : Int) < ((((a.at i).replies).n : Nat) : Int)) with
                | true =>
                  have h8 := of_decide_eq_true h8
                  refine c_if true rfl ?_
                  refine c_skip ?_
                  refine q_then_normal ?_
                  refine c_seq ?_
                  refine c_block ?_
                  refine c_seq ?_
                  refine c_draw 11 [(0, false), (1, false), (2, false), (3, false), (4, false), (5, false), (6, false), (7, false), (8, false), (9, false), (10, false)] [] [] Try_mixed (by kernel_rfl) (pq_then (pq_block (pq_then (pq_then (pq_block (pq_block (pq_then (pq_then (pq_block (pq_then pq_body)))))))))) (List.Sublist.refl _) ?_
                  refine h_quiet [(3, .idx ((a.at i).replies).ad j), (4, .ext [.int .i64 ((((a.at i).replies).at j).seq), .int .i64 ((((a.at i).replies).at j).reply.code), .int .i64 ((((a.at i).replies).at j).reply.n), .string ((((a.at i).replies).at j).reply.text)]), (8, .idx ((b.at i).replies).ad j), (9, .ext [.int .i64 ((((b.at i).replies).at j).seq), .int .i64 ((((b.at i).replies).at j).reply.code), .int .i64 ((((b.at i).replies).at j).reply.n), .string ((((b.at i).replies).at j).reply.text)]), (10, .val (.bool (!((decide ((((a.at i).replies).at j).seq = (((b.at i).replies).at j).seq)) && (((decide ((((a.at i).replies).at j).reply.code = (((b.at i).replies).at j).reply.code)) && ((decide ((((a.at i).replies).at j).reply.n = (((b.at i).replies).at j).reply.n)) && ((decide (((((a.at i).replies).at j).reply.text) = ((((b.at i).replies).at j).reply.text))) && true))) && true)))))] 11 [(80, vB (!((decide ((((a.at i).replies).at j).seq = (((b.at i).replies).at j).seq)) && (((decide ((((a.at i).replies).at j).reply.code = (((b.at i).replies).at j).reply.code)) && ((decide ((((a.at i).replies).at j).reply.n = (((b.at i).replies).at j).reply.n)) && ((decide (((((a.at i).replies).at j).reply.text) = ((((b.at i).replies).at j).reply.text))) && true))) && true)))), (79, .v (.agg #[.int .i64 ((((b.at i).replies).at j).seq), .int .i64 ((((b.at i).replies).at j).reply.code), .int .i64 ((((b.at i).replies).at j).reply.n), .string ((((b.at i).replies).at j).reply.text)])), (78, .v (.pointer (some (((b.at i).replies).ad.add (j * 4))))), (77, vI ((j : Nat) : Int)), (76, .v (.slice (((b.at i).replies).A) (((b.at i).replies).n) (((b.at i).replies).c))), (75, .p 1 4), (74, .v (.agg #[.int .i64 ((((a.at i).replies).at j).seq), .int .i64 ((((a.at i).replies).at j).reply.code), .int .i64 ((((a.at i).replies).at j).reply.n), .string ((((a.at i).replies).at j).reply.text)])), (73, .v (.pointer (some (((a.at i).replies).ad.add (j * 4))))), (72, vI ((j : Nat) : Int)), (71, .v (.slice (((a.at i).replies).A) (((a.at i).replies).n) (((a.at i).replies).c))), (70, .p 0 4), (67, vB true), (8, vI ((j : Nat) : Int)), (7, .p 1 0), (6, .p 0 0), (5, vI ((i : Nat) : Int)), (0, .v (.slice a.A a.n a.c)), (1, .v (.slice b.A b.n b.c))] [((a.at i).replies).A = some ((a.at i).replies).ad, ((j : Nat) : Int) = ((j : Nat) : Int), j < ((a.at i).replies).n, ((b.at i).replies).A = some ((b.at i).replies).ad, ((j : Nat) : Int) = ((j : Nat) : Int), j < ((b.at i).replies).n, ∀ w, (do eqGuard .neq 85 (.tmp 74) (.tmp 79) (.agg #[.int .i64 ((((a.at i).replies).at j).seq), .int .i64 ((((a.at i).replies).at j).reply.code), .int .i64 ((((a.at i).replies).at j).reply.n), .string ((((a.at i).replies).at j).reply.text)]) (.agg #[.int .i64 ((((b.at i).replies).at j).seq), .int .i64 ((((b.at i).replies).at j).reply.code), .int .i64 ((((b.at i).replies).at j).reply.n), .string ((((b.at i).replies).at j).reply.text)]); binOp .neq 85 (.agg #[.int .i64 ((((a.at i).replies).at j).seq), .int .i64 ((((a.at i).replies).at j).reply.code), .int .i64 ((((a.at i).replies).at j).reply.n), .string ((((a.at i).replies).at j).reply.text)]) (.agg #[.int .i64 ((((b.at i).replies).at j).seq), .int .i64 ((((b.at i).replies).at j).reply.code), .int .i64 ((((b.at i).replies).at j).reply.n), .string ((((b.at i).replies).at j).reply.text)]) : Sem Value).run Try.prog w = .ok (.bool (!((decide ((((a.at i).replies).at j).seq = (((b.at i).replies).at j).seq)) && (((decide ((((a.at i).replies).at j).reply.code = (((b.at i).replies).at j).reply.code)) && ((decide ((((a.at i).replies).at j).reply.n = (((b.at i).replies).at j).reply.n)) && ((decide (((((a.at i).replies).at j).reply.text) = ((((b.at i).replies).at j).reply.text))) && true))) && true)))) w] [(((a.at i).replies).ad.add (j * 4), [.int .i64 ((((a.at i).replies).at j).seq), .int .i64 ((((a.at i).replies).at j).reply.code), .int .i64 ((((a.at i).replies).at j).reply.n), .string ((((a.at i).replies).at j).reply.text)]), (((b.at i).replies).ad.add (j * 4), [.int .i64 ((((b.at i).replies).at j).seq), .int .i64 ((((b.at i).replies).at j).reply.code), .int .i64 ((((b.at i).replies).at j).reply.n), .string ((((b.at i).replies).at j).reply.text)])] rfl rfl (by kernel_rfl) (oc (Sl.ok.own (s := (a.at i).replies) (i := j) (Sl.ok.at (s := a) (i := i) oka (by omega)) (by omega)) (oc rfl (oc (by omega) (oc (Sl.ok.own (s := (b.at i).replies) (i := j) (Sl.ok.at (s := b) (i := i) okb (by omega)) (by omega)) (oc rfl (oc (by omega) (oc (neq_agg (by kernel_rfl) (by kernel_rfl)) on))))))) (fun w hk hr => ⟨(Sl.rd.all (s := (a.at i).replies) (i := j) (Sl.rd.sub (s := a) (i := i) (Sl.rd.kp ha hk) (by omega)) (by omega) rfl), ⟨(Sl.rd.all (s := (b.at i).replies) (i := j) (Sl.rd.sub (s := b) (i := i) (Sl.rd.kp hb hk) (by omega)) (by omega) rfl), trivial⟩⟩) ?_
                  refine h_nil ?_
                  refine l_nil (q_then_normal ?_)
                  cases h9 : (decide ((((a.at i).replies).at j).seq = (((b.at i).replies).at j).seq)) && (((decide ((((a.at i).replies).at j).reply.code = (((b.at i).replies).at j).reply.code)) && ((decide ((((a.at i).replies).at j).reply.n = (((b.at i).replies).at j).reply.n)) && ((decide (((((a.at i).replies).at j).reply.text) = ((((b.at i).replies).at j).reply.text))) && true))) && true) with
                  | true =>
                    refine c_if false rfl ?_
                    refine c_skip ?_
                    refine q_block_normal (q_then_normal ?_)
                    refine c_region ?_
                    refine JL_run 3 [] [8, 7, 6, 5, 0, 1] 2 ⟨[(8, vI (((j : Nat) : Int) + 1)), (7, .p 1 0), (6, .p 0 0), (5, vI ((i : Nat) : Int)), (0, .v (.slice a.A a.n a.c)), (1, .v (.slice b.A b.n b.c))], [⟨80, [vI ((a.at i).client), vI ((a.at i).id), vI ((a.at i).acked), vI ((a.at i).last), .v (.slice (((a.at i).replies).A) (((a.at i).replies).n) (((a.at i).replies).c))]⟩, ⟨80, [vI ((b.at i).client), vI ((b.at i).id), vI ((b.at i).acked), vI ((b.at i).last), .v (.slice (((b.at i).replies).A) (((b.at i).replies).n) (((b.at i).replies).c))]⟩]⟩ [inR (((j : Nat) : Int) + 1)] [] (by kernel_rfl) (oc (by unfold inR; omega) on) wn ?_
                    refine l_nil (q_loop (x := (j : Nat)) ((j + 1) : Nat) trivial (by omega) (s_start [8, 7, 6, 5, 0, 1] 2 (by kernel_rfl) rfl))
                  | false =>
                    exfalso; first | omega | (rw [hbt] at h9; simp at h9)
                | false =>
                  have h8 := of_decide_eq_false h8
                  refine c_if false rfl ?_
                  refine c_exit ?_
                  refine q_then_exit (q_then_exit (q_block_hit (q_block_normal (q_then_normal ?_))))
                  refine c_region ?_
                  refine JL_run 3 [] [5, 0, 1] 0 ⟨[(5, vI (((i : Nat) : Int) + 1)), (0, .v (.slice a.A a.n a.c)), (1, .v (.slice b.A b.n b.c))], []⟩ [inR (((i : Nat) : Int) + 1)] [] (by kernel_rfl) (oc (by unfold inR; omega) on) wn ?_
                  refine l_nil (q_loop (x := (i : Nat)) ((i + 1) : Nat) trivial (by omega) (s_start [5, 0, 1] 0 (by kernel_rfl) rfl))
              | false =>
                have h7 := of_decide_eq_false h7
                exfalso; first | omega | (rw [hbt] at h7; simp at h7)
            | false =>
              have h6 := of_decide_eq_false h6
              exfalso; first | omega | (rw [hbt] at h6; simp at h6)
          | false =>
            have h5 := of_decide_eq_false h5
            exfalso; first | omega | (rw [hbt] at h5; simp at h5)
        | false =>
          have h4 := of_decide_eq_false h4
          exfalso; first | omega | (rw [hbt] at h4; simp at h4)
      | false =>
        have h3 := of_decide_eq_false h3
        exfalso; first | omega | (rw [hbt] at h3; simp at h3)
    | false =>
      have h2 := of_decide_eq_false h2
      refine c_if false rfl ?_
      refine c_exit ?_
      refine q_then_exit (q_then_exit (q_block_hit (q_then_normal ?_)))
      refine c_seq ?_
      refine c_region ?_
      refine JL_run 1 [] [4] 0 ⟨[(4, vB true)], []⟩ [] [] (by kernel_rfl) on wn ?_
      refine l_nil (q_then_normal ?_)
      refine c_ret ?_
      refine q_ret (.inl rfl) [vB true] rfl (fun bs w hS => ?_)
      exact ⟨rfl, hS.kp⟩
  | false =>
    have h1 := of_decide_eq_false h1
    exfalso; first | omega | (rw [hbt] at h1; simp at h1)

theorem law_LockCopies {B : Nat → Prop} (x : Sl CLock) (w : World) (hx : x.rd B w) (hsm : Rds.small x) : Calls Try.prog 12 #[.slice x.A x.n x.c] w fun e w' => e = .returned (.bool true) ∧ Kp [] w w' := by
  have okx := Sl.rd.ok hx
  refine calls_J0 9 Try.func12 rfl rfl [.slice x.A x.n x.c] rfl ?_
  refine c_seq ?_
  refine c_region ?_
  refine JL_run 1 [] [0] 0 ⟨[(0, .v (.slice x.A x.n x.c))], []⟩ [] [] (by kernel_rfl) on wn ?_
  refine l_nil (q_then_normal ?_)
  refine c_seq ?_
  refine c_region ?_
  refine JL_run 1 [] [4, 0] 0 ⟨[(4, .v (.slice x.A x.n x.c)), (0, .v (.slice x.A x.n x.c))], []⟩ [] [] (by kernel_rfl) on wn ?_
  refine l_sub_call (σ := Sl CLock) 32 [] [.v (.slice x.A x.n x.c)] (fun y1 => .slice y1.A y1.n y1.c) (fun y1 => y1.xs.map CLock.abs = x.xs.map CLock.abs) Try.call32 rfl rfl rfl rfl (fun bs w hS => lock_CopyS x w (Sl.rd.kp hx hS.kp) hsm) ?_
  rintro fp1 y1 hF1 hok1
  refine JL_run 1 [] [3, 0] 0 ⟨[(3, .v (.slice y1.A y1.n y1.c)), (0, .v (.slice x.A x.n x.c))], []⟩ [] [] (by kernel_rfl) on wn ?_
  refine l_nil (q_then_normal ?_)
  refine c_seq ?_
  refine c_region ?_
  refine JL_run 2 [] [7, 6] 0 ⟨[(7, .v (.slice x.A x.n x.c)), (6, .v (.slice y1.A y1.n y1.c))], []⟩ [] [] (by kernel_rfl) on wn ?_
  refine l_pure 33 [] [.v (.slice y1.A y1.n y1.c), .v (.slice x.A x.n x.c)] (.bool true) Try.call33 rfl rfl rfl rfl (fun bs w hS => same_locks _ _ w (hS.res _ (.head _)) (Sl.rd.kp hx hS.kp) hF1) ?_
  refine JL_run 1 [] [2] 0 ⟨[(2, vB true)], []⟩ [] [] (by kernel_rfl) on wn ?_
  refine l_nil (q_then_normal ?_)
  refine c_ret ?_
  refine q_ret (.inl rfl) [vB true] rfl (fun bs w hS => ?_)
  refine ⟨?_, hS.kp⟩
  simp [retOf, den]

theorem law_SessionCopies {B : Nat → Prop} (x : Sl CSession) (w : World) (hx : x.rd B w) (hsm : Rds.small x) : Calls Try.prog 13 #[.slice x.A x.n x.c] w fun e w' => e = .returned (.bool true) ∧ Kp [] w w' := by
  have okx := Sl.rd.ok hx
  refine calls_J0 9 Try.func13 rfl rfl [.slice x.A x.n x.c] rfl ?_
  refine c_seq ?_
  refine c_region ?_
  refine JL_run 1 [] [0] 0 ⟨[(0, .v (.slice x.A x.n x.c))], []⟩ [] [] (by kernel_rfl) on wn ?_
  refine l_nil (q_then_normal ?_)
  refine c_seq ?_
  refine c_region ?_
  refine JL_run 1 [] [4, 0] 0 ⟨[(4, .v (.slice x.A x.n x.c)), (0, .v (.slice x.A x.n x.c))], []⟩ [] [] (by kernel_rfl) on wn ?_
  refine l_sub_call (σ := Sl CSession) 34 [] [.v (.slice x.A x.n x.c)] (fun y1 => .slice y1.A y1.n y1.c) (fun y1 => y1.xs.map CSession.abs = x.xs.map CSession.abs) Try.call34 rfl rfl rfl rfl (fun bs w hS => session_CopyS x w (Sl.rd.kp hx hS.kp) hsm) ?_
  rintro fp1 y1 hF1 hok1
  refine JL_run 1 [] [3, 0] 0 ⟨[(3, .v (.slice y1.A y1.n y1.c)), (0, .v (.slice x.A x.n x.c))], []⟩ [] [] (by kernel_rfl) on wn ?_
  refine l_nil (q_then_normal ?_)
  refine c_seq ?_
  refine c_region ?_
  refine JL_run 2 [] [7, 6] 0 ⟨[(7, .v (.slice x.A x.n x.c)), (6, .v (.slice y1.A y1.n y1.c))], []⟩ [] [] (by kernel_rfl) on wn ?_
  refine l_pure 35 [] [.v (.slice y1.A y1.n y1.c), .v (.slice x.A x.n x.c)] (.bool true) Try.call35 rfl rfl rfl rfl (fun bs w hS => same_sessions _ _ w (hS.res _ (.head _)) (Sl.rd.kp hx hS.kp) hF1) ?_
  refine JL_run 1 [] [2] 0 ⟨[(2, vB true)], []⟩ [] [] (by kernel_rfl) on wn ?_
  refine l_nil (q_then_normal ?_)
  refine c_ret ?_
  refine q_ret (.inl rfl) [vB true] rfl (fun bs w hS => ?_)
  refine ⟨?_, hS.kp⟩
  simp [retOf, den]

theorem law_LockNames (s : ByteArray) (w : World) (hs : s.size ≤ 9223372036854775807) : Calls Try.prog 10 #[.string s] w fun e w' => e = .returned (.bool true) ∧ Kp [] w w' := by
  refine calls_J0 12 Try.func10 rfl rfl [.string s] rfl ?_
  refine c_seq ?_
  refine c_region ?_
  refine JL_run 1 [] [0] 0 ⟨[(0, vS s)], []⟩ [] [] (by kernel_rfl) on wn ?_
  refine l_nil (q_then_normal ?_)
  refine c_seq ?_
  refine c_region ?_
  refine JL_run 1 [] [5, 0] 0 ⟨[(5, vS s), (0, vS s)], []⟩ [] [] (by kernel_rfl) on wn ?_
  refine l_pure 28 [] [vS s] (.bool (mName s)) Try.call28 rfl rfl rfl rfl (fun bs w hS => lock_Name _ w (by first | assumption | omega | (simp only [emp_size]; omega))) ?_
  refine JL_run 1 [] [3, 0] 0 ⟨[(3, vB (mName s)), (0, vS s)], []⟩ [] [] (by kernel_rfl) on wn ?_
  refine l_nil (q_then_normal ?_)
  refine c_seq ?_
  refine c_region ?_
  refine JL_run 1 [] [7, 3] 0 ⟨[(7, vS s), (3, vB (mName s))], []⟩ [] [] (by kernel_rfl) on wn ?_
  refine l_pure 29 [] [vS s] (.bool (mName s)) Try.call29 rfl rfl rfl rfl (fun bs w hS => ref_NameMay _ w (by first | assumption | omega | (simp only [emp_size]; omega))) ?_
  refine JL_run 1 [] [4, 3] 0 ⟨[(4, vB (mName s)), (3, vB (mName s))], []⟩ [] [] (by kernel_rfl) on wn ?_
  refine l_nil (q_then_normal ?_)
  refine c_seq ?_
  refine c_region ?_
  refine JL_run 4 [(2, .val (.bool ((mName s) == (mName s))))] [2] 0 ⟨[(2, vB ((mName s) == (mName s)))], []⟩ [∀ w, (do eqGuard .eql 4 (.tmp 9) (.tmp 10) (.bool (mName s)) (.bool (mName s)); binOp .eql 4 (.bool (mName s)) (.bool (mName s)) : Sem Value).run Try.prog w = .ok (.bool ((mName s) == (mName s))) w] [] (by kernel_rfl) (oc (eq_bool Try.underlying4) on) wn ?_
  refine l_nil (q_then_normal ?_)
  refine c_ret ?_
  refine q_ret (.inl rfl) [vB ((mName s) == (mName s))] rfl (fun bs w hS => ?_)
  refine ⟨?_, hS.kp⟩
  simp [retOf, den]

end Go.Proofs.Ytececkgjacccmaa.W
