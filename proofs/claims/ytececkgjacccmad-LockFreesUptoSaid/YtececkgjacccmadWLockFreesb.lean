/-
  The functions that the law LockFrees reaches, walked: each returns what its model says.
  Conditions: those that each theorem states.
-/
import Derived.Test.YtececkgjacccmadWLockFreesa
set_option linter.unusedVariables false
set_option linter.unusedSimpArgs false
set_option maxRecDepth 100000
namespace Go.Proofs.Ytececkgjacccmad.W
open Go.Proofs.Ytececkgjacccmad.Fw Go.RowKit

theorem lock_begin {B : Nat → Prop} (s : Sl CLock) (t : ByteArray) (who : Int) (w : World) (hs : s.rd B w) (ht : t.size ≤ 9223372036854775807) : Calls Try.prog 50 #[.slice s.A s.n s.c, .string t, .int .i64 who] w fun e w' => (¬ mAsk (s.xs.map CLock.abs) t who = 0 ∧ e = .returned (.tuple #[.slice none 0 0, .int .i64 0, .bool false, .int .i64 (mAsk (s.xs.map CLock.abs) t who)]) ∧ Kp [] w w') ∨ (mAsk (s.xs.map CLock.abs) t who = 0 ∧ ∃ y : Sl CLock, e = .returned (.tuple #[.slice y.A y.n y.c, .int .i64 ((mBS (fun x : CLock => cmpS x.name t) s.xs : Nat) : Int), .bool (mBSf (fun x : CLock => cmpS x.name t) s.xs), .int .i64 0]) ∧ y.xs.map CLock.abs = s.xs.map CLock.abs ∧ Kp [] w w' ∧ Fresh w w' (locksR 80 3 y)) := by
  have oks := Sl.rd.ok hs
  have ncs := Sl.ok.nc oks
  have hns : s.n = s.xs.length := rfl
  refine calls_J0 34 Try.func50 rfl rfl [.slice s.A s.n s.c, .string t, .int .i64 who] rfl ?_
  refine c_seq ?_
  refine c_region ?_
  refine JL_run 4 [] [0, 1, 2] 0 ⟨[(0, .v (.slice s.A s.n s.c)), (1, vS t), (2, vI who)], []⟩ [] [] (by kernel_rfl) on wn ?_
  refine l_nil (q_then_normal ?_)
  refine c_seq ?_
  refine c_seq ?_
  refine c_region ?_
  refine JL_run 1 [] [13, 0, 1, 2] 0 ⟨[(13, .v (.slice s.A s.n s.c)), (0, .v (.slice s.A s.n s.c)), (1, vS t), (2, vI who)], []⟩ [] [] (by kernel_rfl) on wn ?_
  refine l_pure 107 [] [.v (.slice s.A s.n s.c)] (.int .i64 (mLocks (s.xs.map CLock.abs))) Try.call107 rfl rfl rfl rfl (fun bs w hS => lock_Check s w (Sl.rd.kp hs hS.kp)) ?_
  refine JL_run 1 [] [10, 0, 1, 2] 0 ⟨[(10, vI (mLocks (s.xs.map CLock.abs))), (0, .v (.slice s.A s.n s.c)), (1, vS t), (2, vI who)], []⟩ [] [] (by kernel_rfl) on wn ?_
  refine l_nil (q_then_normal ?_)
  refine c_seq ?_
  refine c_region ?_
  refine JL_run 2 [] [16, 10, 0, 1, 2] 0 ⟨[(16, vB (!(decide (mLocks (s.xs.map CLock.abs) = 0)))), (10, vI (mLocks (s.xs.map CLock.abs))), (0, .v (.slice s.A s.n s.c)), (1, vS t), (2, vI who)], []⟩ [] [] (by kernel_rfl) on wn ?_
  refine l_nil (q_then_normal ?_)
  cases h1 : decide (mLocks (s.xs.map CLock.abs) = 0) with
  | true =>
    have h1 := of_decide_eq_true h1
    have hln := (mLocks_bd h1).1
    have hln2 : s.xs.length ≤ 5 := by simpa using hln
    refine c_if false rfl ?_
    refine c_skip ?_
    refine q_then_normal ?_
    refine c_seq ?_
    refine c_seq ?_
    refine c_region ?_
    refine JL_run 1 [] [18, 0, 1, 2] 0 ⟨[(18, vS t), (0, .v (.slice s.A s.n s.c)), (1, vS t), (2, vI who)], []⟩ [] [] (by kernel_rfl) on wn ?_
    refine l_pure 90 [] [vS t] (.bool (mName t)) Try.call90 rfl rfl rfl rfl (fun bs w hS => lock_Name _ w (by first | assumption | omega | (simp only [emp_size]; omega))) ?_
    refine JL_run 1 [] [20, 0, 1, 2] 0 ⟨[(20, vB (!(mName t))), (0, .v (.slice s.A s.n s.c)), (1, vS t), (2, vI who)], []⟩ [] [] (by kernel_rfl) on wn ?_
    refine l_nil (q_then_normal ?_)
    cases h2 : mName t with
    | true =>
      refine c_if false rfl ?_
      refine c_skip ?_
      refine q_then_normal ?_
      refine c_seq ?_
      refine c_seq ?_
      refine c_region ?_
      refine JL_run 1 [] [21, 0, 1] 0 ⟨[(21, vI who), (0, .v (.slice s.A s.n s.c)), (1, vS t)], []⟩ [] [] (by kernel_rfl) on wn ?_
      refine l_pure 108 [] [vI who] (.bool (inB who 1 9)) Try.call108 rfl rfl rfl rfl (fun bs w hS => lock_client who w) ?_
      refine JL_run 1 [] [23, 0, 1] 0 ⟨[(23, vB (!(inB who 1 9))), (0, .v (.slice s.A s.n s.c)), (1, vS t)], []⟩ [] [] (by kernel_rfl) on wn ?_
      refine l_nil (q_then_normal ?_)
      cases h3 : inB who 1 9 with
      | true =>
        simp only [inB, Bool.and_eq_true, Bool.and_eq_false_iff, decide_eq_true_eq, decide_eq_false_iff_not] at h3
        refine c_if false rfl ?_
        refine c_skip ?_
        refine q_then_normal ?_
        refine c_seq ?_
        refine c_region ?_
        refine JL_run 2 [] [26, 25, 0] 0 ⟨[(26, vS t), (25, .v (.slice s.A s.n s.c)), (0, .v (.slice s.A s.n s.c))], []⟩ [] [] (by kernel_rfl) on wn ?_
        refine l_pure 109 [] [.v (.slice s.A s.n s.c), vS t, .fn 110 []] (.tuple #[.int .i64 ((mBS (fun x : CLock => cmpS x.name t) s.xs : Nat) : Int), .bool (mBSf (fun x : CLock => cmpS x.name t) s.xs)]) Try.call109 rfl rfl rfl rfl (fun bs w hS => bs_lock_begin_1 s t w (Sl.rd.kp hs hS.kp) (show s.xs.length ≤ 1048576 by omega)) ?_
        refine JL_run 5 [] [12, 11, 0] 0 ⟨[(12, vB (mBSf (fun x : CLock => cmpS x.name t) s.xs)), (11, vI ((mBS (fun x : CLock => cmpS x.name t) s.xs : Nat) : Int)), (0, .v (.slice s.A s.n s.c))], []⟩ [] [] (by kernel_rfl) on wn ?_
        refine l_nil (q_then_normal ?_)
        refine c_seq ?_
        refine c_region ?_
        refine JL_run 1 [] [30, 12, 11] 0 ⟨[(30, .v (.slice s.A s.n s.c)), (12, vB (mBSf (fun x : CLock => cmpS x.name t) s.xs)), (11, vI ((mBS (fun x : CLock => cmpS x.name t) s.xs : Nat) : Int))], []⟩ [] [] (by kernel_rfl) on wn ?_
        refine l_freshF (σ := Sl CLock) 112 [] [.v (.slice s.A s.n s.c)] (fun y1 => .slice y1.A y1.n y1.c) (fun y1 => y1.xs.map CLock.abs = s.xs.map CLock.abs) (fun y1 => locksR 80 3 y1) Try.call112 rfl rfl rfl rfl (fun bs w hS => lock_Copy s w (Sl.rd.kp hs hS.kp) (small_locks (by assumption))) ?_
        rintro y1 hF1
        refine JL_run 6 [] [9, 8, 7, 6] 0 ⟨[(9, vI 0), (8, vB (mBSf (fun x : CLock => cmpS x.name t) s.xs)), (7, vI ((mBS (fun x : CLock => cmpS x.name t) s.xs : Nat) : Int)), (6, .v (.slice y1.A y1.n y1.c))], []⟩ [] [] (by kernel_rfl) on wn ?_
        refine l_nil (q_then_normal ?_)
        refine c_ret ?_
        refine q_ret (.inl rfl) [.v (.slice y1.A y1.n y1.c), vI ((mBS (fun x : CLock => cmpS x.name t) s.xs : Nat) : Int), vB (mBSf (fun x : CLock => cmpS x.name t) s.xs), vI 0] rfl (fun bs w hS => ?_)
        have hm : mAsk (s.xs.map CLock.abs) t who = 0 := by
          unfold mAsk
          repeat (first | rw [if_pos (by first | assumption | omega)] | rw [if_neg (by first | assumption | omega | (simp_all; done))])
          try rfl
          try omega
        exact .inr ⟨hm, y1, rfl, hF1, hS.kp, hS.out1⟩
      | false =>
        simp only [inB, Bool.and_eq_true, Bool.and_eq_false_iff, decide_eq_true_eq, decide_eq_false_iff_not] at h3
        refine c_if true rfl ?_
        refine c_seq ?_
        refine c_region ?_
        refine JL_run 4 [] [9, 8, 7, 6] 0 ⟨[(9, vI 2), (8, vB false), (7, vI 0), (6, .v (.slice none 0 0))], []⟩ [] [] (by kernel_rfl) on wn ?_
        refine l_nil (q_then_normal ?_)
        refine c_ret ?_
        refine q_then_ret (q_ret (.inl rfl) [.v (.slice none 0 0), vI 0, vB false, vI 2] rfl (fun bs w hS => ?_))
        have hm : mAsk (s.xs.map CLock.abs) t who = 2 := by
          unfold mAsk
          repeat (first | rw [if_pos (by first | assumption | omega)] | rw [if_neg (by first | assumption | omega | (simp_all; done))])
          try rfl
          try omega
        refine .inl ⟨?_, ?_, hS.kp⟩
        · rw [hm]; first | assumption | omega
        · rw [hm] <;> rfl
    | false =>
      refine c_if true rfl ?_
      refine c_seq ?_
      refine c_region ?_
      refine JL_run 4 [] [9, 8, 7, 6] 0 ⟨[(9, vI 4), (8, vB false), (7, vI 0), (6, .v (.slice none 0 0))], []⟩ [] [] (by kernel_rfl) on wn ?_
      refine l_nil (q_then_normal ?_)
      refine c_ret ?_
      refine q_then_ret (q_ret (.inl rfl) [.v (.slice none 0 0), vI 0, vB false, vI 4] rfl (fun bs w hS => ?_))
      have hm : mAsk (s.xs.map CLock.abs) t who = 4 := by
        unfold mAsk
        repeat (first | rw [if_pos (by first | assumption | omega)] | rw [if_neg (by first | assumption | omega | (simp_all; done))])
        try rfl
        try omega
      refine .inl ⟨?_, ?_, hS.kp⟩
      · rw [hm]; first | assumption | omega
      · rw [hm] <;> rfl
  | false =>
    have h1 := of_decide_eq_false h1
    refine c_if true rfl ?_
    refine c_seq ?_
    refine c_region ?_
    refine JL_run 5 [] [9, 8, 7, 6] 0 ⟨[(9, vI (mLocks (s.xs.map CLock.abs))), (8, vB false), (7, vI 0), (6, .v (.slice none 0 0))], []⟩ [] [] (by kernel_rfl) on wn ?_
    refine l_nil (q_then_normal ?_)
    refine c_ret ?_
    refine q_then_ret (q_ret (.inl rfl) [.v (.slice none 0 0), vI 0, vB false, vI (mLocks (s.xs.map CLock.abs))] rfl (fun bs w hS => ?_))
    have hm : mAsk (s.xs.map CLock.abs) t who = mLocks (s.xs.map CLock.abs) := by
      unfold mAsk
      repeat (first | rw [if_pos (by first | assumption | omega)] | rw [if_neg (by first | assumption | omega | (simp_all; done))])
      try rfl
      try omega
    refine .inl ⟨?_, ?_, hS.kp⟩
    · rw [hm]; first | assumption | omega
    · rw [hm] <;> rfl

theorem ref_unlined {B : Nat → Prop} (s : Sl Int) (who : Int) (w : World) (hs : s.rd B w) (hb : s.n ≤ 1048576) : Calls Try.prog 58 #[.slice s.A s.n s.c, .int .i64 who] w fun e w' => ∃ y : Sl Int, e = .returned y.val ∧ y.xs = unline s.xs who ∧ FreshS w w' y := by
  have oks := Sl.rd.ok hs
  have ncs := Sl.ok.nc oks
  have hns : s.n = s.xs.length := rfl
  refine calls_J0 27 Try.func58 rfl rfl [.slice s.A s.n s.c, .int .i64 who] rfl ?_
  refine c_seq ?_
  refine c_region ?_
  refine JL_run 1 [] [0, 1] 0 ⟨[(0, .v (.slice s.A s.n s.c)), (1, vI who)], []⟩ [] [] (by kernel_rfl) on wn ?_
  refine l_nil (q_then_normal ?_)
  refine c_seq ?_
  refine c_region ?_
  refine JL_run 1 [] [5, 0, 1] 0 ⟨[(5, .v (.slice none 0 0)), (0, .v (.slice s.A s.n s.c)), (1, vI who)], []⟩ [] [] (by kernel_rfl) on wn ?_
  refine l_nil (q_then_normal ?_)
  refine c_seq ?_
  refine c_seq ?_
  refine c_region ?_
  refine JL_run 1 [] [6, 5, 0, 1] 0 ⟨[(6, vI 0), (5, .v (.slice none 0 0)), (0, .v (.slice s.A s.n s.c)), (1, vI who)], []⟩ [] [] (by kernel_rfl) on wn ?_
  refine l_nil (q_then_normal ?_)
  refine c_block ?_
  refine c_rowA (α := Int) 3 ?_
  refine c_loop (σ := Nat × Option Addr × Nat × List Int) (fun ⟨i, A, c, L⟩ => i ≤ s.n ∧ L = (s.xs.take i).filter (fun z => !decide (z = who))) (fun ⟨i, A, c, L⟩ => s.n - i) (fun ⟨i, A, c, L⟩ => [rowA 3 A c (L : List Int)]) (fun ⟨i, A, c, L⟩ => ⟨[(6, vI ((i : Nat) : Int)), (5, .v (.slice A L.length c)), (0, .v (.slice s.A s.n s.c)), (1, vI who)], []⟩) ⟨0, none, 0, []⟩ ⟨Nat.zero_le _, rfl⟩ (s_start [6, 5, 0, 1] 0 (by kernel_rfl) rfl) ?_
  rintro ⟨i, A, c, L⟩ ⟨hi, hI⟩
  have hLn : L.length ≤ i := by rw [hI]; exact Nat.le_trans (List.length_filter_le _ _) (by rw [List.length_take]; omega)
  refine c_seq ?_
  refine c_seq ?_
  refine c_region ?_
  refine JL_run 4 [] [10, 6, 5, 0, 1] 0 ⟨[(10, vB (decide (((i : Nat) : Int) < ((s.n : Nat) : Int)))), (6, vI ((i : Nat) : Int)), (5, .v (.slice A L.length c)), (0, .v (.slice s.A s.n s.c)), (1, vI who)], []⟩ [] [] (by kernel_rfl) on wn ?_
  refine l_nil (q_then_normal ?_)
  cases h1 : decide (((i : Nat) : Int) < ((s.n : Nat) : Int)) with
  | true =>
    have h1 := of_decide_eq_true h1
    refine c_if true rfl ?_
    refine c_skip ?_
    refine q_then_normal ?_
    refine c_seq ?_
    refine c_block ?_
    refine c_seq ?_
    refine c_region ?_
    refine JL_run 6 [(2, .idx s.ad i), (3, .ext [.int .i64 (s.at i)])] [18, 6, 5, 0, 1] 0 ⟨[(18, vB (!(decide ((s.at i) = who)))), (6, vI ((i : Nat) : Int)), (5, .v (.slice A L.length c)), (0, .v (.slice s.A s.n s.c)), (1, vI who)], []⟩ [s.A = some s.ad, ((i : Nat) : Int) = ((i : Nat) : Int), i < s.n] [(s.ad.add (i * 1), [.int .i64 (s.at i)])] (by kernel_rfl) (oc (Sl.ok.own (s := s) (i := i) oks (by omega)) (oc rfl (oc (by omega) on))) (fun w hk hr => ⟨(Sl.rd.all (s := s) (i := i) (Sl.rd.kp hs hk) (by omega) rfl), trivial⟩) ?_
    refine l_nil (q_then_normal ?_)
    cases h2 : decide ((s.at i) = who) with
    | true =>
      have h2 := of_decide_eq_true h2
      refine c_if false rfl ?_
      refine c_skip ?_
      refine q_block_normal (q_then_normal ?_)
      refine c_region ?_
      refine JL_run 3 [] [6, 5, 0, 1] 0 ⟨[(6, vI (((i : Nat) : Int) + 1)), (5, .v (.slice A L.length c)), (0, .v (.slice s.A s.n s.c)), (1, vI who)], []⟩ [inR (((i : Nat) : Int) + 1)] [] (by kernel_rfl) (oc (by unfold inR; omega) on) wn ?_
      refine l_nil (q_loop (x := (⟨i, A, c, L⟩ : Nat × Option Addr × Nat × List Int)) (⟨i + 1, A, c, L⟩ : Nat × Option Addr × Nat × List Int) ⟨by omega, by first | exact filtS_in (p := fun z => decide (z = who)) hI (by omega) (decide_eq_false (by assumption)) | exact filtS_out (p := fun z => decide (z = who)) hI (by omega) (decide_eq_true (by assumption))⟩ (by show s.n - (i + 1) < s.n - i; omega) (s_start [6, 5, 0, 1] 0 (by kernel_rfl) rfl))
    | false =>
      have h2 := of_decide_eq_false h2
      refine c_if true rfl ?_
      refine c_region ?_
      refine JL_run 6 [(3, .idx s.ad i), (4, .ext [.int .i64 (s.at i)])] [24, 19, 6, 0, 1] 1 ⟨[(24, .s 0 0 1 1), (19, .v (.slice A L.length c)), (6, vI ((i : Nat) : Int)), (0, .v (.slice s.A s.n s.c)), (1, vI who)], [⟨3, [vI (s.at i)]⟩]⟩ [s.A = some s.ad, ((i : Nat) : Int) = ((i : Nat) : Int), i < s.n] [(s.ad.add (i * 1), [.int .i64 (s.at i)])] (by kernel_rfl) (oc (Sl.ok.own (s := s) (i := i) oks (by omega)) (oc rfl (oc (by omega) on))) (fun w hk hr => ⟨(Sl.rd.all (s := s) (i := i) (Sl.rd.kp hs hk) (by omega) rfl), trivial⟩) ?_
      refine l_appendA (α := Int) 3 8 A c (L) (.s 0 0 1 1) ([(s.at i)]) Try.underlying78 (by kernel_rfl) rfl rfl rfl (fun bs w hS => by obtain ⟨q1, q2, q3, q4⟩ := src_loc (i := 0) (off := 0) (k := 1) (c := 1) (q := 1) (vs := [.int .i64 (s.at i)]) hS rfl rfl; exact ⟨some q1, q2, q3, q4⟩) (by first | omega | (simp only [List.length_append, List.length_nil, List.length_cons]; omega)) (by first | omega | (simp only [List.length_append, List.length_nil, List.length_cons]; omega)) ?_
      intro A1 c1
      refine JL_run 1 [] [5, 6, 0, 1] 0 ⟨[(5, .v (.slice A1 (L ++ [(s.at i)]).length c1)), (6, vI ((i : Nat) : Int)), (0, .v (.slice s.A s.n s.c)), (1, vI who)], []⟩ [] [] (by kernel_rfl) on wn ?_
      refine l_nil (q_block_normal (q_then_normal ?_))
      refine c_region ?_
      refine JL_run 3 [] [6, 5, 0, 1] 0 ⟨[(6, vI (((i : Nat) : Int) + 1)), (5, .v (.slice A1 (L ++ [(s.at i)]).length c1)), (0, .v (.slice s.A s.n s.c)), (1, vI who)], []⟩ [inR (((i : Nat) : Int) + 1)] [] (by kernel_rfl) (oc (by unfold inR; omega) on) wn ?_
      refine l_nil (q_loop (x := (⟨i, A, c, L⟩ : Nat × Option Addr × Nat × List Int)) (⟨i + 1, A1, c1, L ++ [(s.at i)]⟩ : Nat × Option Addr × Nat × List Int) ⟨by omega, by first | exact filtS_in (p := fun z => decide (z = who)) hI (by omega) (decide_eq_false (by assumption)) | exact filtS_out (p := fun z => decide (z = who)) hI (by omega) (decide_eq_true (by assumption))⟩ (by show s.n - (i + 1) < s.n - i; omega) (s_start [6, 5, 0, 1] 0 (by kernel_rfl) rfl))
  | false =>
    have h1 := of_decide_eq_false h1
    refine c_if false rfl ?_
    refine c_exit ?_
    refine q_then_exit (q_then_exit (q_block_hit (q_then_normal ?_)))
    refine c_seq ?_
    refine c_region ?_
    refine JL_run 2 [] [4] 0 ⟨[(4, .v (.slice A L.length c))], []⟩ [] [] (by kernel_rfl) on wn ?_
    refine l_nil (q_then_normal ?_)
    refine c_ret ?_
    refine q_ret (.inl rfl) [.v (.slice A L.length c)] rfl (fun bs w hS => ?_)
    exact ⟨⟨A, c, L⟩, rfl, by show L = _; rw [hI, take_all (by omega)]; rfl, hS.outS (y := (⟨A, c, L⟩ : Sl Int)) (allR_row (.head _) (hS.res _ (.head _)) (fun _ _ => trivial))⟩

theorem ref_passed {B : Nat → Prop} (x : CLock) (w : World) (hx : Rds.sub B w x) (hf : 1 ≤ x.fence ∧ x.fence ≤ 1073741824) (hl : x.line.n ≤ 1048576) : Calls Try.prog 56 #[.agg #[.string x.name, .int .i64 x.holder, .int .i64 x.fence, .slice x.line.A x.line.n x.line.c]] w fun e w' => ∃ y : CLock, e = .returned (.agg #[.string y.name, .int .i64 y.holder, .int .i64 y.fence, .slice y.line.A y.line.n y.line.c]) ∧ y.abs = mPass x.abs ∧ FreshS w w' y := by
  have okx := Rds.okof hx
  have ncx := Sl.ok.nc okx.2
  have hnx : x.line.n = x.line.xs.length := rfl
  have hq1 : x.abs.line = x.line.xs := rfl
  have hq2 : x.abs.fence = x.fence := rfl
  refine calls_J0 31 Try.func56 rfl rfl [.agg #[.string x.name, .int .i64 x.holder, .int .i64 x.fence, .slice x.line.A x.line.n x.line.c]] rfl ?_
  refine c_seq ?_
  refine c_region ?_
  refine JL_run 2 [] [2, 1] 2 ⟨[(2, .p 1 0), (1, .p 0 0)], [⟨80, [vS x.name, vI x.holder, vI x.fence, .v (.slice x.line.A x.line.n x.line.c)]⟩, ⟨80, [vS emp, vI 0, vI 0, .v (.slice none 0 0)]⟩]⟩ [] [] (by kernel_rfl) on wn ?_
  refine l_nil (q_then_normal ?_)
  refine c_seq ?_
  refine c_seq ?_
  refine c_region ?_
  refine JL_run 5 [] [7, 2, 1] 2 ⟨[(7, vB (decide (((x.line.n : Nat) : Int) = 0))), (2, .p 1 0), (1, .p 0 0)], [⟨80, [vS x.name, vI x.holder, vI x.fence, .v (.slice x.line.A x.line.n x.line.c)]⟩, ⟨80, [vS emp, vI 0, vI 0, .v (.slice none 0 0)]⟩]⟩ [] [] (by kernel_rfl) on wn ?_
  cases h1 : decide (((x.line.n : Nat) : Int) = 0) with
  | true =>
    have h1 := of_decide_eq_true h1
    refine JL_run 4 [] [11, 2, 1] 2 ⟨[(11, vB true), (2, .p 1 0), (1, .p 0 0)], [⟨80, [vS x.name, vI x.holder, vI x.fence, .v (.slice x.line.A x.line.n x.line.c)]⟩, ⟨80, [vS emp, vI 0, vI 0, .v (.slice none 0 0)]⟩]⟩ [] [] (by kernel_rfl) on wn ?_
    refine l_nil (q_then_normal ?_)
    refine c_if true rfl ?_
    refine c_seq ?_
    refine c_region ?_
    refine JL_run 6 [] [2] 2 ⟨[(2, .p 1 0)], [⟨80, [vS x.name, vI x.holder, vI x.fence, .v (.slice x.line.A x.line.n x.line.c)]⟩, ⟨80, [vS x.name, vI 0, vI x.fence, .v (.slice none 0 0)]⟩]⟩ [] [] (by kernel_rfl) on wn ?_
    refine l_nil (q_then_normal ?_)
    refine c_ret ?_
    refine q_then_ret (q_ret (.inl rfl) [.v (.agg #[.string x.name, .int .i64 0, .int .i64 x.fence, .slice none 0 0])] rfl (fun bs w hS => ?_))
    have hp : mPass x.abs = ⟨x.name, 0, x.fence, []⟩ := by unfold mPass; rw [hq1, hq2, if_neg (by omega)]; rfl
    exact ⟨⟨x.name, 0, x.fence, Sl.nil⟩, rfl, hp.symm, hS.outS (y := (⟨x.name, 0, x.fence, Sl.nil⟩ : CLock)) ⟨okx.1, Sl.rd_nil _ _⟩⟩
  | false =>
    have h1 := of_decide_eq_false h1
    refine JL_run 4 [] [11, 2, 1] 2 ⟨[(11, vB (decide ((1073741824 : Int) ≤ x.fence))), (2, .p 1 0), (1, .p 0 0)], [⟨80, [vS x.name, vI x.holder, vI x.fence, .v (.slice x.line.A x.line.n x.line.c)]⟩, ⟨80, [vS emp, vI 0, vI 0, .v (.slice none 0 0)]⟩]⟩ [] [] (by kernel_rfl) on wn ?_
    refine l_nil (q_then_normal ?_)
    cases h2 : decide ((1073741824 : Int) ≤ x.fence) with
    | true =>
      have h2 := of_decide_eq_true h2
      refine c_if true rfl ?_
      refine c_seq ?_
      refine c_region ?_
      refine JL_run 6 [] [2] 2 ⟨[(2, .p 1 0)], [⟨80, [vS x.name, vI x.holder, vI x.fence, .v (.slice x.line.A x.line.n x.line.c)]⟩, ⟨80, [vS x.name, vI 0, vI x.fence, .v (.slice none 0 0)]⟩]⟩ [] [] (by kernel_rfl) on wn ?_
      refine l_nil (q_then_normal ?_)
      refine c_ret ?_
      refine q_then_ret (q_ret (.inl rfl) [.v (.agg #[.string x.name, .int .i64 0, .int .i64 x.fence, .slice none 0 0])] rfl (fun bs w hS => ?_))
      have hp : mPass x.abs = ⟨x.name, 0, x.fence, []⟩ := by unfold mPass; rw [hq1, hq2, if_neg (by omega)]; rfl
      exact ⟨⟨x.name, 0, x.fence, Sl.nil⟩, rfl, hp.symm, hS.outS (y := (⟨x.name, 0, x.fence, Sl.nil⟩ : CLock)) ⟨okx.1, Sl.rd_nil _ _⟩⟩
    | false =>
      have h2 := of_decide_eq_false h2
      refine c_if false rfl ?_
      refine c_skip ?_
      refine q_then_normal ?_
      refine c_seq ?_
      refine c_draw 14 [] (.p 0 (.q 1 (.p 2 (.q 3 (.p 4 (.q 5 (.p 6 (.q 7 (.p 8 (.p 9 (.q 10 (.p 11 (.b 12 (.p 13 .nil) .z))))))))))))) [] [] Try_mixed (by kernel_rfl) (pq_then pq_body) .slnil ?_
      refine h_quiet [(4, .idx x.line.ad 0), (5, .ext [.int .i64 (x.line.at 0)]), (11, .sl 1 x.line.n)] [(0, true), (1, false), (2, true), (3, false), (4, true), (5, false), (6, true), (7, false), (8, true), (9, true), (10, false), (11, true)] [(28, .v (.slice (if x.line.c = 1 then x.line.A else x.line.A.map (·.add (1 * 1))) (x.line.n - 1) (x.line.c - 1))), (27, .v (.slice x.line.A x.line.n x.line.c)), (26, .p 0 3), (25, vI (x.fence + 1)), (24, vI x.fence), (23, .p 0 2), (22, vI (x.line.at 0)), (21, .v (.pointer (some (x.line.ad.add (0 * 1))))), (20, .v (.slice x.line.A x.line.n x.line.c)), (19, .p 0 3), (18, vS x.name), (17, .p 0 0), (11, vB false), (2, .p 1 0), (1, .p 0 0)] [x.line.A = some x.line.ad, (0 : Int) = ((0 : Nat) : Int), 0 < x.line.n, inR (x.fence + 1), (1 : Int) = ((1 : Nat) : Int), x.line.n = x.line.n, 1 ≤ x.line.n] [(x.line.ad.add (0 * 1), [.int .i64 (x.line.at 0)])] rfl (by kernel_rfl) (oc (Sl.ok.own (s := x.line) (i := 0) (And.right okx) (by omega)) (oc rfl (oc (by omega) (oc (by unfold inR; omega) (oc rfl (oc rfl (oc (by omega) on))))))) (fun w hk hr => ⟨(Sl.rd.all (s := x.line) (i := 0) (And.right (Rds.kp hx hk)) (by omega) rfl), trivial⟩) ?_
      refine h_rowA (α := Int) 3 ?_
      refine h_appendA (α := Int) 3 8 none 0 ([]) (.v (.slice (if x.line.c = 1 then x.line.A else x.line.A.map (·.add (1 * 1))) (x.line.n - 1) (x.line.c - 1))) (x.line.xs.drop 1) rfl Try.underlying78 (by kernel_rfl) rfl rfl rfl rfl (fun bs w hS => ⟨_, _, by rw [(show (x.line.xs.drop 1).length = x.line.n - 1 from List.length_drop ..)]; rfl, by rw [(show (x.line.xs.drop 1).length = x.line.n - 1 from List.length_drop ..)]; exact Sl.rd.srcDrop (s := x.line) (And.right (Rds.kp hx hS.kp)) (by omega)⟩) (by simp only [List.length_nil, List.length_drop]; omega) (by simp only [List.length_nil, List.length_drop]; omega) (fun bs0 bs A2 c2 w hp hl hS => hS.down hp hl rfl (le_same (le_same le_nil)) (.cons _ .slnil)) ?_
      intro A1 c1
      refine h_quiet [] [(13, true)] [(30, .v (.agg #[.string x.name, .int .i64 (x.line.at 0), .int .i64 (x.fence + 1), .slice A1 ([] ++ x.line.xs.drop 1).length c1])), (29, .v (.slice A1 ([] ++ x.line.xs.drop 1).length c1)), (28, .v (.slice (if x.line.c = 1 then x.line.A else x.line.A.map (·.add (1 * 1))) (x.line.n - 1) (x.line.c - 1))), (27, .v (.slice x.line.A x.line.n x.line.c)), (26, .p 0 3), (25, vI (x.fence + 1)), (24, vI x.fence), (23, .p 0 2), (22, vI (x.line.at 0)), (21, .v (.pointer (some (x.line.ad.add (0 * 1))))), (20, .v (.slice x.line.A x.line.n x.line.c)), (19, .p 0 3), (18, vS x.name), (17, .p 0 0), (11, vB false), (2, .p 1 0), (1, .p 0 0)] [] [] rfl (by kernel_rfl) on wn ?_
      refine h_nil ?_
      refine JL_run 1 [] [2] 2 ⟨[(2, .p 1 0)], [⟨80, [vS x.name, vI x.holder, vI x.fence, .v (.slice x.line.A x.line.n x.line.c)]⟩, ⟨80, [vS x.name, vI (x.line.at 0), vI (x.fence + 1), .v (.slice A1 ([] ++ x.line.xs.drop 1).length c1)]⟩]⟩ [] [] (by kernel_rfl) on wn ?_
      refine l_nil (q_then_normal ?_)
      refine c_ret ?_
      refine q_ret (.inl rfl) [.v (.agg #[.string x.name, .int .i64 (x.line.at 0), .int .i64 (x.fence + 1), .slice A1 ([] ++ x.line.xs.drop 1).length c1])] rfl (fun bs w hS => ?_)
      have hp : mPass x.abs = ⟨x.name, x.line.at 0, x.fence + 1, x.line.xs.drop 1⟩ := by unfold mPass; rw [hq1, hq2, if_pos (by omega)]; rfl
      exact ⟨⟨x.name, x.line.at 0, x.fence + 1, ⟨A1, c1, [] ++ x.line.xs.drop 1⟩⟩, rfl, hp.symm, hS.outS (y := (⟨x.name, x.line.at 0, x.fence + 1, ⟨A1, c1, [] ++ x.line.xs.drop 1⟩⟩ : CLock)) ⟨okx.1, allR_row (.head _) (hS.res _ (.head _)) (fun _ _ => trivial)⟩⟩

theorem lock_pass {B : Nat → Prop} (A : Option Addr) (c : Nat) (L : List CLock) (k : Nat) (w : World) (hrow : (rowA 80 A c L).p w) (hlt : ∀ b, b ∈ (rowA 80 A c L).fp → b < w.heap.size) (hk : k < L.length) (hx : Rds.sub B w (L.getD k default)) (hB : ∀ b, B b → b ∉ (rowA 80 A c L).fp) (hf : 1 ≤ (L.getD k default).fence ∧ (L.getD k default).fence ≤ 1073741824) : Calls Try.prog 52 #[.pointer (some ((oad A).add (k * 4)))] w fun e w' => ∃ _ : Unit, e = .returned (.tuple #[]) ∧ True ∧ Turned (rowA 80 A c L) w w' (rowA 80 A c (L.set k (passC (L.getD k default)))) := by
  have hrok := rowA_rok hrow
  have nc := hrok.2
  have okx := Rds.okof hx
  have ncx := Sl.ok.nc okx.2
  have hnx : (L.getD k default).line.n = (L.getD k default).line.xs.length := rfl
  have hst : ∀ w', Kp (rowA 80 A c L).fp w w' → Rds.sub B w' (L.getD k default) := fun w' hk => Rds.stay (fun b hb hlt => hk.block b hlt (hB b hb)) hx
  refine calls_J 46 (rowA 80 A c L).fp Try.func52 rfl rfl [] [] [rowA 80 A c L] [.v (.pointer (some ((oad A).add (k * 4))))] [.pointer (some ((oad A).add (k * 4)))] rfl rfl (WS.start1 w _ hrow (by cases A <;> simp [rowA, rowR]) hlt) ?_
  refine c_seq ?_
  refine c_region ?_
  refine JL_run 3 [] [4, 0] 0 ⟨[(4, .v (.pointer (some (((oad A).add (k * 4)).add 1)))), (0, .v (.pointer (some ((oad A).add (k * 4)))))], []⟩ [] [] (by kernel_rfl) on wn ?_
  refine l_storeA (α := CLock) 80 A c L k 1 (((oad A).add (k * 4)).add 1) (vI 0) [vI 0] [.int .i64 0] (⟨(L.getD k default).name, 0, (L.getD k default).fence, (L.getD k default).line⟩ : CLock) rfl rfl rfl rfl rfl (by kernel_rfl) (by kernel_rfl) rfl (by omega) (by kernel_rfl) rfl rfl rfl ?_
  intro L1 hL1 hlL1
  have hgL1 : L1.getD k default = (⟨(L.getD k default).name, 0, (L.getD k default).fence, (L.getD k default).line⟩ : CLock) := by rw [hL1]; exact getD_set (by omega)
  have hbL1 : L1 = List.set L k (⟨(L.getD k default).name, 0, (L.getD k default).fence, (L.getD k default).line⟩ : CLock) := by rw [hL1]
  refine l_nil (q_then_normal ?_)
  refine c_seq ?_
  refine c_seq ?_
  refine c_region ?_
  refine JL_run 7 [(3, .ext [.slice (L.getD k default).line.A (L.getD k default).line.n (L.getD k default).line.c])] [11, 0] 0 ⟨[(11, vB (decide ((0 : Int) < (((L.getD k default).line.n : Nat) : Int)))), (0, .v (.pointer (some ((oad A).add (k * 4)))))], []⟩ [] [(((oad A).add (k * 4)).add 3, [.slice (L.getD k default).line.A (L.getD k default).line.n (L.getD k default).line.c])] (by kernel_rfl) on (fun w hk hr => ⟨(rowA_fld (i := k) (hr _ (.head _)) (by omega) 3 1 (by rw [hgL1]; rfl)), trivial⟩) ?_
  cases h1 : decide ((0 : Int) < (((L.getD k default).line.n : Nat) : Int)) with
  | true =>
    have h1 := of_decide_eq_true h1
    refine JL_run 6 [(3, .ext [.int .i64 (L.getD k default).fence])] [17, 0] 0 ⟨[(17, vB (decide ((L.getD k default).fence < 1073741824))), (0, .v (.pointer (some ((oad A).add (k * 4)))))], []⟩ [] [(((oad A).add (k * 4)).add 2, [.int .i64 (L.getD k default).fence])] (by kernel_rfl) on (fun w hk hr => ⟨(rowA_fld (i := k) (hr _ (.head _)) (by omega) 2 1 (by rw [hgL1]; rfl)), trivial⟩) ?_
    refine l_nil (q_then_normal ?_)
    cases h2 : decide ((L.getD k default).fence < 1073741824) with
    | true =>
      have h2 := of_decide_eq_true h2
      refine c_if true rfl ?_
      refine c_seq ?_
      refine c_draw 27 [21] (.p 0 (.p 1 (.p 2 (.p 3 (.p 4 (.p 5 (.q 6 (.p 7 (.q 8 (.p 9 (.p 10 (.p 11 (.q 12 (.p 13 (.p 14 (.p 15 (.p 16 (.q 17 (.p 18 (.p 19 (.p 20 (.x 21 (.p 22 (.p 23 (.b 24 (.p 25 (.p 26 .nil)) .z))))))))))))))))))))))))) [] [rowA 80 A c (L1 : List CLock)] Try_mixed (by kernel_rfl) (pq_then (pq_then pq_body)) (List.Sublist.refl _) ?_
      refine h_quiet [(6, .ext [.slice (L.getD k default).line.A (L.getD k default).line.n (L.getD k default).line.c]), (7, .idx (L.getD k default).line.ad 0), (8, .ext [.int .i64 ((L.getD k default).line.at 0)]), (12, .ext [.int .i64 (L.getD k default).fence]), (17, .ext [.slice (L.getD k default).line.A (L.getD k default).line.n (L.getD k default).line.c]), (18, .sl 1 (L.getD k default).line.n)] [(0, true), (1, true), (2, true), (3, true), (4, true), (5, true), (6, false), (7, true), (8, false), (9, true), (10, true), (11, true), (12, false), (13, true), (14, true), (15, true), (16, true), (17, false), (18, true), (19, true), (20, true)] [(38, .v (.pointer (some (((oad A).add (k * 4)).add 1)))), (37, .v (.pointer (some ((oad A).add (k * 4))))), (36, .v (.slice (if (L.getD k default).line.c = 1 then (L.getD k default).line.A else (L.getD k default).line.A.map (·.add (1 * 1))) ((L.getD k default).line.n - 1) ((L.getD k default).line.c - 1))), (35, .v (.slice (L.getD k default).line.A (L.getD k default).line.n (L.getD k default).line.c)), (34, .v (.pointer (some (((oad A).add (k * 4)).add 3)))), (33, .v (.pointer (some ((oad A).add (k * 4))))), (32, .v (.pointer (some ((oad A).add (k * 4))))), (31, vI ((L.getD k default).fence + 1)), (30, vI (L.getD k default).fence), (29, .v (.pointer (some (((oad A).add (k * 4)).add 2)))), (28, .v (.pointer (some ((oad A).add (k * 4))))), (27, .v (.pointer (some ((oad A).add (k * 4))))), (26, vI ((L.getD k default).line.at 0)), (25, .v (.pointer (some ((L.getD k default).line.ad.add (0 * 1))))), (24, .v (.slice (L.getD k default).line.A (L.getD k default).line.n (L.getD k default).line.c)), (23, .v (.pointer (some (((oad A).add (k * 4)).add 3)))), (22, .v (.pointer (some ((oad A).add (k * 4))))), (21, .v (.pointer (some ((oad A).add (k * 4))))), (20, .v (.pointer (some ((oad A).add (k * 4))))), (19, .v (.pointer (some ((oad A).add (k * 4))))), (18, .v (.pointer (some ((oad A).add (k * 4))))), (17, vB true), (0, .v (.pointer (some ((oad A).add (k * 4)))))] [(L.getD k default).line.A = some (L.getD k default).line.ad, (0 : Int) = ((0 : Nat) : Int), 0 < (L.getD k default).line.n, inR ((L.getD k default).fence + 1), (1 : Int) = ((1 : Nat) : Int), (L.getD k default).line.n = (L.getD k default).line.n, 1 ≤ (L.getD k default).line.n] [(((oad A).add (k * 4)).add 3, [.slice (L.getD k default).line.A (L.getD k default).line.n (L.getD k default).line.c]), ((L.getD k default).line.ad.add (0 * 1), [.int .i64 ((L.getD k default).line.at 0)]), (((oad A).add (k * 4)).add 2, [.int .i64 (L.getD k default).fence]), (((oad A).add (k * 4)).add 3, [.slice (L.getD k default).line.A (L.getD k default).line.n (L.getD k default).line.c])] rfl (by kernel_rfl) (oc (Sl.ok.own (s := (L.getD k default).line) (i := 0) (And.right okx) (by omega)) (oc rfl (oc (by omega) (oc (by unfold inR; omega) (oc rfl (oc rfl (oc (by omega) on))))))) (fun w hk hr => ⟨(rowA_fld (i := k) (hr _ (.head _)) (by omega) 3 1 (by rw [hgL1]; rfl)), ⟨(Sl.rd.all (s := (L.getD k default).line) (i := 0) (And.right (hst _ hk)) (by omega) rfl), ⟨(rowA_fld (i := k) (hr _ (.head _)) (by omega) 2 1 (by rw [hgL1]; rfl)), ⟨(rowA_fld (i := k) (hr _ (.head _)) (by omega) 3 1 (by rw [hgL1]; rfl)), trivial⟩⟩⟩⟩) ?_
      refine h_storeX [] [] (α := CLock) 80 A c L1 k 1 (((oad A).add (k * 4)).add 1) (vI ((L.getD k default).line.at 0)) [vI ((L.getD k default).line.at 0)] [.int .i64 ((L.getD k default).line.at 0)] (⟨(L.getD k default).name, ((L.getD k default).line.at 0), (L.getD k default).fence, (L.getD k default).line⟩ : CLock) rfl rfl rfl rfl rfl rfl (by kernel_rfl) (by kernel_rfl) rfl (by omega) (by kernel_rfl) (by rw [hgL1]; rfl) rfl rfl (fun bs0 bs w hp hl hS => hS.down hp hl rfl le_nil (.cons _ .slnil)) ?_
      intro L2 hL2 hlL2
      have hgL2 : L2.getD k default = (⟨(L.getD k default).name, ((L.getD k default).line.at 0), (L.getD k default).fence, (L.getD k default).line⟩ : CLock) := by rw [hL2]; exact getD_set (by omega)
      have hbL2 : L2 = List.set L k (⟨(L.getD k default).name, ((L.getD k default).line.at 0), (L.getD k default).fence, (L.getD k default).line⟩ : CLock) := by rw [hL2, hbL1, List.set_set]
      refine h_quiet [] [(22, true), (23, true)] [(40, .v (.pointer (some (((oad A).add (k * 4)).add 2)))), (39, .v (.pointer (some ((oad A).add (k * 4))))), (38, .v (.pointer (some (((oad A).add (k * 4)).add 1)))), (37, .v (.pointer (some ((oad A).add (k * 4))))), (36, .v (.slice (if (L.getD k default).line.c = 1 then (L.getD k default).line.A else (L.getD k default).line.A.map (·.add (1 * 1))) ((L.getD k default).line.n - 1) ((L.getD k default).line.c - 1))), (35, .v (.slice (L.getD k default).line.A (L.getD k default).line.n (L.getD k default).line.c)), (34, .v (.pointer (some (((oad A).add (k * 4)).add 3)))), (33, .v (.pointer (some ((oad A).add (k * 4))))), (32, .v (.pointer (some ((oad A).add (k * 4))))), (31, vI ((L.getD k default).fence + 1)), (30, vI (L.getD k default).fence), (29, .v (.pointer (some (((oad A).add (k * 4)).add 2)))), (28, .v (.pointer (some ((oad A).add (k * 4))))), (27, .v (.pointer (some ((oad A).add (k * 4))))), (26, vI ((L.getD k default).line.at 0)), (25, .v (.pointer (some ((L.getD k default).line.ad.add (0 * 1))))), (24, .v (.slice (L.getD k default).line.A (L.getD k default).line.n (L.getD k default).line.c)), (23, .v (.pointer (some (((oad A).add (k * 4)).add 3)))), (22, .v (.pointer (some ((oad A).add (k * 4))))), (21, .v (.pointer (some ((oad A).add (k * 4))))), (20, .v (.pointer (some ((oad A).add (k * 4))))), (19, .v (.pointer (some ((oad A).add (k * 4))))), (18, .v (.pointer (some ((oad A).add (k * 4))))), (17, vB true), (0, .v (.pointer (some ((oad A).add (k * 4)))))] [] [] rfl (by kernel_rfl) on wn ?_
      refine h_storeA (α := CLock) 80 A c L2 k 2 (((oad A).add (k * 4)).add 2) (vI ((L.getD k default).fence + 1)) [vI ((L.getD k default).fence + 1)] [.int .i64 ((L.getD k default).fence + 1)] (⟨(L.getD k default).name, ((L.getD k default).line.at 0), (L.getD k default).fence + 1, (L.getD k default).line⟩ : CLock) rfl rfl rfl rfl rfl rfl (by kernel_rfl) (by kernel_rfl) rfl (by omega) (by kernel_rfl) (by rw [hgL2]; rfl) rfl rfl (fun bs0 bs w hp hl hS => hS.down hp hl rfl le_nil (.cons _ .slnil)) ?_
      intro L3 hL3 hlL3
      have hgL3 : L3.getD k default = (⟨(L.getD k default).name, ((L.getD k default).line.at 0), (L.getD k default).fence + 1, (L.getD k default).line⟩ : CLock) := by rw [hL3]; exact getD_set (by omega)
      have hbL3 : L3 = List.set L k (⟨(L.getD k default).name, ((L.getD k default).line.at 0), (L.getD k default).fence + 1, (L.getD k default).line⟩ : CLock) := by rw [hL3, hbL2, List.set_set]
      refine h_quiet [] [(25, true), (26, true)] [(42, .v (.pointer (some (((oad A).add (k * 4)).add 3)))), (41, .v (.pointer (some ((oad A).add (k * 4))))), (40, .v (.pointer (some (((oad A).add (k * 4)).add 2)))), (39, .v (.pointer (some ((oad A).add (k * 4))))), (38, .v (.pointer (some (((oad A).add (k * 4)).add 1)))), (37, .v (.pointer (some ((oad A).add (k * 4))))), (36, .v (.slice (if (L.getD k default).line.c = 1 then (L.getD k default).line.A else (L.getD k default).line.A.map (·.add (1 * 1))) ((L.getD k default).line.n - 1) ((L.getD k default).line.c - 1))), (35, .v (.slice (L.getD k default).line.A (L.getD k default).line.n (L.getD k default).line.c)), (34, .v (.pointer (some (((oad A).add (k * 4)).add 3)))), (33, .v (.pointer (some ((oad A).add (k * 4))))), (32, .v (.pointer (some ((oad A).add (k * 4))))), (31, vI ((L.getD k default).fence + 1)), (30, vI (L.getD k default).fence), (29, .v (.pointer (some (((oad A).add (k * 4)).add 2)))), (28, .v (.pointer (some ((oad A).add (k * 4))))), (27, .v (.pointer (some ((oad A).add (k * 4))))), (26, vI ((L.getD k default).line.at 0)), (25, .v (.pointer (some ((L.getD k default).line.ad.add (0 * 1))))), (24, .v (.slice (L.getD k default).line.A (L.getD k default).line.n (L.getD k default).line.c)), (23, .v (.pointer (some (((oad A).add (k * 4)).add 3)))), (22, .v (.pointer (some ((oad A).add (k * 4))))), (21, .v (.pointer (some ((oad A).add (k * 4))))), (20, .v (.pointer (some ((oad A).add (k * 4))))), (19, .v (.pointer (some ((oad A).add (k * 4))))), (18, .v (.pointer (some ((oad A).add (k * 4))))), (17, vB true), (0, .v (.pointer (some ((oad A).add (k * 4)))))] [] [] rfl (by kernel_rfl) on wn ?_
      refine h_nil ?_
      refine l_storeA (α := CLock) 80 A c L3 k 3 (((oad A).add (k * 4)).add 3) (.v (.slice (if (L.getD k default).line.c = 1 then (L.getD k default).line.A else (L.getD k default).line.A.map (·.add (1 * 1))) ((L.getD k default).line.n - 1) ((L.getD k default).line.c - 1))) [.v (.slice (if (L.getD k default).line.c = 1 then (L.getD k default).line.A else (L.getD k default).line.A.map (·.add (1 * 1))) ((L.getD k default).line.n - 1) ((L.getD k default).line.c - 1))] [.slice (if (L.getD k default).line.c = 1 then (L.getD k default).line.A else (L.getD k default).line.A.map (·.add (1 * 1))) ((L.getD k default).line.n - 1) ((L.getD k default).line.c - 1)] (⟨(L.getD k default).name, ((L.getD k default).line.at 0), (L.getD k default).fence + 1, ⟨offA (L.getD k default).line.A (L.getD k default).line.c 1 1, (L.getD k default).line.c - 1, (L.getD k default).line.xs.drop 1⟩⟩ : CLock) rfl rfl rfl rfl rfl (by kernel_rfl) (by kernel_rfl) rfl (by omega) (by kernel_rfl) (by rw [hgL3]; exact congrArg (fun q => [Value.string (L.getD k default).name, .int .i64 ((L.getD k default).line.at 0), .int .i64 ((L.getD k default).fence + 1), .slice (offA (L.getD k default).line.A (L.getD k default).line.c 1 1) q ((L.getD k default).line.c - 1)]) (List.length_drop ..).symm) rfl rfl ?_
      intro L4 hL4 hlL4
      have hgL4 : L4.getD k default = (⟨(L.getD k default).name, ((L.getD k default).line.at 0), (L.getD k default).fence + 1, ⟨offA (L.getD k default).line.A (L.getD k default).line.c 1 1, (L.getD k default).line.c - 1, (L.getD k default).line.xs.drop 1⟩⟩ : CLock) := by rw [hL4]; exact getD_set (by omega)
      have hbL4 : L4 = List.set L k (⟨(L.getD k default).name, ((L.getD k default).line.at 0), (L.getD k default).fence + 1, ⟨offA (L.getD k default).line.A (L.getD k default).line.c 1 1, (L.getD k default).line.c - 1, (L.getD k default).line.xs.drop 1⟩⟩ : CLock) := by rw [hL4, hbL3, List.set_set]
      refine l_nil (q_then_normal ?_)
      refine c_ret ?_
      refine q_then_ret (q_ret (.inl rfl) [] rfl (fun bs w hS => ?_))
      have hp : passC (L.getD k default) = (⟨(L.getD k default).name, ((L.getD k default).line.at 0), (L.getD k default).fence + 1, ⟨offA (L.getD k default).line.A (L.getD k default).line.c 1 1, (L.getD k default).line.c - 1, (L.getD k default).line.xs.drop 1⟩⟩ : CLock) := by unfold passC; rw [if_pos ⟨by show 0 < (L.getD k default).line.xs.length; omega, by omega⟩]
      have hL : L4 = L.set k (passC (L.getD k default)) := by rw [hp]; exact hbL4
      subst hL
      exact ⟨(), rfl, trivial, hS.turned⟩
    | false =>
      have h2 := of_decide_eq_false h2
      refine c_if false rfl ?_
      refine c_skip ?_
      refine q_then_normal ?_
      refine c_region ?_
      refine JL_run 3 [] [45] 0 ⟨[(45, .v (.pointer (some (((oad A).add (k * 4)).add 3))))], []⟩ [] [] (by kernel_rfl) on wn ?_
      refine l_storeA (α := CLock) 80 A c L1 k 3 (((oad A).add (k * 4)).add 3) (.v (.slice none 0 0)) [.v (.slice none 0 0)] [.slice none 0 0] (⟨(L.getD k default).name, 0, (L.getD k default).fence, Sl.nil⟩ : CLock) rfl rfl rfl rfl rfl (by kernel_rfl) (by kernel_rfl) rfl (by omega) (by kernel_rfl) (by rw [hgL1]; rfl) rfl rfl ?_
      intro L5 hL5 hlL5
      have hgL5 : L5.getD k default = (⟨(L.getD k default).name, 0, (L.getD k default).fence, Sl.nil⟩ : CLock) := by rw [hL5]; exact getD_set (by omega)
      have hbL5 : L5 = List.set L k (⟨(L.getD k default).name, 0, (L.getD k default).fence, Sl.nil⟩ : CLock) := by rw [hL5, hbL1, List.set_set]
      refine l_nil (q_ret (.inr rfl) [] rfl (fun bs w hS => ?_))
      have hp : passC (L.getD k default) = (⟨(L.getD k default).name, 0, (L.getD k default).fence, Sl.nil⟩ : CLock) := by unfold passC; rw [if_neg (by rintro ⟨h8, h9⟩; omega)]
      have hL : L5 = L.set k (passC (L.getD k default)) := by rw [hp]; exact hbL5
      subst hL
      exact ⟨(), rfl, trivial, hS.turned⟩
  | false =>
    have h1 := of_decide_eq_false h1
    refine JL_run 6 [] [17, 0] 0 ⟨[(17, vB false), (0, .v (.pointer (some ((oad A).add (k * 4)))))], []⟩ [] [] (by kernel_rfl) on wn ?_
    refine l_nil (q_then_normal ?_)
    refine c_if false rfl ?_
    refine c_skip ?_
    refine q_then_normal ?_
    refine c_region ?_
    refine JL_run 3 [] [45] 0 ⟨[(45, .v (.pointer (some (((oad A).add (k * 4)).add 3))))], []⟩ [] [] (by kernel_rfl) on wn ?_
    refine l_storeA (α := CLock) 80 A c L1 k 3 (((oad A).add (k * 4)).add 3) (.v (.slice none 0 0)) [.v (.slice none 0 0)] [.slice none 0 0] (⟨(L.getD k default).name, 0, (L.getD k default).fence, Sl.nil⟩ : CLock) rfl rfl rfl rfl rfl (by kernel_rfl) (by kernel_rfl) rfl (by omega) (by kernel_rfl) (by rw [hgL1]; rfl) rfl rfl ?_
    intro L6 hL6 hlL6
    have hgL6 : L6.getD k default = (⟨(L.getD k default).name, 0, (L.getD k default).fence, Sl.nil⟩ : CLock) := by rw [hL6]; exact getD_set (by omega)
    have hbL6 : L6 = List.set L k (⟨(L.getD k default).name, 0, (L.getD k default).fence, Sl.nil⟩ : CLock) := by rw [hL6, hbL1, List.set_set]
    refine l_nil (q_ret (.inr rfl) [] rfl (fun bs w hS => ?_))
    have hp : passC (L.getD k default) = (⟨(L.getD k default).name, 0, (L.getD k default).fence, Sl.nil⟩ : CLock) := by unfold passC; rw [if_neg (by rintro ⟨h8, h9⟩; omega)]
    have hL : L6 = L.set k (passC (L.getD k default)) := by rw [hp]; exact hbL6
    subst hL
    exact ⟨(), rfl, trivial, hS.turned⟩

theorem delR_Int (A : Option Addr) (c : Nat) (L : List Int) (i j : Nat) (ii jj : Int) (w : World) (hrow : (rowA 3 A c L).p w) (hlt : ∀ b, b ∈ (rowA 3 A c L).fp → b < w.heap.size) (ei : ii = (i : Int)) (ej : jj = (j : Int)) (hij : i ≤ j) (hj : j ≤ L.length) :
    Calls Try.prog 53 #[.slice A L.length c, .int .i64 ii, .int .i64 jj] w fun e w' => e = .returned (.slice A (L.take i ++ L.drop j).length c) ∧ Turned (rowA 3 A c L) w w' (rowA 3 A c (L.take i ++ L.drop j)) := by
  subst ei ej
  have hrok := rowA_rok hrow
  have nc := hrok.2
  refine calls_J 33 (rowA 3 A c L).fp Try.func53 rfl rfl [] [] [rowA 3 A c L] [.v (.slice A L.length c), vI ((i : Nat) : Int), vI ((j : Nat) : Int)] [.slice A L.length c, .int .i64 ((i : Nat) : Int), .int .i64 ((j : Nat) : Int)] rfl rfl (WS.start1 w _ hrow (by cases A <;> simp [rowA, rowR]) hlt) ?_
  refine c_seq ?_
  refine c_region ?_
  refine JL_run 1 [] [0, 1, 2] 0 ⟨[(0, .v (.slice A L.length c)), (1, vI ((i : Nat) : Int)), (2, vI ((j : Nat) : Int))], []⟩ [] [] (by kernel_rfl) on wn ?_
  refine l_nil (q_then_normal ?_)
  refine c_seq ?_
  refine c_region ?_
  refine JL_run 5 [] [12, 10, 9, 8, 0, 1, 2] 0 ⟨[(12, vI ((L.length : Nat) : Int)), (10, vI ((j : Nat) : Int)), (9, vI ((i : Nat) : Int)), (8, .v (.slice A L.length c)), (0, .v (.slice A L.length c)), (1, vI ((i : Nat) : Int)), (2, vI ((j : Nat) : Int))], []⟩ [] [] (by kernel_rfl) on wn ?_
  refine l_slice3 3 A L.length c i j L.length ((i : Nat) : Int) ((j : Nat) : Int) ((L.length : Nat) : Int) Try.underlying78 (by kernel_rfl) rfl rfl rfl rfl rfl rfl rfl rfl rfl (by omega) (by omega) (by omega) ?_
  refine l_nil (q_then_normal ?_)
  refine c_seq ?_
  refine c_seq ?_
  refine c_region ?_
  refine JL_run 3 [] [16, 0, 1, 2] 0 ⟨[(16, vB (decide (((i : Nat) : Int) = ((j : Nat) : Int)))), (0, .v (.slice A L.length c)), (1, vI ((i : Nat) : Int)), (2, vI ((j : Nat) : Int))], []⟩ [] [] (by kernel_rfl) on wn ?_
  refine l_nil (q_then_normal ?_)
  cases h1 : decide (((i : Nat) : Int) = ((j : Nat) : Int)) with
  | true =>
    have h1 := of_decide_eq_true h1
    refine c_if true rfl ?_
    refine c_seq ?_
    refine c_region ?_
    refine JL_run 2 [] [6] 0 ⟨[(6, .v (.slice A L.length c))], []⟩ [] [] (by kernel_rfl) on wn ?_
    refine l_nil (q_then_normal ?_)
    refine c_ret ?_
    refine q_then_ret (q_ret (.inl rfl) [.v (.slice A L.length c)] rfl (fun bs w hS => ?_))
    have hij2 : i = j := by omega
    subst hij2
    rw [List.take_append_drop]
    exact ⟨rfl, hS.turned⟩
  | false =>
    have h1 := of_decide_eq_false h1
    refine c_if false rfl ?_
    refine c_skip ?_
    refine q_then_normal ?_
    refine c_seq ?_
    refine c_region ?_
    refine JL_run 3 [] [7, 0, 1, 2] 0 ⟨[(7, vI ((L.length : Nat) : Int)), (0, .v (.slice A L.length c)), (1, vI ((i : Nat) : Int)), (2, vI ((j : Nat) : Int))], []⟩ [] [] (by kernel_rfl) on wn ?_
    refine l_nil (q_then_normal ?_)
    refine c_seq ?_
    refine c_draw 6 [] (.p 0 (.p 1 (.p 2 (.p 3 (.p 4 (.p 5 .nil)))))) [] [rowA 3 A c (L : List Int)] Try_mixed (by kernel_rfl) (pq_then pq_body) (List.Sublist.refl _) ?_
    refine h_quiet [(2, .sl 0 i), (5, .sl j L.length)] [(0, true), (1, true), (2, true), (3, true), (4, true), (5, true)] [(25, .v (.slice (if c = j then A else A.map (·.add (j * 1))) (L.length - j) (c - j))), (24, vI ((j : Nat) : Int)), (23, .v (.slice A L.length c)), (22, .v (.slice A i c)), (21, vI ((i : Nat) : Int)), (20, .v (.slice A L.length c)), (7, vI ((L.length : Nat) : Int)), (0, .v (.slice A L.length c)), (1, vI ((i : Nat) : Int)), (2, vI ((j : Nat) : Int))] [0 = 0, ((i : Nat) : Int) = ((i : Nat) : Int), i ≤ c, ((j : Nat) : Int) = ((j : Nat) : Int), L.length = L.length, j ≤ L.length] [] rfl (by kernel_rfl) (oc rfl (oc rfl (oc (by omega) (oc rfl (oc rfl (oc (by omega) on)))))) wn ?_
    refine h_nil ?_
    refine l_appdel (α := Int) 3 8 A c L i j (.v (.slice (if c = j then A else A.map (·.add (j * 1))) (L.length - j) (c - j))) Try.underlying78 (by kernel_rfl) rfl rfl rfl rfl rfl hij hj ?_
    refine JL_run 1 [] [0, 7] 0 ⟨[(0, .v (.slice A (i + (L.length - j)) c)), (7, vI ((L.length : Nat) : Int))], []⟩ [] [] (by kernel_rfl) on wn ?_
    refine l_nil (q_then_normal ?_)
    refine c_seq ?_
    refine c_region ?_
    refine JL_run 5 [(4, .sl (i + (L.length - j)) L.length)] [31, 0] 0 ⟨[(31, .v (.slice (if c = (i + (L.length - j)) then A else A.map (·.add ((i + (L.length - j)) * 1))) (L.length - (i + (L.length - j))) (c - (i + (L.length - j))))), (0, .v (.slice A (i + (L.length - j)) c))], []⟩ [((i + (L.length - j) : Nat) : Int) = (((i + (L.length - j)) : Nat) : Int), ((L.length : Nat) : Int) = ((L.length : Nat) : Int), (i + (L.length - j)) ≤ L.length, L.length ≤ c] [] (by kernel_rfl) (oc rfl (oc rfl (oc (by omega) (oc (by omega) on)))) wn ?_
    refine l_clear (α := Int) 3 A c (L.take i ++ L.drop j) (i + (L.length - j)) (L.length - (i + (L.length - j))) (.v (.slice (if c = (i + (L.length - j)) then A else A.map (·.add ((i + (L.length - j)) * 1))) (L.length - (i + (L.length - j))) (c - (i + (L.length - j))))) Try.underlying78 (by kernel_rfl) rfl rfl rfl rfl (by simp only [List.length_append, List.length_take, List.length_drop]; omega) (by omega) ?_
    refine l_nil (q_then_normal ?_)
    refine c_seq ?_
    refine c_region ?_
    refine JL_run 2 [] [6] 0 ⟨[(6, .v (.slice A (i + (L.length - j)) c))], []⟩ [] [] (by kernel_rfl) on wn ?_
    refine l_nil (q_then_normal ?_)
    refine c_ret ?_
    refine q_ret (.inl rfl) [.v (.slice A (i + (L.length - j)) c)] rfl (fun bs w hS => ?_)
    have hlen : (L.take i ++ L.drop j).length = i + (L.length - j) := by simp only [List.length_append, List.length_take, List.length_drop]; omega
    have hS2 := hS
    rw [← hlen, List.take_length] at hS2
    refine ⟨?_, hS2.turned⟩
    rw [hlen]
    rfl

theorem lock_Free {B : Nat → Prop} (s : Sl CLock) (t : ByteArray) (who : Int) (w : World) (hs : s.rd B w) (ht : t.size ≤ 9223372036854775807) : Calls Try.prog 16 #[.slice s.A s.n s.c, .string t, .int .i64 who] w fun e w' => ∃ y : Sl CLock, e = .returned (.tuple #[.slice y.A y.n y.c, .agg #[.int .i64 ((mFree (s.xs.map CLock.abs) t who).2.1).code, .int .i64 ((mFree (s.xs.map CLock.abs) t who).2.1).n, .string ((mFree (s.xs.map CLock.abs) t who).2.1).text], .int .i64 ((mFree (s.xs.map CLock.abs) t who).2.2)]) ∧ y.xs.map CLock.abs = (mFree (s.xs.map CLock.abs) t who).1 ∧ FreshS w w' y := by
  have oks := Sl.rd.ok hs
  have ncs := Sl.ok.nc oks
  have hns : s.n = s.xs.length := rfl
  refine calls_J0 75 Try.func16 rfl rfl [.slice s.A s.n s.c, .string t, .int .i64 who] rfl ?_
  refine c_seq ?_
  refine c_region ?_
  refine JL_run 3 [] [7, 0, 1, 2] 1 ⟨[(7, .p 0 0), (0, .v (.slice s.A s.n s.c)), (1, vS t), (2, vI who)], [⟨26, [vI 0, vI 0, vS emp]⟩]⟩ [] [] (by kernel_rfl) on wn ?_
  refine l_nil (q_then_normal ?_)
  refine c_seq ?_
  refine c_region ?_
  refine JL_run 3 [] [17, 16, 15, 7, 2] 1 ⟨[(17, vI who), (16, vS t), (15, .v (.slice s.A s.n s.c)), (7, .p 0 0), (2, vI who)], [⟨26, [vI 0, vI 0, vS emp]⟩]⟩ [] [] (by kernel_rfl) on wn ?_
  cases h1 : decide (mAsk (s.xs.map CLock.abs) t who = 0) with
  | true =>
    have h1 := of_decide_eq_true h1
    refine l_freshF (σ := Sl CLock) 50 [] [.v (.slice s.A s.n s.c), vS t, vI who] (fun y1 => .tuple #[.slice y1.A y1.n y1.c, .int .i64 ((mBS (fun x : CLock => cmpS x.name t) s.xs : Nat) : Int), .bool (mBSf (fun x : CLock => cmpS x.name t) s.xs), .int .i64 0]) (fun y1 => y1.xs.map CLock.abs = s.xs.map CLock.abs) (fun y1 => locksR 80 3 y1) Try.call50 rfl rfl rfl rfl (fun bs w hS => (lock_begin s t who w (Sl.rd.kp hs hS.kp) (by first | assumption | omega | (simp only [emp_size]; omega))).mono (fun e w' h => (h.resolve_left (fun h9 => h9.1 h1)).2)) ?_
    rintro y1 hF1
    refine l_split2 ?_
    obtain ⟨A1, c1, S1⟩ := y1
    have hF1 : S1.map CLock.abs = s.xs.map CLock.abs := hF1
    refine l_perm (R' := [ownL (lineR 3) S1, rowA 80 A1 c1 (S1 : List CLock)]) (List.Perm.refl _) ?_
    have hnm1 := locks_names (y := (⟨A1, c1, S1⟩ : Sl CLock)) hs hF1
    have hlen1 : S1.length = s.xs.length := by simpa using congrArg List.length hF1
    refine l_know (F := ∀ i, i < S1.length → Rds.ok (S1.getD i default)) (fun bs w hS i hi => Rds.okof (B := anyB) (w := w) (own_eltL (hS.res _ (.head _)) hnm1 (mem_of_getD hi))) fun okown1 => ?_
    refine l_know (F := RowOk A1 c1 (S1 : List CLock)) (fun bs w hS => rowA_rok (hS.res _ (.tail _ (.head _)))) fun hrow1 => ?_
    have nchrow1 := hrow1.2
    have hask := mAsk_ok h1
    have hm1 : mLocks (S1.map CLock.abs) = 0 := by rw [hF1]; exact hask.1
    have hw1 := hask.2.2.1
    have hw2 := hask.2.2.2
    have hln5 : S1.length ≤ 5 := by have h9 := (mLocks_bd hm1).1; simpa using h9
    have hbsS : mBS (fun x : CLock => cmpS x.name t) s.xs = mBS (fun x : CLock => cmpS x.name t) S1 := mBS_abs (L := s.xs) (L2 := S1) (f := CLock.abs) (c := fun x : DLock => cmpS x.name t) rfl hF1.symm
    have hbfS : mBSf (fun x : CLock => cmpS x.name t) s.xs = mBSf (fun x : CLock => cmpS x.name t) S1 := mBSf_abs (L := s.xs) (L2 := S1) (f := CLock.abs) (c := fun x : DLock => cmpS x.name t) rfl hF1.symm
    rw [hbsS, hbfS]
    have hbs := bsf_lock (L := S1) hm1 t
    have hJb := mIdx_bd (fun x : DLock => decide (x.name = t)) (S1.map CLock.abs)
    rw [List.length_map] at hJb
    generalize hJ : mIdx (fun x : DLock => decide (x.name = t)) (S1.map CLock.abs) = J at hbs hJb
    have hkl := mBS_le (fun x : CLock => cmpS x.name t) S1
    generalize hk : mBS (fun x : CLock => cmpS x.name t) S1 = k at hbs hkl ⊢
    generalize hf : mBSf (fun x : CLock => cmpS x.name t) S1 = fb at hbs ⊢
    refine JL_run 9 [] [11, 10, 9, 0, 7, 2] 1 ⟨[(11, vI 0), (10, vB fb), (9, vI ((k : Nat) : Int)), (0, .v (.slice A1 S1.length c1)), (7, .p 0 0), (2, vI who)], [⟨26, [vI 0, vI 0, vS emp]⟩]⟩ [] [] (by kernel_rfl) on wn ?_
    refine l_nil (q_then_normal ?_)
    refine c_seq ?_
    refine c_seq ?_
    refine c_region ?_
    refine JL_run 2 [] [24, 11, 10, 9, 0, 7, 2] 1 ⟨[(24, vB false), (11, vI 0), (10, vB fb), (9, vI ((k : Nat) : Int)), (0, .v (.slice A1 S1.length c1)), (7, .p 0 0), (2, vI who)], [⟨26, [vI 0, vI 0, vS emp]⟩]⟩ [] [] (by kernel_rfl) on wn ?_
    refine l_nil (q_then_normal ?_)
    refine c_if false rfl ?_
    refine c_skip ?_
    refine q_then_normal ?_
    refine c_seq ?_
    refine c_seq ?_
    refine c_region ?_
    refine JL_run 2 [] [28, 9, 0, 7, 2] 1 ⟨[(28, vB (!fb)), (9, vI ((k : Nat) : Int)), (0, .v (.slice A1 S1.length c1)), (7, .p 0 0), (2, vI who)], [⟨26, [vI 0, vI 0, vS emp]⟩]⟩ [] [] (by kernel_rfl) on wn ?_
    refine l_nil (q_then_normal ?_)
    cases h2 : fb with
    | true =>
      have hkJ := hbs.2 h2
      subst hkJ
      have hk5 := lock_all hm1 (k := k) (by omega)
      obtain ⟨hk51, hk52, hk53, hk54, hk55, hk56⟩ := hk5
      have hk7 : (S1.getD k default).line.n = (S1.getD k default).line.xs.length := rfl
      refine c_if false rfl ?_
      refine c_skip ?_
      refine q_then_normal ?_
      refine c_seq ?_
      refine c_region ?_
      refine JL_run 4 [(2, .idx (oad A1) k)] [12, 0, 7, 2] 1 ⟨[(12, .v (.pointer (some ((oad A1).add (k * 4))))), (0, .v (.slice A1 S1.length c1)), (7, .p 0 0), (2, vI who)], [⟨26, [vI 0, vI 0, vS emp]⟩]⟩ [A1 = some (oad A1), ((k : Nat) : Int) = ((k : Nat) : Int), k < S1.length] [] (by kernel_rfl) (oc (hrow1.1 k (by omega)) (oc rfl (oc (by omega) on))) wn ?_
      refine l_nil (q_then_normal ?_)
      refine c_seq ?_
      refine c_region ?_
      refine JL_run 5 [(3, .ext [.slice (S1.getD k default).line.A (S1.getD k default).line.n (S1.getD k default).line.c])] [38, 37, 12, 0, 7, 2] 1 ⟨[(38, vI who), (37, .v (.slice (S1.getD k default).line.A (S1.getD k default).line.n (S1.getD k default).line.c)), (12, .v (.pointer (some ((oad A1).add (k * 4))))), (0, .v (.slice A1 S1.length c1)), (7, .p 0 0), (2, vI who)], [⟨26, [vI 0, vI 0, vS emp]⟩]⟩ [] [(((oad A1).add (k * 4)).add 3, [.slice (S1.getD k default).line.A (S1.getD k default).line.n (S1.getD k default).line.c])] (by kernel_rfl) on (fun w hk hr => ⟨(rowA_fld (i := k) (hr _ (.tail _ (.head _))) (by omega) 3 1 rfl), trivial⟩) ?_
      refine l_pure 51 [] [.v (.slice (S1.getD k default).line.A (S1.getD k default).line.n (S1.getD k default).line.c), vI who] (.int .i64 (mIdx (fun z => decide (z = who)) ((S1.getD k default).line.xs.take (S1.getD k default).line.n))) Try.call51 rfl rfl rfl rfl (fun bs w hS => idx_ints (S1.getD k default).line (S1.getD k default).line.n who w (And.right (own_eltL (hS.res _ (.head _)) hnm1 (mem_of_getD (i := k) (by omega)))) (by omega)) ?_
      have hix : mIdx (fun z => decide (z = who)) ((S1.getD k default).line.xs.take (S1.getD k default).line.n) = mIdx (fun z => decide (z = who)) (S1.getD k default).line.xs := by rw [take_all (Nat.le_refl _)]
      rw [hix]
      have hIb := mIdx_bd (fun z => decide (z = who)) (S1.getD k default).line.xs
      generalize hI : mIdx (fun z => decide (z = who)) (S1.getD k default).line.xs = I at hIb ⊢
      refine JL_run 1 [] [13, 12, 0, 7, 2] 1 ⟨[(13, vI I), (12, .v (.pointer (some ((oad A1).add (k * 4))))), (0, .v (.slice A1 S1.length c1)), (7, .p 0 0), (2, vI who)], [⟨26, [vI 0, vI 0, vS emp]⟩]⟩ [] [] (by kernel_rfl) on wn ?_
      refine l_nil (q_then_normal ?_)
      refine c_seq ?_
      refine c_block ?_
      refine c_seq ?_
      refine c_region ?_
      refine JL_run 7 [(3, .ext [.int .i64 (S1.getD k default).holder])] [46, 13, 12, 0, 7] 1 ⟨[(46, vB (decide ((S1.getD k default).holder = who))), (13, vI I), (12, .v (.pointer (some ((oad A1).add (k * 4))))), (0, .v (.slice A1 S1.length c1)), (7, .p 0 0)], [⟨26, [vI 0, vI 0, vS emp]⟩]⟩ [] [(((oad A1).add (k * 4)).add 1, [.int .i64 (S1.getD k default).holder])] (by kernel_rfl) on (fun w hk hr => ⟨(rowA_fld (i := k) (hr _ (.tail _ (.head _))) (by omega) 1 1 rfl), trivial⟩) ?_
      refine l_nil (q_then_normal ?_)
      cases h3 : decide ((S1.getD k default).holder = who) with
      | true =>
        have h3 := of_decide_eq_true h3
        refine c_if true rfl ?_
        refine c_region ?_
        refine JL_run 1 [] [53, 12, 0, 7] 1 ⟨[(53, .v (.pointer (some ((oad A1).add (k * 4))))), (12, .v (.pointer (some ((oad A1).add (k * 4))))), (0, .v (.slice A1 S1.length c1)), (7, .p 0 0)], [⟨26, [vI 0, vI 0, vS emp]⟩]⟩ [] [] (by kernel_rfl) on wn ?_
        refine l_perm (R' := [rowA 80 A1 c1 (S1 : List CLock), ownL (lineR 3) S1]) (permfront 1 rfl) ?_
        refine l_turn (σ := Unit) 52 [] [.v (.pointer (some ((oad A1).add (k * 4))))] (fun _ => .tuple #[]) (fun _ => True) (fun _ => rowA 80 A1 c1 (S1.set k (passC (S1.getD k default)) : List CLock)) Try.call52 rfl rfl rfl rfl (fun bs w hS => lock_pass (B := (· ∈ (lineR 3 (S1.getD k default)).fp)) A1 c1 S1 k w (hS.res _ (.head _)) hS.head1.2.2 (by omega) ⟨hnm1 _ (mem_of_getD (L := S1) (by omega)), rowA_rd (hS.res _ (.tail _ (.head _)) (S1.getD k default) (mem_of_getD (L := S1) (by omega))) (fun b hb => hb) (fun _ _ => trivial)⟩ (fun b hb => hS.disj (r2 := ownL (lineR 3) S1) (.head _) b (List.mem_flatMap.2 ⟨(S1.getD k default), mem_of_getD (L := S1) (by omega), hb⟩)) ⟨by omega, by omega⟩) ?_
        rintro _ _
        obtain ⟨L4, hL4⟩ : ∃ M : List CLock, M = S1.set k (passC (S1.getD k default)) := ⟨_, rfl⟩
        rw [← hL4]
        have hlL4 : L4.length = S1.length := by rw [hL4, List.length_set]
        have hgL4 : L4.getD k default = passC (S1.getD k default) := by rw [hL4]; exact getD_set (by omega)
        refine l_nil (q_block_normal (q_then_normal ?_))
        refine c_seq ?_
        refine c_draw 9 [] (.p 0 (.p 1 (.p 2 (.p 3 (.q 4 (.p 5 (.p 6 (.b 7 (.p 8 .nil) .z)))))))) [0] [rowA 80 A1 c1 (L4 : List CLock), ownL (lineR 3) S1] Try_mixed (by kernel_rfl) (pq_then pq_body) (List.Sublist.refl _) ?_
        refine h_quiet [(4, .ext [.int .i64 (passC (S1.getD k default)).holder])] [(0, true), (1, true), (2, true), (3, true), (4, false), (5, true), (6, true)] [(6, .v (.slice A1 S1.length c1)), (74, .v (.agg #[.int .i64 0, .int .i64 (passC (S1.getD k default)).holder, .string emp])), (73, vI (passC (S1.getD k default)).holder), (72, .v (.pointer (some (((oad A1).add (k * 4)).add 1)))), (71, .v (.pointer (some ((oad A1).add (k * 4))))), (70, .v (.pointer (some ((oad A1).add (k * 4))))), (69, .v (.slice A1 S1.length c1)), (54, .v (.tuple #[])), (53, .v (.pointer (some ((oad A1).add (k * 4))))), (12, .v (.pointer (some ((oad A1).add (k * 4))))), (0, .v (.slice A1 S1.length c1)), (7, .p 0 0)] [] [(((oad A1).add (k * 4)).add 1, [.int .i64 (passC (S1.getD k default)).holder])] rfl (by kernel_rfl) on (fun w hk hr => ⟨(rowA_fld (i := k) (hr _ (.head _)) (by omega) 1 1 (by rw [hgL4]; rfl)), trivial⟩) ?_
        refine h_local ⟨[(6, .v (.slice A1 S1.length c1)), (74, .v (.agg #[.int .i64 0, .int .i64 (passC (S1.getD k default)).holder, .string emp])), (73, vI (passC (S1.getD k default)).holder), (72, .v (.pointer (some (((oad A1).add (k * 4)).add 1)))), (71, .v (.pointer (some ((oad A1).add (k * 4))))), (70, .v (.pointer (some ((oad A1).add (k * 4))))), (69, .v (.slice A1 S1.length c1)), (54, .v (.tuple #[])), (53, .v (.pointer (some ((oad A1).add (k * 4))))), (12, .v (.pointer (some ((oad A1).add (k * 4))))), (0, .v (.slice A1 S1.length c1)), (7, .p 0 0)], [⟨26, [vI 0, vI (passC (S1.getD k default)).holder, vS emp]⟩]⟩ (by kernel_rfl) (fun bs0 bs w hp hl hS => hS.down hp hl rfl (le_mask le_nil) (List.Sublist.refl _)) ?_
        refine h_quiet [] [(8, true)] [(8, vI 0), (6, .v (.slice A1 S1.length c1)), (74, .v (.agg #[.int .i64 0, .int .i64 (passC (S1.getD k default)).holder, .string emp])), (73, vI (passC (S1.getD k default)).holder), (72, .v (.pointer (some (((oad A1).add (k * 4)).add 1)))), (71, .v (.pointer (some ((oad A1).add (k * 4))))), (70, .v (.pointer (some ((oad A1).add (k * 4))))), (69, .v (.slice A1 S1.length c1)), (54, .v (.tuple #[])), (53, .v (.pointer (some ((oad A1).add (k * 4))))), (12, .v (.pointer (some ((oad A1).add (k * 4))))), (0, .v (.slice A1 S1.length c1)), (7, .p 0 0)] [] [] rfl (by kernel_rfl) on wn ?_
        refine h_nil ?_
        refine l_nil (q_then_normal ?_)
        refine c_ret ?_
        refine q_ret (.inl rfl) [.v (.slice A1 S1.length c1), .v (.agg #[.int .i64 0, .int .i64 (passC (S1.getD k default)).holder, .string emp]), vI 0] rfl (fun bs w hS => ?_)
        have hask0 : mAsk (S1.map CLock.abs) t who = 0 := by rw [hF1]; assumption
        rw [← hF1]
        have hq1 : (S1.getD k default).abs.holder = (S1.getD k default).holder := rfl
        have hq2 : (S1.getD k default).abs.fence = (S1.getD k default).fence := rfl
        have hq3 : (S1.getD k default).abs.line = (S1.getD k default).line.xs := rfl
        have hq4 : (S1.getD k default).abs.name = (S1.getD k default).name := rfl
        have hvx := setL_map hL4
        have hpa := passC_abs (S1.getD k default)
        rw [hpa] at hvx
        have hlt : lFree (S1.getD k default).abs who = ((mPass (S1.getD k default).abs), ⟨0, (passC (S1.getD k default)).holder, emp⟩) := by
          unfold lFree
          simp only [hq1, hq2, hq3, hq4]
          repeat (first | rw [if_pos (by first | assumption | omega)] | rw [if_neg (by first | assumption | omega | (rw [hlh]; simp; done) | (intro h0; simp_all; done))])
          all_goals first | rfl | exact congrArg (fun h : Int => (mPass (S1.getD k default).abs, (⟨0, h, emp⟩ : DReply))) (congrArg DLock.holder hpa).symm
        have hm : mFree (S1.map CLock.abs) t who = ((S1.map CLock.abs).set k (mPass (S1.getD k default).abs), ⟨0, (passC (S1.getD k default)).holder, emp⟩, 0) := by
          unfold mFree lIdx
          simp only [hJ, Int.toNat_natCast, lgetD, List.length_map]
          rw [hlt]
          repeat (first | rw [if_pos (by first | assumption | omega)] | rw [if_neg (by first | assumption | omega | (intro h0; first | exact absurd h0 (by assumption) | (simp_all; done)))])
          all_goals rfl
        refine ⟨⟨A1, c1, L4⟩, ?_, ?_, hS.outS (y := (⟨A1, c1, L4⟩ : Sl CLock)) (out_locksG (.head _) hS.res (fun x hx => ?_))⟩
        · have hll : S1.length = L4.length := by rw [hL4, List.length_set]
          rw [hm]
          exact congrArg (fun q => Ending.returned (.tuple #[.slice A1 q c1, .agg #[.int .i64 0, .int .i64 (passC (S1.getD k default)).holder, .string emp], .int .i64 0])) hll
        · exact Eq.trans hvx (congrArg Prod.fst hm).symm
        · rw [hL4] at hx
          rcases mem_set hx with hx | hx
          · subst hx; have hP := passC_in (.tail _ (.head _)) hS.res (x := (S1.getD k default)) (mem_of_getD (L := S1) (i := k) (by omega)); exact ⟨by rw [hP.1]; exact hnm1 (S1.getD k default) (mem_of_getD (L := S1) (i := k) (by omega)), hP.2⟩
          · exact ⟨hnm1 x hx, own_inL (.tail _ (.head _)) hS.res hx⟩
      | false =>
        have h3 := of_decide_eq_false h3
        refine c_if false rfl ?_
        refine c_seq ?_
        refine c_region ?_
        refine JL_run 3 [] [55, 13, 12, 0, 7] 1 ⟨[(55, vB (decide ((0 : Int) ≤ I))), (13, vI I), (12, .v (.pointer (some ((oad A1).add (k * 4))))), (0, .v (.slice A1 S1.length c1)), (7, .p 0 0)], [⟨26, [vI 0, vI 0, vS emp]⟩]⟩ [] [] (by kernel_rfl) on wn ?_
        refine l_nil (q_then_normal ?_)
        cases h4 : decide ((0 : Int) ≤ I) with
        | true =>
          have h4 := of_decide_eq_true h4
          refine c_if true rfl ?_
          refine c_part2 (rowA 3 (S1.getD k default).line.A (S1.getD k default).line.c ((S1.getD k default).line.xs : List Int)) (ownL (lineR 3) (List.eraseIdx S1 k)) (ownL_get_fp (lineR 3) (i := k) (by omega)) (fun w h => ownL_get_p (lineR 3) (i := k) (by omega) w h) ?_
          refine c_region ?_
          refine JL_run 8 [(4, .ext [.slice (S1.getD k default).line.A (S1.getD k default).line.n (S1.getD k default).line.c])] [65, 63, 62, 58, 12, 0, 7] 1 ⟨[(65, vI (I + 1)), (63, vI I), (62, .v (.slice (S1.getD k default).line.A (S1.getD k default).line.n (S1.getD k default).line.c)), (58, .v (.pointer (some ((oad A1).add (k * 4))))), (12, .v (.pointer (some ((oad A1).add (k * 4))))), (0, .v (.slice A1 S1.length c1)), (7, .p 0 0)], [⟨26, [vI 0, vI 0, vS emp]⟩]⟩ [inR (I + 1)] [(((oad A1).add (k * 4)).add 3, [.slice (S1.getD k default).line.A (S1.getD k default).line.n (S1.getD k default).line.c])] (by kernel_rfl) (oc (by unfold inR; omega) on) (fun w hk hr => ⟨(rowA_fld (i := k) (hr _ (.tail _ (.tail _ (.head _)))) (by omega) 3 1 rfl), trivial⟩) ?_
          refine l_turn (σ := Unit) 53 [] [.v (.slice (S1.getD k default).line.A (S1.getD k default).line.n (S1.getD k default).line.c), vI I, vI (I + 1)] (fun _ => .slice (S1.getD k default).line.A ((S1.getD k default).line.xs.take I.toNat ++ (S1.getD k default).line.xs.drop (I.toNat + 1)).length (S1.getD k default).line.c) (fun _ => True) (fun _ => rowA 3 (S1.getD k default).line.A (S1.getD k default).line.c ((S1.getD k default).line.xs.take I.toNat ++ (S1.getD k default).line.xs.drop (I.toNat + 1) : List Int)) Try.call53 rfl rfl rfl rfl (fun bs w hS => (delR_Int (S1.getD k default).line.A (S1.getD k default).line.c (S1.getD k default).line.xs I.toNat (I.toNat + 1) _ _ w (hS.res _ (.head _)) hS.head1.2.2 (by omega) (by omega) (by first | omega | (simp only [Sl.n] at *; omega)) (by first | omega | (simp only [Sl.n] at *; omega))).mono (fun e w' ⟨h1, h2⟩ => ⟨(), h1, trivial, h2⟩)) ?_
          rintro _ _
          refine JL_run 2 [] [68, 66, 12, 0, 7] 1 ⟨[(68, .v (.pointer (some (((oad A1).add (k * 4)).add 3)))), (66, .v (.slice (S1.getD k default).line.A ((S1.getD k default).line.xs.take I.toNat ++ (S1.getD k default).line.xs.drop (I.toNat + 1)).length (S1.getD k default).line.c)), (12, .v (.pointer (some ((oad A1).add (k * 4))))), (0, .v (.slice A1 S1.length c1)), (7, .p 0 0)], [⟨26, [vI 0, vI 0, vS emp]⟩]⟩ [] [] (by kernel_rfl) on wn ?_
          refine l_perm (R' := [rowA 80 A1 c1 (S1 : List CLock), rowA 3 (S1.getD k default).line.A (S1.getD k default).line.c ((S1.getD k default).line.xs.take I.toNat ++ (S1.getD k default).line.xs.drop (I.toNat + 1) : List Int), ownL (lineR 3) (List.eraseIdx S1 k)]) (permfront 2 rfl) ?_
          refine l_storeA (α := CLock) 80 A1 c1 S1 k 3 (((oad A1).add (k * 4)).add 3) (.v (.slice (S1.getD k default).line.A ((S1.getD k default).line.xs.take I.toNat ++ (S1.getD k default).line.xs.drop (I.toNat + 1)).length (S1.getD k default).line.c)) [.v (.slice (S1.getD k default).line.A ((S1.getD k default).line.xs.take I.toNat ++ (S1.getD k default).line.xs.drop (I.toNat + 1)).length (S1.getD k default).line.c)] [.slice (S1.getD k default).line.A ((S1.getD k default).line.xs.take I.toNat ++ (S1.getD k default).line.xs.drop (I.toNat + 1)).length (S1.getD k default).line.c] (⟨(S1.getD k default).name, (S1.getD k default).holder, (S1.getD k default).fence, ⟨(S1.getD k default).line.A, (S1.getD k default).line.c, (S1.getD k default).line.xs.take I.toNat ++ (S1.getD k default).line.xs.drop (I.toNat + 1)⟩⟩ : CLock) rfl rfl rfl rfl rfl (by kernel_rfl) (by kernel_rfl) rfl (by omega) (by kernel_rfl) rfl rfl rfl ?_
          intro L6 hL6 hlL6
          have hgL6 : L6.getD k default = (⟨(S1.getD k default).name, (S1.getD k default).holder, (S1.getD k default).fence, ⟨(S1.getD k default).line.A, (S1.getD k default).line.c, (S1.getD k default).line.xs.take I.toNat ++ (S1.getD k default).line.xs.drop (I.toNat + 1)⟩⟩ : CLock) := by rw [hL6]; exact getD_set (by omega)
          have hbL6 : L6 = List.set S1 k (⟨(S1.getD k default).name, (S1.getD k default).holder, (S1.getD k default).fence, ⟨(S1.getD k default).line.A, (S1.getD k default).line.c, (S1.getD k default).line.xs.take I.toNat ++ (S1.getD k default).line.xs.drop (I.toNat + 1)⟩⟩ : CLock) := by rw [hL6]
          refine l_nil (q_block_normal (q_then_normal ?_))
          refine c_seq ?_
          refine c_draw 9 [] (.p 0 (.p 1 (.p 2 (.p 3 (.q 4 (.p 5 (.p 6 (.b 7 (.p 8 .nil) .z)))))))) [0] [rowA 80 A1 c1 (L6 : List CLock), rowA 3 (S1.getD k default).line.A (S1.getD k default).line.c ((S1.getD k default).line.xs.take I.toNat ++ (S1.getD k default).line.xs.drop (I.toNat + 1) : List Int), ownL (lineR 3) (List.eraseIdx S1 k)] Try_mixed (by kernel_rfl) (pq_then pq_body) (List.Sublist.refl _) ?_
          refine h_quiet [(4, .ext [.int .i64 (S1.getD k default).holder])] [(0, true), (1, true), (2, true), (3, true), (4, false), (5, true), (6, true)] [(6, .v (.slice A1 S1.length c1)), (74, .v (.agg #[.int .i64 0, .int .i64 (S1.getD k default).holder, .string emp])), (73, vI (S1.getD k default).holder), (72, .v (.pointer (some (((oad A1).add (k * 4)).add 1)))), (71, .v (.pointer (some ((oad A1).add (k * 4))))), (70, .v (.pointer (some ((oad A1).add (k * 4))))), (69, .v (.slice A1 S1.length c1)), (68, .v (.pointer (some (((oad A1).add (k * 4)).add 3)))), (66, .v (.slice (S1.getD k default).line.A ((S1.getD k default).line.xs.take I.toNat ++ (S1.getD k default).line.xs.drop (I.toNat + 1)).length (S1.getD k default).line.c)), (12, .v (.pointer (some ((oad A1).add (k * 4))))), (0, .v (.slice A1 S1.length c1)), (7, .p 0 0)] [] [(((oad A1).add (k * 4)).add 1, [.int .i64 (S1.getD k default).holder])] rfl (by kernel_rfl) on (fun w hk hr => ⟨(rowA_fld (i := k) (hr _ (.head _)) (by omega) 1 1 (by rw [hgL6]; rfl)), trivial⟩) ?_
          refine h_local ⟨[(6, .v (.slice A1 S1.length c1)), (74, .v (.agg #[.int .i64 0, .int .i64 (S1.getD k default).holder, .string emp])), (73, vI (S1.getD k default).holder), (72, .v (.pointer (some (((oad A1).add (k * 4)).add 1)))), (71, .v (.pointer (some ((oad A1).add (k * 4))))), (70, .v (.pointer (some ((oad A1).add (k * 4))))), (69, .v (.slice A1 S1.length c1)), (68, .v (.pointer (some (((oad A1).add (k * 4)).add 3)))), (66, .v (.slice (S1.getD k default).line.A ((S1.getD k default).line.xs.take I.toNat ++ (S1.getD k default).line.xs.drop (I.toNat + 1)).length (S1.getD k default).line.c)), (12, .v (.pointer (some ((oad A1).add (k * 4))))), (0, .v (.slice A1 S1.length c1)), (7, .p 0 0)], [⟨26, [vI 0, vI (S1.getD k default).holder, vS emp]⟩]⟩ (by kernel_rfl) (fun bs0 bs w hp hl hS => hS.down hp hl rfl (le_mask le_nil) (List.Sublist.refl _)) ?_
          refine h_quiet [] [(8, true)] [(8, vI 0), (6, .v (.slice A1 S1.length c1)), (74, .v (.agg #[.int .i64 0, .int .i64 (S1.getD k default).holder, .string emp])), (73, vI (S1.getD k default).holder), (72, .v (.pointer (some (((oad A1).add (k * 4)).add 1)))), (71, .v (.pointer (some ((oad A1).add (k * 4))))), (70, .v (.pointer (some ((oad A1).add (k * 4))))), (69, .v (.slice A1 S1.length c1)), (68, .v (.pointer (some (((oad A1).add (k * 4)).add 3)))), (66, .v (.slice (S1.getD k default).line.A ((S1.getD k default).line.xs.take I.toNat ++ (S1.getD k default).line.xs.drop (I.toNat + 1)).length (S1.getD k default).line.c)), (12, .v (.pointer (some ((oad A1).add (k * 4))))), (0, .v (.slice A1 S1.length c1)), (7, .p 0 0)] [] [] rfl (by kernel_rfl) on wn ?_
          refine h_nil ?_
          refine l_nil (q_then_normal ?_)
          refine c_ret ?_
          refine q_ret (.inl rfl) [.v (.slice A1 S1.length c1), .v (.agg #[.int .i64 0, .int .i64 (S1.getD k default).holder, .string emp]), vI 0] rfl (fun bs w hS => ?_)
          have hask0 : mAsk (S1.map CLock.abs) t who = 0 := by rw [hF1]; assumption
          rw [← hF1]
          have hq1 : (S1.getD k default).abs.holder = (S1.getD k default).holder := rfl
          have hq2 : (S1.getD k default).abs.fence = (S1.getD k default).fence := rfl
          have hq3 : (S1.getD k default).abs.line = (S1.getD k default).line.xs := rfl
          have hq4 : (S1.getD k default).abs.name = (S1.getD k default).name := rfl
          have hvx := setL_map hbL6
          have hlh : lHas (S1.getD k default).abs who = true := by rw [has_idx]; show decide (0 ≤ mIdx _ (S1.getD k default).line.xs) = _; rw [hI]; exact decide_eq_true h4
          have hul : (S1.getD k default).line.xs.take I.toNat ++ (S1.getD k default).line.xs.drop (I.toNat + 1) = unline (S1.getD k default).line.xs who := line_one' (d := (S1.getD k default).abs) hk53 (i := I.toNat) (by show mIdx _ (S1.getD k default).line.xs = _; rw [hI]; omega) rfl
          rw [show ((⟨(S1.getD k default).name, (S1.getD k default).holder, (S1.getD k default).fence, ⟨(S1.getD k default).line.A, (S1.getD k default).line.c, (S1.getD k default).line.xs.take I.toNat ++ (S1.getD k default).line.xs.drop (I.toNat + 1)⟩⟩ : CLock)).abs = (⟨(S1.getD k default).name, (S1.getD k default).holder, (S1.getD k default).fence, unline (S1.getD k default).line.xs who⟩ : DLock) from congrArg (fun l => (⟨(S1.getD k default).name, (S1.getD k default).holder, (S1.getD k default).fence, l⟩ : DLock)) hul] at hvx
          have hlt : lFree (S1.getD k default).abs who = (⟨(S1.getD k default).name, (S1.getD k default).holder, (S1.getD k default).fence, unline (S1.getD k default).line.xs who⟩, ⟨0, (S1.getD k default).holder, emp⟩) := by
            unfold lFree
            simp only [hq1, hq2, hq3, hq4]
            repeat (first | rw [if_pos (by first | assumption | omega)] | rw [if_neg (by first | assumption | omega | (rw [hlh]; simp; done) | (intro h0; simp_all; done))])
            all_goals first | rfl | exact congrArg (fun h : Int => (mPass (S1.getD k default).abs, (⟨0, h, emp⟩ : DReply))) (congrArg DLock.holder hpa).symm
          have hm : mFree (S1.map CLock.abs) t who = ((S1.map CLock.abs).set k ⟨(S1.getD k default).name, (S1.getD k default).holder, (S1.getD k default).fence, unline (S1.getD k default).line.xs who⟩, ⟨0, (S1.getD k default).holder, emp⟩, 0) := by
            unfold mFree lIdx
            simp only [hJ, Int.toNat_natCast, lgetD, List.length_map]
            rw [hlt]
            repeat (first | rw [if_pos (by first | assumption | omega)] | rw [if_neg (by first | assumption | omega | (intro h0; first | exact absurd h0 (by assumption) | (simp_all; done)))])
            all_goals rfl
          refine ⟨⟨A1, c1, L6⟩, ?_, ?_, hS.outS (y := (⟨A1, c1, L6⟩ : Sl CLock)) (out_locksG (.head _) hS.res (fun x hx => ?_))⟩
          · have hll : S1.length = L6.length := by rw [hbL6, List.length_set]
            rw [hm]
            exact congrArg (fun q => Ending.returned (.tuple #[.slice A1 q c1, .agg #[.int .i64 0, .int .i64 (S1.getD k default).holder, .string emp], .int .i64 0])) hll
          · exact Eq.trans hvx (congrArg Prod.fst hm).symm
          · rw [hbL6] at hx
            rcases mem_set_ne hx with hx | hx
            · subst hx; exact ⟨hnm1 (S1.getD k default) (mem_of_getD (L := S1) (i := k) (by omega)), allR_row (.tail _ (.head _)) (hS.res _ (.tail _ (.head _))) (fun _ _ => trivial)⟩
            · exact ⟨hnm1 x (List.mem_of_mem_eraseIdx hx), own_inL (.tail _ (.tail _ (.head _))) hS.res hx⟩
        | false =>
          have h4 := of_decide_eq_false h4
          refine c_if false rfl ?_
          refine c_seq ?_
          refine c_draw 9 [] (.p 0 (.p 1 (.p 2 (.p 3 (.q 4 (.p 5 (.p 6 (.b 7 (.p 8 .nil) .z)))))))) [0] [ownL (lineR 3) S1, rowA 80 A1 c1 (S1 : List CLock)] Try_mixed (by kernel_rfl) (pq_then (pq_block (pq_then pq_body))) (List.Sublist.refl _) ?_
          refine h_quiet [(4, .ext [.int .i64 (S1.getD k default).holder])] [(0, true), (1, true), (2, true), (3, true), (4, false), (5, true), (6, true)] [(6, .v (.slice A1 S1.length c1)), (45, .v (.agg #[.int .i64 10, .int .i64 (S1.getD k default).holder, .string emp])), (44, vI (S1.getD k default).holder), (43, .v (.pointer (some (((oad A1).add (k * 4)).add 1)))), (42, .v (.pointer (some ((oad A1).add (k * 4))))), (41, .v (.pointer (some ((oad A1).add (k * 4))))), (40, .v (.slice A1 S1.length c1)), (55, vB false), (13, vI I), (12, .v (.pointer (some ((oad A1).add (k * 4))))), (0, .v (.slice A1 S1.length c1)), (7, .p 0 0)] [] [(((oad A1).add (k * 4)).add 1, [.int .i64 (S1.getD k default).holder])] rfl (by kernel_rfl) on (fun w hk hr => ⟨(rowA_fld (i := k) (hr _ (.tail _ (.head _))) (by omega) 1 1 rfl), trivial⟩) ?_
          refine h_local ⟨[(6, .v (.slice A1 S1.length c1)), (45, .v (.agg #[.int .i64 10, .int .i64 (S1.getD k default).holder, .string emp])), (44, vI (S1.getD k default).holder), (43, .v (.pointer (some (((oad A1).add (k * 4)).add 1)))), (42, .v (.pointer (some ((oad A1).add (k * 4))))), (41, .v (.pointer (some ((oad A1).add (k * 4))))), (40, .v (.slice A1 S1.length c1)), (55, vB false), (13, vI I), (12, .v (.pointer (some ((oad A1).add (k * 4))))), (0, .v (.slice A1 S1.length c1)), (7, .p 0 0)], [⟨26, [vI 10, vI (S1.getD k default).holder, vS emp]⟩]⟩ (by kernel_rfl) (fun bs0 bs w hp hl hS => hS.down hp hl rfl (le_mask le_nil) (List.Sublist.refl _)) ?_
          refine h_quiet [] [(8, true)] [(8, vI 0), (6, .v (.slice A1 S1.length c1)), (45, .v (.agg #[.int .i64 10, .int .i64 (S1.getD k default).holder, .string emp])), (44, vI (S1.getD k default).holder), (43, .v (.pointer (some (((oad A1).add (k * 4)).add 1)))), (42, .v (.pointer (some ((oad A1).add (k * 4))))), (41, .v (.pointer (some ((oad A1).add (k * 4))))), (40, .v (.slice A1 S1.length c1)), (55, vB false), (13, vI I), (12, .v (.pointer (some ((oad A1).add (k * 4))))), (0, .v (.slice A1 S1.length c1)), (7, .p 0 0)] [] [] rfl (by kernel_rfl) on wn ?_
          refine h_nil ?_
          refine l_nil (q_then_normal ?_)
          refine c_ret ?_
          refine q_block_ret (q_then_ret (q_ret (.inl rfl) [.v (.slice A1 S1.length c1), .v (.agg #[.int .i64 10, .int .i64 (S1.getD k default).holder, .string emp]), vI 0] rfl (fun bs w hS => ?_)))
          have hask0 : mAsk (S1.map CLock.abs) t who = 0 := by rw [hF1]; assumption
          rw [← hF1]
          have hq1 : (S1.getD k default).abs.holder = (S1.getD k default).holder := rfl
          have hq2 : (S1.getD k default).abs.fence = (S1.getD k default).fence := rfl
          have hq3 : (S1.getD k default).abs.line = (S1.getD k default).line.xs := rfl
          have hq4 : (S1.getD k default).abs.name = (S1.getD k default).name := rfl
          have hlh : lHas (S1.getD k default).abs who = false := by rw [has_idx]; show decide (0 ≤ mIdx _ (S1.getD k default).line.xs) = _; rw [hI]; exact decide_eq_false h4
          have hlt : lFree (S1.getD k default).abs who = ((S1.getD k default).abs, ⟨10, (S1.getD k default).holder, emp⟩) := by
            unfold lFree
            simp only [hq1, hq2, hq3, hq4]
            repeat (first | rw [if_pos (by first | assumption | omega)] | rw [if_neg (by first | assumption | omega | (rw [hlh]; simp; done) | (intro h0; simp_all; done))])
            all_goals first | rfl | exact congrArg (fun h : Int => (mPass (S1.getD k default).abs, (⟨0, h, emp⟩ : DReply))) (congrArg DLock.holder hpa).symm
          have hm : mFree (S1.map CLock.abs) t who = (S1.map CLock.abs, ⟨10, (S1.getD k default).holder, emp⟩, 0) := by
            unfold mFree lIdx
            simp only [hJ, Int.toNat_natCast, lgetD, List.length_map]
            rw [hlt]
            repeat (first | rw [if_pos (by first | assumption | omega)] | rw [if_neg (by first | assumption | omega | (intro h0; first | exact absurd h0 (by assumption) | (simp_all; done)))])
            all_goals (show ((S1.map CLock.abs).set k (S1.getD k default).abs, _, _) = _; rw [← lgetD, set_getD (by rw [List.length_map]; omega)])
          refine ⟨⟨A1, c1, S1⟩, ?_, ?_, hS.outS (y := (⟨A1, c1, S1⟩ : Sl CLock)) (out_locksG (.tail _ (.head _)) hS.res (fun x hx => ?_))⟩
          · rw [hm] <;> rfl
          · exact (congrArg Prod.fst hm).symm
          · exact ⟨hnm1 x hx, own_inL (.head _) hS.res hx⟩
    | false =>
      have h0J := of_decide_eq_false (hbs.1.symm.trans h2)
      refine c_if true rfl ?_
      refine c_seq ?_
      refine c_region ?_
      refine JL_run 5 [] [8, 6, 7] 1 ⟨[(8, vI 0), (6, .v (.slice A1 S1.length c1)), (7, .p 0 0)], [⟨26, [vI 6, vI 0, vS emp]⟩]⟩ [] [] (by kernel_rfl) on wn ?_
      refine l_nil (q_then_normal ?_)
      refine c_ret ?_
      refine q_then_ret (q_ret (.inl rfl) [.v (.slice A1 S1.length c1), .v (.agg #[.int .i64 6, .int .i64 0, .string emp]), vI 0] rfl (fun bs w hS => ?_))
      have hask0 : mAsk (S1.map CLock.abs) t who = 0 := by rw [hF1]; assumption
      rw [← hF1]
      have hq1 : (S1.getD k default).abs.holder = (S1.getD k default).holder := rfl
      have hq2 : (S1.getD k default).abs.fence = (S1.getD k default).fence := rfl
      have hq3 : (S1.getD k default).abs.line = (S1.getD k default).line.xs := rfl
      have hq4 : (S1.getD k default).abs.name = (S1.getD k default).name := rfl
      have hm : mFree (S1.map CLock.abs) t who = (S1.map CLock.abs, ⟨6, 0, emp⟩, 0) := by
        unfold mFree lIdx
        simp only [hJ, Int.toNat_natCast, lgetD, List.length_map]
        repeat (first | rw [if_pos (by first | assumption | omega)] | rw [if_neg (by first | assumption | omega | (intro h0; first | exact absurd h0 (by assumption) | (simp_all; done)))])
        all_goals rfl
      refine ⟨⟨A1, c1, S1⟩, ?_, ?_, hS.outS (y := (⟨A1, c1, S1⟩ : Sl CLock)) (out_locksG (.tail _ (.head _)) hS.res (fun x hx => ?_))⟩
      · rw [hm] <;> rfl
      · exact (congrArg Prod.fst hm).symm
      · exact ⟨hnm1 x hx, own_inL (.head _) hS.res hx⟩
  | false =>
    have h1 := of_decide_eq_false h1
    refine l_pure 50 [] [.v (.slice s.A s.n s.c), vS t, vI who] (.tuple #[.slice none 0 0, .int .i64 0, .bool false, .int .i64 (mAsk (s.xs.map CLock.abs) t who)]) Try.call50 rfl rfl rfl rfl (fun bs w hS => (lock_begin s t who w (Sl.rd.kp hs hS.kp) (by first | assumption | omega | (simp only [emp_size]; omega))).mono (fun e w' h => (h.resolve_right (fun h9 => h1 h9.1)).2)) ?_
    refine JL_run 9 [] [11, 10, 9, 0, 7, 2] 1 ⟨[(11, vI (mAsk (s.xs.map CLock.abs) t who)), (10, vB false), (9, vI 0), (0, .v (.slice none 0 0)), (7, .p 0 0), (2, vI who)], [⟨26, [vI 0, vI 0, vS emp]⟩]⟩ [] [] (by kernel_rfl) on wn ?_
    refine l_nil (q_then_normal ?_)
    refine c_seq ?_
    refine c_seq ?_
    refine c_region ?_
    refine JL_run 2 [] [24, 11, 10, 9, 0, 7, 2] 1 ⟨[(24, vB (!(decide (mAsk (s.xs.map CLock.abs) t who = 0)))), (11, vI (mAsk (s.xs.map CLock.abs) t who)), (10, vB false), (9, vI 0), (0, .v (.slice none 0 0)), (7, .p 0 0), (2, vI who)], [⟨26, [vI 0, vI 0, vS emp]⟩]⟩ [] [] (by kernel_rfl) on wn ?_
    refine l_nil (q_then_normal ?_)
    cases h5 : decide (mAsk (s.xs.map CLock.abs) t who = 0) with
    | true =>
      have h5 := of_decide_eq_true h5
      exact absurd h5 h1
    | false =>
      have h5 := of_decide_eq_false h5
      refine c_if true rfl ?_
      refine c_seq ?_
      refine c_region ?_
      refine JL_run 5 [] [8, 6, 7] 1 ⟨[(8, vI (mAsk (s.xs.map CLock.abs) t who)), (6, .v (.slice none 0 0)), (7, .p 0 0)], [⟨26, [vI 0, vI 0, vS emp]⟩]⟩ [] [] (by kernel_rfl) on wn ?_
      refine l_nil (q_then_normal ?_)
      refine c_ret ?_
      refine q_then_ret (q_ret (.inl rfl) [.v (.slice none 0 0), .v (.agg #[.int .i64 0, .int .i64 0, .string emp]), vI (mAsk (s.xs.map CLock.abs) t who)] rfl (fun bs w hS => ?_))
      have hm : mFree (s.xs.map CLock.abs) t who = ([], zRep, mAsk (s.xs.map CLock.abs) t who) := by
        unfold mFree
        repeat (first | rw [if_pos (by first | assumption | omega)] | rw [if_neg (by first | assumption | omega | (intro h0; first | exact absurd h0 (by assumption) | (simp_all; done)))])
        all_goals rfl
      refine ⟨Sl.nil, ?_, ?_, hS.outS (Sl.rd_nil _ _)⟩
      · rw [hm] <;> rfl
      · rw [hm] <;> rfl

theorem ref_FreedOf {B : Nat → Prop} (s : Sl CLock) (t : ByteArray) (who : Int) (w : World) (hs : s.rd B w) (ht : t.size ≤ 9223372036854775807) : Calls Try.prog 17 #[.slice s.A s.n s.c, .string t, .int .i64 who] w fun e w' => ∃ y : Sl CLock, e = .returned (.tuple #[.slice y.A y.n y.c, .agg #[.int .i64 ((mFree (s.xs.map CLock.abs) t who).2.1).code, .int .i64 ((mFree (s.xs.map CLock.abs) t who).2.1).n, .string ((mFree (s.xs.map CLock.abs) t who).2.1).text], .int .i64 ((mFree (s.xs.map CLock.abs) t who).2.2)]) ∧ y.xs.map CLock.abs = (mFree (s.xs.map CLock.abs) t who).1 ∧ FreshS w w' y := by
  have oks := Sl.rd.ok hs
  have ncs := Sl.ok.nc oks
  have hns : s.n = s.xs.length := rfl
  refine calls_J0 76 Try.func17 rfl rfl [.slice s.A s.n s.c, .string t, .int .i64 who] rfl ?_
  refine c_seq ?_
  refine c_region ?_
  refine JL_run 3 [] [7, 0, 1, 2] 1 ⟨[(7, .p 0 0), (0, .v (.slice s.A s.n s.c)), (1, vS t), (2, vI who)], [⟨26, [vI 0, vI 0, vS emp]⟩]⟩ [] [] (by kernel_rfl) on wn ?_
  refine l_nil (q_then_normal ?_)
  refine c_seq ?_
  refine c_region ?_
  refine JL_run 3 [] [14, 13, 12, 7, 0, 1, 2] 1 ⟨[(14, vI who), (13, vS t), (12, .v (.slice s.A s.n s.c)), (7, .p 0 0), (0, .v (.slice s.A s.n s.c)), (1, vS t), (2, vI who)], [⟨26, [vI 0, vI 0, vS emp]⟩]⟩ [] [] (by kernel_rfl) on wn ?_
  refine l_pure 54 [] [.v (.slice s.A s.n s.c), vS t, vI who] (.int .i64 (mAsk (s.xs.map CLock.abs) t who)) Try.call54 rfl rfl rfl rfl (fun bs w hS => ref_asked s t who w (Sl.rd.kp hs hS.kp) (by first | assumption | omega | (simp only [emp_size]; omega))) ?_
  refine JL_run 1 [] [9, 7, 0, 1, 2] 1 ⟨[(9, vI (mAsk (s.xs.map CLock.abs) t who)), (7, .p 0 0), (0, .v (.slice s.A s.n s.c)), (1, vS t), (2, vI who)], [⟨26, [vI 0, vI 0, vS emp]⟩]⟩ [] [] (by kernel_rfl) on wn ?_
  refine l_nil (q_then_normal ?_)
  refine c_seq ?_
  refine c_seq ?_
  refine c_region ?_
  refine JL_run 2 [] [17, 9, 7, 0, 1, 2] 1 ⟨[(17, vB (!(decide (mAsk (s.xs.map CLock.abs) t who = 0)))), (9, vI (mAsk (s.xs.map CLock.abs) t who)), (7, .p 0 0), (0, .v (.slice s.A s.n s.c)), (1, vS t), (2, vI who)], [⟨26, [vI 0, vI 0, vS emp]⟩]⟩ [] [] (by kernel_rfl) on wn ?_
  refine l_nil (q_then_normal ?_)
  cases h1 : decide (mAsk (s.xs.map CLock.abs) t who = 0) with
  | true =>
    have h1 := of_decide_eq_true h1
    refine c_if false rfl ?_
    refine c_skip ?_
    refine q_then_normal ?_
    refine c_seq ?_
    refine c_region ?_
    refine JL_run 1 [] [20, 7, 1, 2] 1 ⟨[(20, .v (.slice s.A s.n s.c)), (7, .p 0 0), (1, vS t), (2, vI who)], [⟨26, [vI 0, vI 0, vS emp]⟩]⟩ [] [] (by kernel_rfl) on wn ?_
    refine l_freshF (σ := Sl CLock) 15 [] [.v (.slice s.A s.n s.c)] (fun y1 => .slice y1.A y1.n y1.c) (fun y1 => y1.xs.map CLock.abs = s.xs.map CLock.abs) (fun y1 => locksR 80 3 y1) Try.call15 rfl rfl rfl rfl (fun bs w hS => ref_LocksCopy s w (Sl.rd.kp hs hS.kp) (small_locks (mAsk_ok (by assumption)).1)) ?_
    rintro y1 hF1
    refine l_split2 ?_
    obtain ⟨A1, c1, S1⟩ := y1
    have hF1 : S1.map CLock.abs = s.xs.map CLock.abs := hF1
    refine l_perm (R' := [ownL (lineR 3) S1, rowA 80 A1 c1 (S1 : List CLock)]) (List.Perm.refl _) ?_
    have hnm1 := locks_names (y := (⟨A1, c1, S1⟩ : Sl CLock)) (hs) hF1
    have hlen1 : S1.length = s.xs.length := by simpa using congrArg List.length hF1
    refine l_know (F := ∀ i, i < S1.length → Rds.ok (S1.getD i default)) (fun bs w hS i hi => Rds.okof (B := anyB) (w := w) (own_eltL (hS.res _ (.head _)) hnm1 (mem_of_getD hi))) fun okown1 => ?_
    refine l_know (F := RowOk A1 c1 (S1 : List CLock)) (fun bs w hS => rowA_rok (hS.res _ (.tail _ (.head _)))) fun hrow1 => ?_
    have nchrow1 := hrow1.2
    have hask := mAsk_ok h1
    have hm1 : mLocks (S1.map CLock.abs) = 0 := by rw [hF1]; exact hask.1
    have hw1 := hask.2.2.1
    have hw2 := hask.2.2.2
    have hln5 : S1.length ≤ 5 := by have h9 := (mLocks_bd hm1).1; simpa using h9
    refine JL_run 1 [] [10, 7, 1, 2] 1 ⟨[(10, .v (.slice A1 S1.length c1)), (7, .p 0 0), (1, vS t), (2, vI who)], [⟨26, [vI 0, vI 0, vS emp]⟩]⟩ [] [] (by kernel_rfl) on wn ?_
    refine l_nil (q_then_normal ?_)
    refine c_seq ?_
    refine c_region ?_
    refine JL_run 2 [] [23, 22, 10, 7, 2] 1 ⟨[(23, vS t), (22, .v (.slice A1 S1.length c1)), (10, .v (.slice A1 S1.length c1)), (7, .p 0 0), (2, vI who)], [⟨26, [vI 0, vI 0, vS emp]⟩]⟩ [] [] (by kernel_rfl) on wn ?_
    refine l_pure 55 [] [.v (.slice A1 S1.length c1), vS t] (.int .i64 (mIdx (fun x : CLock => decide (x.name = t)) S1)) Try.call55 rfl rfl rfl rfl (fun bs w hS => tackroomref_lockAt (⟨A1, c1, S1⟩ : Sl CLock) t w (own_locks (hS.res _ (.head _)) (hS.res _ (.tail _ (.head _))) hnm1)) ?_
    have hJe : mIdx (fun x : CLock => decide (x.name = t)) S1 = mIdx (fun x : DLock => decide (x.name = t)) (S1.map CLock.abs) := mIdx_map CLock.abs (fun x : DLock => decide (x.name = t)) S1
    rw [hJe]
    have hJb := mIdx_bd (fun x : DLock => decide (x.name = t)) (S1.map CLock.abs)
    generalize hJ : mIdx (fun x : DLock => decide (x.name = t)) (S1.map CLock.abs) = J at hJb ⊢
    rw [List.length_map] at hJb
    refine JL_run 1 [] [11, 10, 7, 2] 1 ⟨[(11, vI J), (10, .v (.slice A1 S1.length c1)), (7, .p 0 0), (2, vI who)], [⟨26, [vI 0, vI 0, vS emp]⟩]⟩ [] [] (by kernel_rfl) on wn ?_
    refine l_nil (q_then_normal ?_)
    refine c_seq ?_
    refine c_seq ?_
    refine c_region ?_
    refine JL_run 2 [] [26, 11, 10, 7, 2] 1 ⟨[(26, vB (decide (J < 0))), (11, vI J), (10, .v (.slice A1 S1.length c1)), (7, .p 0 0), (2, vI who)], [⟨26, [vI 0, vI 0, vS emp]⟩]⟩ [] [] (by kernel_rfl) on wn ?_
    refine l_nil (q_then_normal ?_)
    cases h2 : decide (J < 0) with
    | true =>
      have h2 := of_decide_eq_true h2
      have h0J : ¬ 0 ≤ J := by omega
      refine c_if true rfl ?_
      refine c_seq ?_
      refine c_region ?_
      refine JL_run 5 [] [8, 6, 7] 1 ⟨[(8, vI 0), (6, .v (.slice A1 S1.length c1)), (7, .p 0 0)], [⟨26, [vI 6, vI 0, vS emp]⟩]⟩ [] [] (by kernel_rfl) on wn ?_
      refine l_nil (q_then_normal ?_)
      refine c_ret ?_
      refine q_then_ret (q_ret (.inl rfl) [.v (.slice A1 S1.length c1), .v (.agg #[.int .i64 6, .int .i64 0, .string emp]), vI 0] rfl (fun bs w hS => ?_))
      have hask0 : mAsk (S1.map CLock.abs) t who = 0 := by rw [hF1]; assumption
      rw [← hF1]
      have hq1 : (S1.getD J.toNat default).abs.holder = (S1.getD J.toNat default).holder := rfl
      have hq2 : (S1.getD J.toNat default).abs.fence = (S1.getD J.toNat default).fence := rfl
      have hq3 : (S1.getD J.toNat default).abs.line = (S1.getD J.toNat default).line.xs := rfl
      have hq4 : (S1.getD J.toNat default).abs.name = (S1.getD J.toNat default).name := rfl
      have hm : mFree (S1.map CLock.abs) t who = (S1.map CLock.abs, ⟨6, 0, emp⟩, 0) := by
        unfold mFree lIdx
        simp only [hJ, lgetD, List.length_map]
        repeat (first | rw [if_pos (by first | assumption | omega)] | rw [if_neg (by first | assumption | omega | (intro h0; first | exact absurd h0 (by assumption) | (simp_all; done)))])
        all_goals rfl
      refine ⟨⟨A1, c1, S1⟩, ?_, ?_, hS.outS (y := (⟨A1, c1, S1⟩ : Sl CLock)) (out_locksG (.tail _ (.head _)) hS.res (fun x hx => ?_))⟩
      · rw [hm] <;> rfl
      · exact (congrArg Prod.fst hm).symm
      · exact ⟨hnm1 x hx, own_inL (.head _) hS.res hx⟩
    | false =>
      have h2 := of_decide_eq_false h2
      have h0J : 0 ≤ J := by omega
      have hk5 := lock_all hm1 (k := J.toNat) (by omega)
      obtain ⟨hk51, hk52, hk53, hk54, hk55, hk56⟩ := hk5
      have hk7 : (S1.getD J.toNat default).line.n = (S1.getD J.toNat default).line.xs.length := rfl
      refine c_if false rfl ?_
      refine c_skip ?_
      refine q_then_normal ?_
      refine c_seq ?_
      refine c_seq ?_
      refine c_region ?_
      refine JL_run 7 [(2, .idx (oad A1) J.toNat), (4, .ext [.int .i64 (S1.getD J.toNat default).holder])] [35, 11, 10, 7, 2] 1 ⟨[(35, vB (decide ((S1.getD J.toNat default).holder = who))), (11, vI J), (10, .v (.slice A1 S1.length c1)), (7, .p 0 0), (2, vI who)], [⟨26, [vI 0, vI 0, vS emp]⟩]⟩ [A1 = some (oad A1), J = ((J.toNat : Nat) : Int), J.toNat < S1.length] [(((oad A1).add (J.toNat * 4)).add 1, [.int .i64 (S1.getD J.toNat default).holder])] (by kernel_rfl) (oc (hrow1.1 J.toNat (by omega)) (oc (by omega) (oc (by omega) on))) (fun w hk hr => ⟨(rowA_fld (i := J.toNat) (hr _ (.tail _ (.head _))) (by omega) 1 1 rfl), trivial⟩) ?_
      refine l_nil (q_then_normal ?_)
      cases h3 : decide ((S1.getD J.toNat default).holder = who) with
      | true =>
        have h3 := of_decide_eq_true h3
        refine c_if true rfl ?_
        refine c_region ?_
        refine JL_run 6 [(4, .idx (oad A1) J.toNat), (5, .ext [.string (S1.getD J.toNat default).name, .int .i64 (S1.getD J.toNat default).holder, .int .i64 (S1.getD J.toNat default).fence, .slice (S1.getD J.toNat default).line.A (S1.getD J.toNat default).line.n (S1.getD J.toNat default).line.c])] [41, 37, 36, 11, 10, 7] 1 ⟨[(41, .v (.agg #[.string (S1.getD J.toNat default).name, .int .i64 (S1.getD J.toNat default).holder, .int .i64 (S1.getD J.toNat default).fence, .slice (S1.getD J.toNat default).line.A (S1.getD J.toNat default).line.n (S1.getD J.toNat default).line.c])), (37, vI J), (36, .v (.slice A1 S1.length c1)), (11, vI J), (10, .v (.slice A1 S1.length c1)), (7, .p 0 0)], [⟨26, [vI 0, vI 0, vS emp]⟩]⟩ [A1 = some (oad A1), J = ((J.toNat : Nat) : Int), J.toNat < S1.length] [((oad A1).add (J.toNat * 4), [.string (S1.getD J.toNat default).name, .int .i64 (S1.getD J.toNat default).holder, .int .i64 (S1.getD J.toNat default).fence, .slice (S1.getD J.toNat default).line.A (S1.getD J.toNat default).line.n (S1.getD J.toNat default).line.c])] (by kernel_rfl) (oc (hrow1.1 J.toNat (by omega)) (oc (by omega) (oc (by omega) on))) (fun w hk hr => ⟨(rowA_all (i := J.toNat) (hr _ (.tail _ (.head _))) (by omega) rfl), trivial⟩) ?_
        refine l_sub_call (σ := CLock) 56 [] [.v (.agg #[.string (S1.getD J.toNat default).name, .int .i64 (S1.getD J.toNat default).holder, .int .i64 (S1.getD J.toNat default).fence, .slice (S1.getD J.toNat default).line.A (S1.getD J.toNat default).line.n (S1.getD J.toNat default).line.c])] (fun y3 => .agg #[.string y3.name, .int .i64 y3.holder, .int .i64 y3.fence, .slice y3.line.A y3.line.n y3.line.c]) (fun y3 => y3.abs = mPass (S1.getD J.toNat default).abs) Try.call56 rfl rfl rfl rfl (fun bs w hS => ref_passed (S1.getD J.toNat default) w (own_eltL (hS.res _ (.head _)) hnm1 (mem_of_getD (i := J.toNat) (by omega))) ⟨by omega, by omega⟩ (by omega)) ?_
        rintro fp3 y3 hF3 hok3
        refine JL_run 1 [(0, .idx (oad A1) J.toNat)] [43, 42, 11, 10, 7] 1 ⟨[(43, .v (.pointer (some ((oad A1).add (J.toNat * 4))))), (42, .v (.agg #[.string y3.name, .int .i64 y3.holder, .int .i64 y3.fence, .slice y3.line.A y3.line.n y3.line.c])), (11, vI J), (10, .v (.slice A1 S1.length c1)), (7, .p 0 0)], [⟨26, [vI 0, vI 0, vS emp]⟩]⟩ [A1 = some (oad A1), J = ((J.toNat : Nat) : Int), J.toNat < S1.length] [] (by kernel_rfl) (oc (hrow1.1 J.toNat (by omega)) (oc (by omega) (oc (by omega) on))) wn ?_
        refine l_perm (R' := [rowA 80 A1 c1 (S1 : List CLock), subR fp3 y3, ownL (lineR 3) S1]) (permfront 2 rfl) ?_
        refine l_storeA (α := CLock) 80 A1 c1 S1 J.toNat 0 ((oad A1).add (J.toNat * 4)) (.v (.agg #[.string y3.name, .int .i64 y3.holder, .int .i64 y3.fence, .slice y3.line.A y3.line.n y3.line.c])) [vS y3.name, vI y3.holder, vI y3.fence, .v (.slice y3.line.A y3.line.n y3.line.c)] [.string y3.name, .int .i64 y3.holder, .int .i64 y3.fence, .slice y3.line.A y3.line.n y3.line.c] (⟨y3.name, y3.holder, y3.fence, y3.line⟩ : CLock) (add_zero _).symm rfl rfl rfl rfl (by kernel_rfl) (by kernel_rfl) rfl (by omega) (by kernel_rfl) rfl rfl rfl ?_
        intro L4 hL4 hlL4
        have hgL4 : L4.getD J.toNat default = (⟨y3.name, y3.holder, y3.fence, y3.line⟩ : CLock) := by rw [hL4]; exact getD_set (by omega)
        have hbL4 : L4 = List.set S1 J.toNat (⟨y3.name, y3.holder, y3.fence, y3.line⟩ : CLock) := by rw [hL4]
        refine l_nil (q_then_normal ?_)
        refine c_seq ?_
        refine c_draw 10 [] (.p 0 (.p 1 (.p 2 (.p 3 (.p 4 (.q 5 (.p 6 (.p 7 (.b 8 (.p 9 .nil) .z))))))))) [0] [rowA 80 A1 c1 (L4 : List CLock), subR fp3 y3, ownL (lineR 3) S1] Try_mixed (by kernel_rfl) (pq_then pq_body) (List.Sublist.refl _) ?_
        refine h_quiet [(3, .idx (oad A1) J.toNat), (5, .ext [.int .i64 y3.holder])] [(0, true), (1, true), (2, true), (3, true), (4, true), (5, false), (6, true), (7, true)] [(6, .v (.slice A1 S1.length c1)), (75, .v (.agg #[.int .i64 0, .int .i64 y3.holder, .string emp])), (74, vI y3.holder), (73, .v (.pointer (some (((oad A1).add (J.toNat * 4)).add 1)))), (72, .v (.pointer (some ((oad A1).add (J.toNat * 4))))), (71, vI J), (70, .v (.slice A1 S1.length c1)), (69, .v (.slice A1 S1.length c1)), (43, .v (.pointer (some ((oad A1).add (J.toNat * 4))))), (42, .v (.agg #[.string y3.name, .int .i64 y3.holder, .int .i64 y3.fence, .slice y3.line.A y3.line.n y3.line.c])), (11, vI J), (10, .v (.slice A1 S1.length c1)), (7, .p 0 0)] [A1 = some (oad A1), J = ((J.toNat : Nat) : Int), J.toNat < S1.length] [(((oad A1).add (J.toNat * 4)).add 1, [.int .i64 y3.holder])] rfl (by kernel_rfl) (oc (hrow1.1 J.toNat (by omega)) (oc (by omega) (oc (by omega) on))) (fun w hk hr => ⟨(rowA_fld (i := J.toNat) (hr _ (.head _)) (by omega) 1 1 (by rw [hgL4]; rfl)), trivial⟩) ?_
        refine h_local ⟨[(6, .v (.slice A1 S1.length c1)), (75, .v (.agg #[.int .i64 0, .int .i64 y3.holder, .string emp])), (74, vI y3.holder), (73, .v (.pointer (some (((oad A1).add (J.toNat * 4)).add 1)))), (72, .v (.pointer (some ((oad A1).add (J.toNat * 4))))), (71, vI J), (70, .v (.slice A1 S1.length c1)), (69, .v (.slice A1 S1.length c1)), (43, .v (.pointer (some ((oad A1).add (J.toNat * 4))))), (42, .v (.agg #[.string y3.name, .int .i64 y3.holder, .int .i64 y3.fence, .slice y3.line.A y3.line.n y3.line.c])), (11, vI J), (10, .v (.slice A1 S1.length c1)), (7, .p 0 0)], [⟨26, [vI 0, vI y3.holder, vS emp]⟩]⟩ (by kernel_rfl) (fun bs0 bs w hp hl hS => hS.down hp hl rfl (le_mask le_nil) (List.Sublist.refl _)) ?_
        refine h_quiet [] [(9, true)] [(8, vI 0), (6, .v (.slice A1 S1.length c1)), (75, .v (.agg #[.int .i64 0, .int .i64 y3.holder, .string emp])), (74, vI y3.holder), (73, .v (.pointer (some (((oad A1).add (J.toNat * 4)).add 1)))), (72, .v (.pointer (some ((oad A1).add (J.toNat * 4))))), (71, vI J), (70, .v (.slice A1 S1.length c1)), (69, .v (.slice A1 S1.length c1)), (43, .v (.pointer (some ((oad A1).add (J.toNat * 4))))), (42, .v (.agg #[.string y3.name, .int .i64 y3.holder, .int .i64 y3.fence, .slice y3.line.A y3.line.n y3.line.c])), (11, vI J), (10, .v (.slice A1 S1.length c1)), (7, .p 0 0)] [] [] rfl (by kernel_rfl) on wn ?_
        refine h_nil ?_
        refine l_nil (q_then_normal ?_)
        refine c_ret ?_
        refine q_ret (.inl rfl) [.v (.slice A1 S1.length c1), .v (.agg #[.int .i64 0, .int .i64 y3.holder, .string emp]), vI 0] rfl (fun bs w hS => ?_)
        have hask0 : mAsk (S1.map CLock.abs) t who = 0 := by rw [hF1]; assumption
        rw [← hF1]
        have hq1 : (S1.getD J.toNat default).abs.holder = (S1.getD J.toNat default).holder := rfl
        have hq2 : (S1.getD J.toNat default).abs.fence = (S1.getD J.toNat default).fence := rfl
        have hq3 : (S1.getD J.toNat default).abs.line = (S1.getD J.toNat default).line.xs := rfl
        have hq4 : (S1.getD J.toNat default).abs.name = (S1.getD J.toNat default).name := rfl
        have hvx := setL_map hbL4
        rw [show ((⟨y3.name, y3.holder, y3.fence, y3.line⟩ : CLock)).abs = mPass (S1.getD J.toNat default).abs from hF3] at hvx
        have hpa := hF3
        have hlt : lFree (S1.getD J.toNat default).abs who = ((mPass (S1.getD J.toNat default).abs), ⟨0, y3.holder, emp⟩) := by
          unfold lFree
          simp only [hq1, hq2, hq3, hq4]
          repeat (first | rw [if_pos (by first | assumption | omega)] | rw [if_neg (by first | assumption | omega | (rw [hlh]; simp; done) | (intro h0; simp_all; done))])
          all_goals first | rfl | exact congrArg (fun h : Int => (mPass (S1.getD J.toNat default).abs, (⟨0, h, emp⟩ : DReply))) (congrArg DLock.holder hpa).symm
        have hm : mFree (S1.map CLock.abs) t who = ((S1.map CLock.abs).set J.toNat (mPass (S1.getD J.toNat default).abs), ⟨0, y3.holder, emp⟩, 0) := by
          unfold mFree lIdx
          simp only [hJ, lgetD, List.length_map]
          rw [hlt]
          repeat (first | rw [if_pos (by first | assumption | omega)] | rw [if_neg (by first | assumption | omega | (intro h0; first | exact absurd h0 (by assumption) | (simp_all; done)))])
          all_goals rfl
        refine ⟨⟨A1, c1, L4⟩, ?_, ?_, hS.outS (y := (⟨A1, c1, L4⟩ : Sl CLock)) (out_locksG (.head _) hS.res (fun x hx => ?_))⟩
        · have hll : S1.length = L4.length := by rw [hbL4, List.length_set]
          rw [hm]
          exact congrArg (fun q => Ending.returned (.tuple #[.slice A1 q c1, .agg #[.int .i64 0, .int .i64 y3.holder, .string emp], .int .i64 0])) hll
        · exact Eq.trans hvx (congrArg Prod.fst hm).symm
        · rw [hbL4] at hx
          rcases mem_set hx with hx | hx
          · subst hx; exact allR_sub (y := y3) (.tail _ (.head _)) (hS.res _ (.tail _ (.head _)))
          · exact ⟨hnm1 x hx, own_inL (.tail _ (.tail _ (.head _))) hS.res hx⟩
      | false =>
        have h3 := of_decide_eq_false h3
        refine c_if false rfl ?_
        refine c_seq ?_
        refine c_region ?_
        refine JL_run 6 [(2, .idx (oad A1) J.toNat), (4, .ext [.slice (S1.getD J.toNat default).line.A (S1.getD J.toNat default).line.n (S1.getD J.toNat default).line.c])] [49, 48, 11, 10, 7, 2] 1 ⟨[(49, vI who), (48, .v (.slice (S1.getD J.toNat default).line.A (S1.getD J.toNat default).line.n (S1.getD J.toNat default).line.c)), (11, vI J), (10, .v (.slice A1 S1.length c1)), (7, .p 0 0), (2, vI who)], [⟨26, [vI 0, vI 0, vS emp]⟩]⟩ [A1 = some (oad A1), J = ((J.toNat : Nat) : Int), J.toNat < S1.length] [(((oad A1).add (J.toNat * 4)).add 3, [.slice (S1.getD J.toNat default).line.A (S1.getD J.toNat default).line.n (S1.getD J.toNat default).line.c])] (by kernel_rfl) (oc (hrow1.1 J.toNat (by omega)) (oc (by omega) (oc (by omega) on))) (fun w hk hr => ⟨(rowA_fld (i := J.toNat) (hr _ (.tail _ (.head _))) (by omega) 3 1 rfl), trivial⟩) ?_
        refine l_pure 57 [] [.v (.slice (S1.getD J.toNat default).line.A (S1.getD J.toNat default).line.n (S1.getD J.toNat default).line.c), vI who] (.bool (((S1.getD J.toNat default).line.xs.take (S1.getD J.toNat default).line.n).any fun z => decide (z = who))) Try.call57 rfl rfl rfl rfl (fun bs w hS => ref_has (S1.getD J.toNat default).line (S1.getD J.toNat default).line.n who w (And.right (own_eltL (hS.res _ (.head _)) hnm1 (mem_of_getD (i := J.toNat) (by omega)))) (by omega)) ?_
        have hlh : (((S1.getD J.toNat default).line.xs.take (S1.getD J.toNat default).line.n).any fun z => decide (z = who)) = lHas (S1.getD J.toNat default).abs who := by rw [take_all (Nat.le_refl _)]; rfl
        rw [hlh]
        refine l_nil (q_then_normal ?_)
        cases h4 : lHas (S1.getD J.toNat default).abs who with
        | true =>
          refine c_if true rfl ?_
          refine c_region ?_
          refine JL_run 8 [(4, .idx (oad A1) J.toNat), (6, .ext [.slice (S1.getD J.toNat default).line.A (S1.getD J.toNat default).line.n (S1.getD J.toNat default).line.c])] [58, 57, 52, 51, 11, 10, 7] 1 ⟨[(58, vI who), (57, .v (.slice (S1.getD J.toNat default).line.A (S1.getD J.toNat default).line.n (S1.getD J.toNat default).line.c)), (52, vI J), (51, .v (.slice A1 S1.length c1)), (11, vI J), (10, .v (.slice A1 S1.length c1)), (7, .p 0 0)], [⟨26, [vI 0, vI 0, vS emp]⟩]⟩ [A1 = some (oad A1), J = ((J.toNat : Nat) : Int), J.toNat < S1.length] [(((oad A1).add (J.toNat * 4)).add 3, [.slice (S1.getD J.toNat default).line.A (S1.getD J.toNat default).line.n (S1.getD J.toNat default).line.c])] (by kernel_rfl) (oc (hrow1.1 J.toNat (by omega)) (oc (by omega) (oc (by omega) on))) (fun w hk hr => ⟨(rowA_fld (i := J.toNat) (hr _ (.tail _ (.head _))) (by omega) 3 1 rfl), trivial⟩) ?_
          refine l_sub_call (σ := Sl Int) 58 [] [.v (.slice (S1.getD J.toNat default).line.A (S1.getD J.toNat default).line.n (S1.getD J.toNat default).line.c), vI who] (fun y5 => .slice y5.A y5.n y5.c) (fun y5 => y5.xs = unline (S1.getD J.toNat default).line.xs who) Try.call58 rfl rfl rfl rfl (fun bs w hS => ref_unlined (S1.getD J.toNat default).line who w (And.right (own_eltL (hS.res _ (.head _)) hnm1 (mem_of_getD (i := J.toNat) (by omega)))) (by omega)) ?_
          rintro fp5 y5 hF5 hok5
          refine JL_run 2 [(0, .idx (oad A1) J.toNat)] [61, 59, 11, 10, 7] 1 ⟨[(61, .v (.pointer (some (((oad A1).add (J.toNat * 4)).add 3)))), (59, .v (.slice y5.A y5.n y5.c)), (11, vI J), (10, .v (.slice A1 S1.length c1)), (7, .p 0 0)], [⟨26, [vI 0, vI 0, vS emp]⟩]⟩ [A1 = some (oad A1), J = ((J.toNat : Nat) : Int), J.toNat < S1.length] [] (by kernel_rfl) (oc (hrow1.1 J.toNat (by omega)) (oc (by omega) (oc (by omega) on))) wn ?_
          refine l_perm (R' := [rowA 80 A1 c1 (S1 : List CLock), subR fp5 y5, ownL (lineR 3) S1]) (permfront 2 rfl) ?_
          refine l_storeA (α := CLock) 80 A1 c1 S1 J.toNat 3 (((oad A1).add (J.toNat * 4)).add 3) (.v (.slice y5.A y5.n y5.c)) [.v (.slice y5.A y5.n y5.c)] [.slice y5.A y5.n y5.c] (⟨(S1.getD J.toNat default).name, (S1.getD J.toNat default).holder, (S1.getD J.toNat default).fence, y5⟩ : CLock) rfl rfl rfl rfl rfl (by kernel_rfl) (by kernel_rfl) rfl (by omega) (by kernel_rfl) rfl rfl rfl ?_
          intro L6 hL6 hlL6
          have hgL6 : L6.getD J.toNat default = (⟨(S1.getD J.toNat default).name, (S1.getD J.toNat default).holder, (S1.getD J.toNat default).fence, y5⟩ : CLock) := by rw [hL6]; exact getD_set (by omega)
          have hbL6 : L6 = List.set S1 J.toNat (⟨(S1.getD J.toNat default).name, (S1.getD J.toNat default).holder, (S1.getD J.toNat default).fence, y5⟩ : CLock) := by rw [hL6]
          refine l_nil (q_then_normal ?_)
          refine c_seq ?_
          refine c_draw 10 [] (.p 0 (.p 1 (.p 2 (.p 3 (.p 4 (.q 5 (.p 6 (.p 7 (.b 8 (.p 9 .nil) .z))))))))) [0] [rowA 80 A1 c1 (L6 : List CLock), subR fp5 y5, ownL (lineR 3) S1] Try_mixed (by kernel_rfl) (pq_then pq_body) (List.Sublist.refl _) ?_
          refine h_quiet [(3, .idx (oad A1) J.toNat), (5, .ext [.int .i64 (S1.getD J.toNat default).holder])] [(0, true), (1, true), (2, true), (3, true), (4, true), (5, false), (6, true), (7, true)] [(6, .v (.slice A1 S1.length c1)), (75, .v (.agg #[.int .i64 0, .int .i64 (S1.getD J.toNat default).holder, .string emp])), (74, vI (S1.getD J.toNat default).holder), (73, .v (.pointer (some (((oad A1).add (J.toNat * 4)).add 1)))), (72, .v (.pointer (some ((oad A1).add (J.toNat * 4))))), (71, vI J), (70, .v (.slice A1 S1.length c1)), (69, .v (.slice A1 S1.length c1)), (61, .v (.pointer (some (((oad A1).add (J.toNat * 4)).add 3)))), (59, .v (.slice y5.A y5.n y5.c)), (11, vI J), (10, .v (.slice A1 S1.length c1)), (7, .p 0 0)] [A1 = some (oad A1), J = ((J.toNat : Nat) : Int), J.toNat < S1.length] [(((oad A1).add (J.toNat * 4)).add 1, [.int .i64 (S1.getD J.toNat default).holder])] rfl (by kernel_rfl) (oc (hrow1.1 J.toNat (by omega)) (oc (by omega) (oc (by omega) on))) (fun w hk hr => ⟨(rowA_fld (i := J.toNat) (hr _ (.head _)) (by omega) 1 1 (by rw [hgL6]; rfl)), trivial⟩) ?_
          refine h_local ⟨[(6, .v (.slice A1 S1.length c1)), (75, .v (.agg #[.int .i64 0, .int .i64 (S1.getD J.toNat default).holder, .string emp])), (74, vI (S1.getD J.toNat default).holder), (73, .v (.pointer (some (((oad A1).add (J.toNat * 4)).add 1)))), (72, .v (.pointer (some ((oad A1).add (J.toNat * 4))))), (71, vI J), (70, .v (.slice A1 S1.length c1)), (69, .v (.slice A1 S1.length c1)), (61, .v (.pointer (some (((oad A1).add (J.toNat * 4)).add 3)))), (59, .v (.slice y5.A y5.n y5.c)), (11, vI J), (10, .v (.slice A1 S1.length c1)), (7, .p 0 0)], [⟨26, [vI 0, vI (S1.getD J.toNat default).holder, vS emp]⟩]⟩ (by kernel_rfl) (fun bs0 bs w hp hl hS => hS.down hp hl rfl (le_mask le_nil) (List.Sublist.refl _)) ?_
          refine h_quiet [] [(9, true)] [(8, vI 0), (6, .v (.slice A1 S1.length c1)), (75, .v (.agg #[.int .i64 0, .int .i64 (S1.getD J.toNat default).holder, .string emp])), (74, vI (S1.getD J.toNat default).holder), (73, .v (.pointer (some (((oad A1).add (J.toNat * 4)).add 1)))), (72, .v (.pointer (some ((oad A1).add (J.toNat * 4))))), (71, vI J), (70, .v (.slice A1 S1.length c1)), (69, .v (.slice A1 S1.length c1)), (61, .v (.pointer (some (((oad A1).add (J.toNat * 4)).add 3)))), (59, .v (.slice y5.A y5.n y5.c)), (11, vI J), (10, .v (.slice A1 S1.length c1)), (7, .p 0 0)] [] [] rfl (by kernel_rfl) on wn ?_
          refine h_nil ?_
          refine l_nil (q_then_normal ?_)
          refine c_ret ?_
          refine q_ret (.inl rfl) [.v (.slice A1 S1.length c1), .v (.agg #[.int .i64 0, .int .i64 (S1.getD J.toNat default).holder, .string emp]), vI 0] rfl (fun bs w hS => ?_)
          have hask0 : mAsk (S1.map CLock.abs) t who = 0 := by rw [hF1]; assumption
          rw [← hF1]
          have hq1 : (S1.getD J.toNat default).abs.holder = (S1.getD J.toNat default).holder := rfl
          have hq2 : (S1.getD J.toNat default).abs.fence = (S1.getD J.toNat default).fence := rfl
          have hq3 : (S1.getD J.toNat default).abs.line = (S1.getD J.toNat default).line.xs := rfl
          have hq4 : (S1.getD J.toNat default).abs.name = (S1.getD J.toNat default).name := rfl
          have hvx := setL_map hbL6
          rw [show ((⟨(S1.getD J.toNat default).name, (S1.getD J.toNat default).holder, (S1.getD J.toNat default).fence, y5⟩ : CLock)).abs = ⟨(S1.getD J.toNat default).name, (S1.getD J.toNat default).holder, (S1.getD J.toNat default).fence, unline (S1.getD J.toNat default).line.xs who⟩ from congrArg (fun l => (⟨(S1.getD J.toNat default).name, (S1.getD J.toNat default).holder, (S1.getD J.toNat default).fence, l⟩ : DLock)) hF5] at hvx
          have hlt : lFree (S1.getD J.toNat default).abs who = (⟨(S1.getD J.toNat default).name, (S1.getD J.toNat default).holder, (S1.getD J.toNat default).fence, unline (S1.getD J.toNat default).line.xs who⟩, ⟨0, (S1.getD J.toNat default).holder, emp⟩) := by
            unfold lFree
            simp only [hq1, hq2, hq3, hq4]
            repeat (first | rw [if_pos (by first | assumption | omega)] | rw [if_neg (by first | assumption | omega | (rw [hlh]; simp; done) | (intro h0; simp_all; done))])
            all_goals first | rfl | exact congrArg (fun h : Int => (mPass (S1.getD J.toNat default).abs, (⟨0, h, emp⟩ : DReply))) (congrArg DLock.holder hpa).symm
          have hm : mFree (S1.map CLock.abs) t who = ((S1.map CLock.abs).set J.toNat ⟨(S1.getD J.toNat default).name, (S1.getD J.toNat default).holder, (S1.getD J.toNat default).fence, unline (S1.getD J.toNat default).line.xs who⟩, ⟨0, (S1.getD J.toNat default).holder, emp⟩, 0) := by
            unfold mFree lIdx
            simp only [hJ, lgetD, List.length_map]
            rw [hlt]
            repeat (first | rw [if_pos (by first | assumption | omega)] | rw [if_neg (by first | assumption | omega | (intro h0; first | exact absurd h0 (by assumption) | (simp_all; done)))])
            all_goals rfl
          refine ⟨⟨A1, c1, L6⟩, ?_, ?_, hS.outS (y := (⟨A1, c1, L6⟩ : Sl CLock)) (out_locksG (.head _) hS.res (fun x hx => ?_))⟩
          · have hll : S1.length = L6.length := by rw [hbL6, List.length_set]
            rw [hm]
            exact congrArg (fun q => Ending.returned (.tuple #[.slice A1 q c1, .agg #[.int .i64 0, .int .i64 (S1.getD J.toNat default).holder, .string emp], .int .i64 0])) hll
          · exact Eq.trans hvx (congrArg Prod.fst hm).symm
          · rw [hbL6] at hx
            rcases mem_set hx with hx | hx
            · subst hx; exact ⟨hnm1 (S1.getD J.toNat default) (mem_of_getD (L := S1) (i := J.toNat) (by omega)), allR_sub (y := y5) (.tail _ (.head _)) (hS.res _ (.tail _ (.head _)))⟩
            · exact ⟨hnm1 x hx, own_inL (.tail _ (.tail _ (.head _))) hS.res hx⟩
        | false =>
          refine c_if false rfl ?_
          refine c_seq ?_
          refine c_draw 10 [] (.p 0 (.p 1 (.p 2 (.p 3 (.p 4 (.q 5 (.p 6 (.p 7 (.b 8 (.p 9 .nil) .z))))))))) [0] [ownL (lineR 3) S1, rowA 80 A1 c1 (S1 : List CLock)] Try_mixed (by kernel_rfl) (pq_then (pq_then pq_body)) (List.Sublist.refl _) ?_
          refine h_quiet [(3, .idx (oad A1) J.toNat), (5, .ext [.int .i64 (S1.getD J.toNat default).holder])] [(0, true), (1, true), (2, true), (3, true), (4, true), (5, false), (6, true), (7, true)] [(6, .v (.slice A1 S1.length c1)), (68, .v (.agg #[.int .i64 10, .int .i64 (S1.getD J.toNat default).holder, .string emp])), (67, vI (S1.getD J.toNat default).holder), (66, .v (.pointer (some (((oad A1).add (J.toNat * 4)).add 1)))), (65, .v (.pointer (some ((oad A1).add (J.toNat * 4))))), (64, vI J), (63, .v (.slice A1 S1.length c1)), (62, .v (.slice A1 S1.length c1)), (50, vB false), (49, vI who), (48, .v (.slice (S1.getD J.toNat default).line.A (S1.getD J.toNat default).line.n (S1.getD J.toNat default).line.c)), (11, vI J), (10, .v (.slice A1 S1.length c1)), (7, .p 0 0), (2, vI who)] [A1 = some (oad A1), J = ((J.toNat : Nat) : Int), J.toNat < S1.length] [(((oad A1).add (J.toNat * 4)).add 1, [.int .i64 (S1.getD J.toNat default).holder])] rfl (by kernel_rfl) (oc (hrow1.1 J.toNat (by omega)) (oc (by omega) (oc (by omega) on))) (fun w hk hr => ⟨(rowA_fld (i := J.toNat) (hr _ (.tail _ (.head _))) (by omega) 1 1 rfl), trivial⟩) ?_
          refine h_local ⟨[(6, .v (.slice A1 S1.length c1)), (68, .v (.agg #[.int .i64 10, .int .i64 (S1.getD J.toNat default).holder, .string emp])), (67, vI (S1.getD J.toNat default).holder), (66, .v (.pointer (some (((oad A1).add (J.toNat * 4)).add 1)))), (65, .v (.pointer (some ((oad A1).add (J.toNat * 4))))), (64, vI J), (63, .v (.slice A1 S1.length c1)), (62, .v (.slice A1 S1.length c1)), (50, vB false), (49, vI who), (48, .v (.slice (S1.getD J.toNat default).line.A (S1.getD J.toNat default).line.n (S1.getD J.toNat default).line.c)), (11, vI J), (10, .v (.slice A1 S1.length c1)), (7, .p 0 0), (2, vI who)], [⟨26, [vI 10, vI (S1.getD J.toNat default).holder, vS emp]⟩]⟩ (by kernel_rfl) (fun bs0 bs w hp hl hS => hS.down hp hl rfl (le_mask le_nil) (List.Sublist.refl _)) ?_
          refine h_quiet [] [(9, true)] [(8, vI 0), (6, .v (.slice A1 S1.length c1)), (68, .v (.agg #[.int .i64 10, .int .i64 (S1.getD J.toNat default).holder, .string emp])), (67, vI (S1.getD J.toNat default).holder), (66, .v (.pointer (some (((oad A1).add (J.toNat * 4)).add 1)))), (65, .v (.pointer (some ((oad A1).add (J.toNat * 4))))), (64, vI J), (63, .v (.slice A1 S1.length c1)), (62, .v (.slice A1 S1.length c1)), (50, vB false), (49, vI who), (48, .v (.slice (S1.getD J.toNat default).line.A (S1.getD J.toNat default).line.n (S1.getD J.toNat default).line.c)), (11, vI J), (10, .v (.slice A1 S1.length c1)), (7, .p 0 0), (2, vI who)] [] [] rfl (by kernel_rfl) on wn ?_
          refine h_nil ?_
          refine l_nil (q_then_normal ?_)
          refine c_ret ?_
          refine q_then_ret (q_ret (.inl rfl) [.v (.slice A1 S1.length c1), .v (.agg #[.int .i64 10, .int .i64 (S1.getD J.toNat default).holder, .string emp]), vI 0] rfl (fun bs w hS => ?_))
          have hask0 : mAsk (S1.map CLock.abs) t who = 0 := by rw [hF1]; assumption
          rw [← hF1]
          have hq1 : (S1.getD J.toNat default).abs.holder = (S1.getD J.toNat default).holder := rfl
          have hq2 : (S1.getD J.toNat default).abs.fence = (S1.getD J.toNat default).fence := rfl
          have hq3 : (S1.getD J.toNat default).abs.line = (S1.getD J.toNat default).line.xs := rfl
          have hq4 : (S1.getD J.toNat default).abs.name = (S1.getD J.toNat default).name := rfl
          have hlt : lFree (S1.getD J.toNat default).abs who = ((S1.getD J.toNat default).abs, ⟨10, (S1.getD J.toNat default).holder, emp⟩) := by
            unfold lFree
            simp only [hq1, hq2, hq3, hq4]
            repeat (first | rw [if_pos (by first | assumption | omega)] | rw [if_neg (by first | assumption | omega | (rw [hlh]; simp; done) | (intro h0; simp_all; done))])
            all_goals first | rfl | exact congrArg (fun h : Int => (mPass (S1.getD J.toNat default).abs, (⟨0, h, emp⟩ : DReply))) (congrArg DLock.holder hpa).symm
          have hm : mFree (S1.map CLock.abs) t who = (S1.map CLock.abs, ⟨10, (S1.getD J.toNat default).holder, emp⟩, 0) := by
            unfold mFree lIdx
            simp only [hJ, lgetD, List.length_map]
            rw [hlt]
            repeat (first | rw [if_pos (by first | assumption | omega)] | rw [if_neg (by first | assumption | omega | (intro h0; first | exact absurd h0 (by assumption) | (simp_all; done)))])
            all_goals (show ((S1.map CLock.abs).set J.toNat (S1.getD J.toNat default).abs, _, _) = _; rw [← lgetD, set_getD (by rw [List.length_map]; omega)])
          refine ⟨⟨A1, c1, S1⟩, ?_, ?_, hS.outS (y := (⟨A1, c1, S1⟩ : Sl CLock)) (out_locksG (.tail _ (.head _)) hS.res (fun x hx => ?_))⟩
          · rw [hm] <;> rfl
          · exact (congrArg Prod.fst hm).symm
          · exact ⟨hnm1 x hx, own_inL (.head _) hS.res hx⟩
  | false =>
    have h1 := of_decide_eq_false h1
    refine c_if true rfl ?_
    refine c_seq ?_
    refine c_region ?_
    refine JL_run 5 [] [8, 6, 7] 1 ⟨[(8, vI (mAsk (s.xs.map CLock.abs) t who)), (6, .v (.slice none 0 0)), (7, .p 0 0)], [⟨26, [vI 0, vI 0, vS emp]⟩]⟩ [] [] (by kernel_rfl) on wn ?_
    refine l_nil (q_then_normal ?_)
    refine c_ret ?_
    refine q_then_ret (q_ret (.inl rfl) [.v (.slice none 0 0), .v (.agg #[.int .i64 0, .int .i64 0, .string emp]), vI (mAsk (s.xs.map CLock.abs) t who)] rfl (fun bs w hS => ?_))
    have hm : mFree (s.xs.map CLock.abs) t who = ([], zRep, mAsk (s.xs.map CLock.abs) t who) := by
      unfold mFree
      repeat (first | rw [if_pos (by first | assumption | omega)] | rw [if_neg (by first | assumption | omega | (intro h0; first | exact absurd h0 (by assumption) | (simp_all; done)))])
      all_goals rfl
    refine ⟨Sl.nil, ?_, ?_, hS.outS (Sl.rd_nil _ _)⟩
    · rw [hm] <;> rfl
    · rw [hm] <;> rfl

theorem law_LockFrees {B : Nat → Prop} (s : Sl CLock) (t : ByteArray) (who : Int) (w : World) (hs : s.rd B w) (ht : t.size ≤ 9223372036854775807) (hsm : Rds.small s) : Calls Try.prog 3 #[.slice s.A s.n s.c, .string t, .int .i64 who] w fun e w' => e = .returned (.bool true) ∧ Kp [] w w' := by
  have oks := Sl.rd.ok hs
  have ncs := Sl.ok.nc oks
  have hns : s.n = s.xs.length := rfl
  refine calls_J0 50 Try.func3 rfl rfl [.slice s.A s.n s.c, .string t, .int .i64 who] rfl ?_
  refine c_seq ?_
  refine c_region ?_
  refine JL_run 1 [] [0, 1, 2] 0 ⟨[(0, .v (.slice s.A s.n s.c)), (1, vS t), (2, vI who)], []⟩ [] [] (by kernel_rfl) on wn ?_
  refine l_nil (q_then_normal ?_)
  refine c_seq ?_
  refine c_region ?_
  refine JL_run 1 [] [14, 0, 1, 2] 0 ⟨[(14, .v (.slice s.A s.n s.c)), (0, .v (.slice s.A s.n s.c)), (1, vS t), (2, vI who)], []⟩ [] [] (by kernel_rfl) on wn ?_
  refine l_sub_call (σ := Sl CLock) 15 [] [.v (.slice s.A s.n s.c)] (fun y1 => .slice y1.A y1.n y1.c) (fun y1 => y1.xs.map CLock.abs = s.xs.map CLock.abs) Try.call15 rfl rfl rfl rfl (fun bs w hS => ref_LocksCopyS s w (Sl.rd.kp hs hS.kp) hsm) ?_
  rintro fp1 y1 hF1 hok1
  refine JL_run 1 [] [7, 0, 1, 2] 0 ⟨[(7, .v (.slice y1.A y1.n y1.c)), (0, .v (.slice s.A s.n s.c)), (1, vS t), (2, vI who)], []⟩ [] [] (by kernel_rfl) on wn ?_
  refine l_nil (q_then_normal ?_)
  refine c_seq ?_
  refine c_region ?_
  refine JL_run 3 [] [19, 18, 17, 7, 0, 1, 2] 0 ⟨[(19, vI who), (18, vS t), (17, .v (.slice y1.A y1.n y1.c)), (7, .v (.slice y1.A y1.n y1.c)), (0, .v (.slice s.A s.n s.c)), (1, vS t), (2, vI who)], []⟩ [] [] (by kernel_rfl) on wn ?_
  refine l_sub_call (σ := Sl CLock) 16 [] [.v (.slice y1.A y1.n y1.c), vS t, vI who] (fun y2 => .tuple #[.slice y2.A y2.n y2.c, .agg #[.int .i64 ((mFree (y1.xs.map CLock.abs) t who).2.1).code, .int .i64 ((mFree (y1.xs.map CLock.abs) t who).2.1).n, .string ((mFree (y1.xs.map CLock.abs) t who).2.1).text], .int .i64 ((mFree (y1.xs.map CLock.abs) t who).2.2)]) (fun y2 => y2.xs.map CLock.abs = (mFree (y1.xs.map CLock.abs) t who).1) Try.call16 rfl rfl rfl rfl (fun bs w hS => lock_Free y1 t who w (hS.res _ (.head _)) (by first | assumption | omega | (simp only [emp_size]; omega))) ?_
  rintro fp2 y2 hF2 hok2
  refine JL_run 8 [] [10, 8, 9, 7, 0, 1, 2] 1 ⟨[(10, vI ((mFree (y1.xs.map CLock.abs) t who).2.2)), (8, .v (.slice y2.A y2.n y2.c)), (9, .p 0 0), (7, .v (.slice y1.A y1.n y1.c)), (0, .v (.slice s.A s.n s.c)), (1, vS t), (2, vI who)], [⟨26, [vI ((mFree (y1.xs.map CLock.abs) t who).2.1).code, vI ((mFree (y1.xs.map CLock.abs) t who).2.1).n, vS ((mFree (y1.xs.map CLock.abs) t who).2.1).text]⟩]⟩ [] [] (by kernel_rfl) on wn ?_
  refine l_nil (q_then_normal ?_)
  refine c_seq ?_
  refine c_region ?_
  refine JL_run 3 [] [27, 26, 25, 10, 8, 9, 7, 0] 1 ⟨[(27, vI who), (26, vS t), (25, .v (.slice s.A s.n s.c)), (10, vI ((mFree (y1.xs.map CLock.abs) t who).2.2)), (8, .v (.slice y2.A y2.n y2.c)), (9, .p 0 0), (7, .v (.slice y1.A y1.n y1.c)), (0, .v (.slice s.A s.n s.c))], [⟨26, [vI ((mFree (y1.xs.map CLock.abs) t who).2.1).code, vI ((mFree (y1.xs.map CLock.abs) t who).2.1).n, vS ((mFree (y1.xs.map CLock.abs) t who).2.1).text]⟩]⟩ [] [] (by kernel_rfl) on wn ?_
  refine l_sub_call (σ := Sl CLock) 17 [] [.v (.slice s.A s.n s.c), vS t, vI who] (fun y3 => .tuple #[.slice y3.A y3.n y3.c, .agg #[.int .i64 ((mFree (s.xs.map CLock.abs) t who).2.1).code, .int .i64 ((mFree (s.xs.map CLock.abs) t who).2.1).n, .string ((mFree (s.xs.map CLock.abs) t who).2.1).text], .int .i64 ((mFree (s.xs.map CLock.abs) t who).2.2)]) (fun y3 => y3.xs.map CLock.abs = (mFree (s.xs.map CLock.abs) t who).1) Try.call17 rfl rfl rfl rfl (fun bs w hS => ref_FreedOf s t who w (Sl.rd.kp hs hS.kp) (by first | assumption | omega | (simp only [emp_size]; omega))) ?_
  rintro fp3 y3 hF3 hok3
  refine JL_run 8 [] [13, 11, 12, 10, 8, 9, 7, 0] 2 ⟨[(13, vI ((mFree (s.xs.map CLock.abs) t who).2.2)), (11, .v (.slice y3.A y3.n y3.c)), (12, .p 1 0), (10, vI ((mFree (y1.xs.map CLock.abs) t who).2.2)), (8, .v (.slice y2.A y2.n y2.c)), (9, .p 0 0), (7, .v (.slice y1.A y1.n y1.c)), (0, .v (.slice s.A s.n s.c))], [⟨26, [vI ((mFree (y1.xs.map CLock.abs) t who).2.1).code, vI ((mFree (y1.xs.map CLock.abs) t who).2.1).n, vS ((mFree (y1.xs.map CLock.abs) t who).2.1).text]⟩, ⟨26, [vI ((mFree (s.xs.map CLock.abs) t who).2.1).code, vI ((mFree (s.xs.map CLock.abs) t who).2.1).n, vS ((mFree (s.xs.map CLock.abs) t who).2.1).text]⟩]⟩ [] [] (by kernel_rfl) on wn ?_
  refine l_nil (q_then_normal ?_)
  refine c_seq ?_
  refine c_region ?_
  refine JL_run 4 [(2, .val (.bool ((decide (((mFree (y1.xs.map CLock.abs) t who).2.1).code = ((mFree (s.xs.map CLock.abs) t who).2.1).code)) && ((decide (((mFree (y1.xs.map CLock.abs) t who).2.1).n = ((mFree (s.xs.map CLock.abs) t who).2.1).n)) && ((decide (((mFree (y1.xs.map CLock.abs) t who).2.1).text = ((mFree (s.xs.map CLock.abs) t who).2.1).text)) && true)))))] [35, 13, 11, 10, 8, 7, 0] 0 ⟨[(35, vB ((decide (((mFree (y1.xs.map CLock.abs) t who).2.1).code = ((mFree (s.xs.map CLock.abs) t who).2.1).code)) && ((decide (((mFree (y1.xs.map CLock.abs) t who).2.1).n = ((mFree (s.xs.map CLock.abs) t who).2.1).n)) && ((decide (((mFree (y1.xs.map CLock.abs) t who).2.1).text = ((mFree (s.xs.map CLock.abs) t who).2.1).text)) && true)))), (13, vI ((mFree (s.xs.map CLock.abs) t who).2.2)), (11, .v (.slice y3.A y3.n y3.c)), (10, vI ((mFree (y1.xs.map CLock.abs) t who).2.2)), (8, .v (.slice y2.A y2.n y2.c)), (7, .v (.slice y1.A y1.n y1.c)), (0, .v (.slice s.A s.n s.c))], []⟩ [∀ w, (do eqGuard .eql 26 (.tmp 32) (.tmp 33) (.agg #[.int .i64 ((mFree (y1.xs.map CLock.abs) t who).2.1).code, .int .i64 ((mFree (y1.xs.map CLock.abs) t who).2.1).n, .string ((mFree (y1.xs.map CLock.abs) t who).2.1).text]) (.agg #[.int .i64 ((mFree (s.xs.map CLock.abs) t who).2.1).code, .int .i64 ((mFree (s.xs.map CLock.abs) t who).2.1).n, .string ((mFree (s.xs.map CLock.abs) t who).2.1).text]); binOp .eql 26 (.agg #[.int .i64 ((mFree (y1.xs.map CLock.abs) t who).2.1).code, .int .i64 ((mFree (y1.xs.map CLock.abs) t who).2.1).n, .string ((mFree (y1.xs.map CLock.abs) t who).2.1).text]) (.agg #[.int .i64 ((mFree (s.xs.map CLock.abs) t who).2.1).code, .int .i64 ((mFree (s.xs.map CLock.abs) t who).2.1).n, .string ((mFree (s.xs.map CLock.abs) t who).2.1).text]) : Sem Value).run Try.prog w = .ok (.bool ((decide (((mFree (y1.xs.map CLock.abs) t who).2.1).code = ((mFree (s.xs.map CLock.abs) t who).2.1).code)) && ((decide (((mFree (y1.xs.map CLock.abs) t who).2.1).n = ((mFree (s.xs.map CLock.abs) t who).2.1).n)) && ((decide (((mFree (y1.xs.map CLock.abs) t who).2.1).text = ((mFree (s.xs.map CLock.abs) t who).2.1).text)) && true)))) w] [] (by kernel_rfl) (oc (eq_agg (by kernel_rfl) (by kernel_rfl)) on) wn ?_
  cases h1 : (decide (((mFree (y1.xs.map CLock.abs) t who).2.1).code = ((mFree (s.xs.map CLock.abs) t who).2.1).code)) && ((decide (((mFree (y1.xs.map CLock.abs) t who).2.1).n = ((mFree (s.xs.map CLock.abs) t who).2.1).n)) && ((decide (((mFree (y1.xs.map CLock.abs) t who).2.1).text = ((mFree (s.xs.map CLock.abs) t who).2.1).text)) && true)) with
  | true =>
    refine JL_run 5 [] [40, 11, 8, 7, 0] 0 ⟨[(40, vB (decide ((mFree (y1.xs.map CLock.abs) t who).2.2 = (mFree (s.xs.map CLock.abs) t who).2.2))), (11, .v (.slice y3.A y3.n y3.c)), (8, .v (.slice y2.A y2.n y2.c)), (7, .v (.slice y1.A y1.n y1.c)), (0, .v (.slice s.A s.n s.c))], []⟩ [] [] (by kernel_rfl) on wn ?_
    cases h2 : decide ((mFree (y1.xs.map CLock.abs) t who).2.2 = (mFree (s.xs.map CLock.abs) t who).2.2) with
    | true =>
      have h2 := of_decide_eq_true h2
      refine JL_run 2 [] [42, 41, 40, 7, 0] 0 ⟨[(42, .v (.slice y3.A y3.n y3.c)), (41, .v (.slice y2.A y2.n y2.c)), (40, vB true), (7, .v (.slice y1.A y1.n y1.c)), (0, .v (.slice s.A s.n s.c))], []⟩ [] [] (by kernel_rfl) on wn ?_
      refine l_pure 18 [] [.v (.slice y2.A y2.n y2.c), .v (.slice y3.A y3.n y3.c)] (.bool true) Try.call18 rfl rfl rfl rfl (fun bs w hS => same_locks _ _ w (hS.res _ (.tail _ (.head _))) (hS.res _ (.head _)) (by rw [hF2, hF3, hF1])) ?_
      refine JL_run 4 [] [47, 46, 45] 0 ⟨[(47, .v (.slice s.A s.n s.c)), (46, .v (.slice y1.A y1.n y1.c)), (45, vB true)], []⟩ [] [] (by kernel_rfl) on wn ?_
      refine l_pure 18 [] [.v (.slice y1.A y1.n y1.c), .v (.slice s.A s.n s.c)] (.bool true) Try.call18 rfl rfl rfl rfl (fun bs w hS => same_locks _ _ w (hS.res _ (.tail _ (.tail _ (.head _)))) (Sl.rd.kp hs hS.kp) hF1) ?_
      refine JL_run 2 [] [6] 0 ⟨[(6, vB true)], []⟩ [] [] (by kernel_rfl) on wn ?_
      refine l_nil (q_then_normal ?_)
      refine c_ret ?_
      refine q_ret (.inl rfl) [vB true] rfl (fun bs w hS => ?_)
      refine ⟨?_, hS.kp⟩
      simp [retOf, den]
    | false =>
      have h2 := of_decide_eq_false h2
      exfalso; first | (simp at h2; done) | (rw [hF1] at h2; simp at h2; done)
  | false =>
    exfalso; first | (simp at h1; done) | (rw [hF1] at h1; simp at h1; done)

end Go.Proofs.Ytececkgjacccmad.W
