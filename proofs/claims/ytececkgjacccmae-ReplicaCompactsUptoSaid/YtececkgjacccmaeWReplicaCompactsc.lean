/-
  The functions that the law ReplicaCompacts reaches, walked: each returns what its model says.
  Conditions: those that each theorem states.
-/
import Derived.Test.YtececkgjacccmaeWReplicaCompactsb
set_option linter.unusedVariables false
set_option linter.unusedSimpArgs false
set_option maxRecDepth 100000
namespace Go.Proofs.Ytececkgjacccmae.W
open Go.Proofs.Ytececkgjacccmae.Fw Go.RowKit

theorem pair_Check {B : Nat → Prop} (s : Sl DPair) (w : World) (hs : s.rd B w) : Calls Try.prog 60 #[.slice s.A s.n s.c] w fun e w' => e = .returned (.int .i64 (mPairs s.xs)) ∧ Kp [] w w' := by
 have oks := Sl.rd.ok hs
 have ncs := Sl.ok.nc oks
 have hns : s.n = s.xs.length := rfl
 refine calls_J0 45 Try.func60 rfl rfl [.slice s.A s.n s.c] rfl ?_
 refine Cs (Cg (Jq 1 [0] 0 ⟨[(0, .v s.val)], []⟩ (Ln (Qn (Cs (Cs (Cg (Jq 3 [7, 0] 0 ⟨[(7, vB (decide ((5 : Int) < ((s.n : Nat) : Int)))), (0, .v s.val)], []⟩ (Ln (Qn ?_))))))))))
 cases h1 : decide ((5 : Int) < ((s.n : Nat) : Int)) with
 | true =>
  have h1 := of_decide_eq_true h1
  refine Ci true rfl (Cs (Cg (Jq 1 [2] 0 ⟨[(2, vI 1)], []⟩ (Ln (Qn (Cr (Qr (Rt (.inl rfl) [vI 1] rfl (fun bs w hS => (⟨?_, hS.kp⟩))))))))))
  simp only [retOf, den, List.map_cons, List.map_nil]
  have hm : mPairs s.xs = 1 := by
   unfold mPairs; rw [if_pos (by omega)]
  rw [hm]
 | false =>
  have h1 := of_decide_eq_false h1
  refine Ci false rfl (Ck (Qn (Cs (Cs (Cg (Jq 3 [10, 9, 8, 0] 0 ⟨[(10, vI 0), (9, vI ((s.n : Nat) : Int)), (8, .v s.val), (0, .v s.val)], []⟩ (Ln (Qn (Cb (Cl (σ := Nat) (fun i => i ≤ s.n ∧ mPairs s.xs = firstF (pairF s.xs) (s.n - i) i) (fun i => s.n - i) (fun i => []) (fun i => ⟨[(10, vI (i : Int)), (9, vI ((s.n : Nat) : Int)), (8, .v s.val), (0, .v s.val)], []⟩) 0 ⟨Nat.zero_le _, by unfold mPairs; rw [if_neg (by omega)]⟩ (Ss [10, 9, 8, 0] 0 (by kernel_rfl) rfl) ?_))))))))))
  rintro i ⟨hi, hI⟩
  have hlt := hi
  refine Cs (Cg (Jq 1 [11, 10, 9, 8, 0] 0 ⟨[(11, vB (decide ((i : Int) < ((s.n : Nat) : Int)))), (10, vI (i : Int)), (9, vI ((s.n : Nat) : Int)), (8, .v s.val), (0, .v s.val)], []⟩ (Ln (Qn (Cs ?_)))))
  cases h2 : decide ((i : Int) < ((s.n : Nat) : Int)) with
  | true =>
   have h2 := of_decide_eq_true h2
   refine Ci true rfl (Ck (Qn (Cs (Cb (Cs (Cg (Jr 6 [(1, .idx s.ad i), (2, .ext [.string (s.at i).name, .string (s.at i).value, .int .i64 (s.at i).version])] [3, 4, 10, 9, 8, 0] 1 ⟨[(3, vI (i : Int)), (4, .p 0 0), (10, vI (i : Int)), (9, vI ((s.n : Nat) : Int)), (8, .v s.val), (0, .v s.val)], [⟨77, (s.at i).cs⟩]⟩ [s.A = some s.ad, (i : Int) = (i : Int), i < s.n] [(s.ad.add (i * 3), [.string (s.at i).name, .string (s.at i).value, .int .i64 (s.at i).version])] (by kernel_rfl) (oc (Sl.ok.own (s := s) (i := i) oks (by omega)) (oc rfl (oc (by omega) on))) (fun w hk hr => ⟨(Sl.rd.all (s := s) (i := i) (Sl.rd.kp hs hk) (by omega) rfl), trivial⟩) (Ln (Qn (Cs (Cs (Cg (Jq 2 [16, 3, 4, 10, 9, 8, 0] 1 ⟨[(16, vS (s.at i).name), (3, vI (i : Int)), (4, .p 0 0), (10, vI (i : Int)), (9, vI ((s.n : Nat) : Int)), (8, .v s.val), (0, .v s.val)], [⟨77, (s.at i).cs⟩]⟩ (Lp 83 [] [vS (s.at i).name] (.bool (mName (s.at i).name)) Try.call83 rfl rfl rfl rfl (fun bs w hS => lock_Name _ w (And.left (Sl.ok.at (s := s) (i := i) oks (by omega)))) (Jq 1 [18, 3, 4, 10, 9, 8, 0] 1 ⟨[(18, vB (!(mName (s.at i).name))), (3, vI (i : Int)), (4, .p 0 0), (10, vI (i : Int)), (9, vI ((s.n : Nat) : Int)), (8, .v s.val), (0, .v s.val)], [⟨77, (s.at i).cs⟩]⟩ (Ln (Qn ?_)))))))))))))))))
   cases h3 : mName (s.at i).name with
   | true =>
    refine Ci false rfl (Ck (Qn (Cs (Cs (Cg (Jq 4 [22, 3, 4, 10, 9, 8, 0] 1 ⟨[(22, vB (decide ((12 : Int) < ((s.at i).value.size : Int)))), (3, vI (i : Int)), (4, .p 0 0), (10, vI (i : Int)), (9, vI ((s.n : Nat) : Int)), (8, .v s.val), (0, .v s.val)], [⟨77, (s.at i).cs⟩]⟩ (Ln (Qn ?_))))))))
    cases h4 : decide ((12 : Int) < ((s.at i).value.size : Int)) with
    | true =>
     have h4 := of_decide_eq_true h4
     refine Ci true rfl (Cs (Cg (Jq 1 [2] 0 ⟨[(2, vI 1)], []⟩ (Ln (Qn (Cr (Qr (Qb (Qr (Qr (Qb (Qr (Rt (.inl rfl) [vI 1] rfl (fun bs w hS => (⟨?_, hS.kp⟩)))))))))))))))
     simp only [retOf, den, List.map_cons, List.map_nil]
     have hf : pairF s.xs i = 1 := by
      have hat : ∀ q, s.xs.getD q default = s.at q := fun _ => rfl
      unfold pairF
      simp only [hat]
      try simp only [h1, h2, h3, h4, emp_size, ne_eq, not_true_eq_false, not_false_eq_true, true_or, or_true, false_or, or_false, and_true, true_and, and_false, false_and, and_self, or_self, if_true, if_false, Bool.true_eq_false, Bool.false_eq_true, reduceIte, Classical.not_not, Bool.and_eq_true, decide_eq_true_eq]
      repeat (first | rw [if_pos (by omega)] | rw [if_neg (by omega)])
      all_goals first | rfl | (exfalso; omega)
     rw [hI, firstF_here (by omega) hf (by omega)]
    | false =>
     have h4 := of_decide_eq_false h4
     refine Ci false rfl (Ck (Qn (Cs (Cs (Cg (Jq 4 [26, 3, 4, 10, 9, 8, 0] 1 ⟨[(26, vB (decide ((s.at i).version < 1))), (3, vI (i : Int)), (4, .p 0 0), (10, vI (i : Int)), (9, vI ((s.n : Nat) : Int)), (8, .v s.val), (0, .v s.val)], [⟨77, (s.at i).cs⟩]⟩ ?_))))))
     cases h5 : decide ((s.at i).version < 1) with
     | true =>
      have h5 := of_decide_eq_true h5
      refine Jq 4 [30, 3, 4, 10, 9, 8, 0] 1 ⟨[(30, vB true), (3, vI (i : Int)), (4, .p 0 0), (10, vI (i : Int)), (9, vI ((s.n : Nat) : Int)), (8, .v s.val), (0, .v s.val)], [⟨77, (s.at i).cs⟩]⟩ (Ln (Qn (Ci true rfl (Cs (Cg (Jq 1 [2] 0 ⟨[(2, vI 2)], []⟩ (Ln (Qn (Cr (Qr (Qb (Qr (Qr (Qb (Qr (Rt (.inl rfl) [vI 2] rfl (fun bs w hS => (⟨?_, hS.kp⟩))))))))))))))))))
      simp only [retOf, den, List.map_cons, List.map_nil]
      have hf : pairF s.xs i = 2 := by
       have hat : ∀ q, s.xs.getD q default = s.at q := fun _ => rfl
       unfold pairF
       simp only [hat]
       try simp only [h1, h2, h3, h4, h5, emp_size, ne_eq, not_true_eq_false, not_false_eq_true, true_or, or_true, false_or, or_false, and_true, true_and, and_false, false_and, and_self, or_self, if_true, if_false, Bool.true_eq_false, Bool.false_eq_true, reduceIte, Classical.not_not, Bool.and_eq_true, decide_eq_true_eq]
       repeat (first | rw [if_pos (by omega)] | rw [if_neg (by omega)])
       all_goals first | rfl | (exfalso; omega)
      rw [hI, firstF_here (by omega) hf (by omega)]
     | false =>
      have h5 := of_decide_eq_false h5
      refine Jq 4 [30, 3, 4, 10, 9, 8, 0] 1 ⟨[(30, vB (decide ((1073741824 : Int) < (s.at i).version))), (3, vI (i : Int)), (4, .p 0 0), (10, vI (i : Int)), (9, vI ((s.n : Nat) : Int)), (8, .v s.val), (0, .v s.val)], [⟨77, (s.at i).cs⟩]⟩ (Ln (Qn ?_))
      cases h6 : decide ((1073741824 : Int) < (s.at i).version) with
      | true =>
       have h6 := of_decide_eq_true h6
       refine Ci true rfl (Cs (Cg (Jq 1 [2] 0 ⟨[(2, vI 2)], []⟩ (Ln (Qn (Cr (Qr (Qb (Qr (Qr (Qb (Qr (Rt (.inl rfl) [vI 2] rfl (fun bs w hS => (⟨?_, hS.kp⟩)))))))))))))))
       simp only [retOf, den, List.map_cons, List.map_nil]
       have hf : pairF s.xs i = 2 := by
        have hat : ∀ q, s.xs.getD q default = s.at q := fun _ => rfl
        unfold pairF
        simp only [hat]
        try simp only [h1, h2, h3, h4, h5, h6, emp_size, ne_eq, not_true_eq_false, not_false_eq_true, true_or, or_true, false_or, or_false, and_true, true_and, and_false, false_and, and_self, or_self, if_true, if_false, Bool.true_eq_false, Bool.false_eq_true, reduceIte, Classical.not_not, Bool.and_eq_true, decide_eq_true_eq]
        repeat (first | rw [if_pos (by omega)] | rw [if_neg (by omega)])
        all_goals first | rfl | (exfalso; omega)
       rw [hI, firstF_here (by omega) hf (by omega)]
      | false =>
       have h6 := of_decide_eq_false h6
       refine Ci false rfl (Ck (Qn (Cs (Cd 13 [] (.p 0 (.p 1 (.p 2 (.p 3 (.p 4 (.p 5 (.p 6 (.p 7 (.q 8 (.p 9 (.q 10 (.p 11 (.p 12 .nil))))))))))))) [] [] Try_mixed (by kernel_rfl) (pq_then (pq_block (pq_then (pq_then (pq_block (pq_then pq_body)))))) .slnil (Hq [] [(0, true), (1, true), (2, true)] [(33, vB (decide ((0 : Int) < (i : Int)))), (32, vB (decide ((0 : Int) < (i : Int)))), (31, vI (i : Int)), (30, vB false), (3, vI (i : Int)), (4, .p 0 0), (10, vI (i : Int)), (9, vI ((s.n : Nat) : Int)), (8, .v s.val), (0, .v s.val)] [] [] rfl (by kernel_rfl) on wn ?_)))))
       cases h7 : decide ((0 : Int) < (i : Int)) with
       | true =>
        have h7 := of_decide_eq_true h7
        refine Hq [(6, .idx s.ad (i - 1)), (8, .ext [.string (s.at (i - 1)).name])] [(3, true), (4, true), (5, true), (6, true), (7, true), (8, false), (9, true), (10, false), (11, true), (12, true)] [(43, vB (!(Op.bytesLess ((s.at (i - 1)).name).toList ((s.at i).name).toList))), (42, vB (!(Op.bytesLess ((s.at (i - 1)).name).toList ((s.at i).name).toList))), (41, vS (s.at i).name), (40, .p 0 0), (39, vS (s.at (i - 1)).name), (38, .v (.pointer (some ((s.ad.add ((i - 1) * 3)).add 0)))), (37, .v (.pointer (some (s.ad.add ((i - 1) * 3))))), (36, vI ((i : Int) - 1)), (35, vI (i : Int)), (34, .v s.val), (33, vB true), (32, vB true), (31, vI (i : Int)), (30, vB false), (3, vI (i : Int)), (4, .p 0 0), (10, vI (i : Int)), (9, vI ((s.n : Nat) : Int)), (8, .v s.val), (0, .v s.val)] [inR ((i : Int) - 1), s.A = some s.ad, (i : Int) - 1 = (((i - 1) : Nat) : Int), (i - 1) < s.n] [((s.ad.add ((i - 1) * 3)).add 0, [.string (s.at (i - 1)).name])] rfl (by kernel_rfl) (oc (by unfold inR; omega) (oc (Sl.ok.own (s := s) (i := (i - 1)) oks (by omega)) (oc (by omega) (oc (by omega) on)))) (fun w hk hr => ⟨(Sl.rd.fld (s := s) (i := (i - 1)) (Sl.rd.kp hs hk) (by omega) 0 1 rfl), trivial⟩) ?_
        refine Hn (Ln (Qn ?_))
        cases h8 : Op.bytesLess ((s.at (i - 1)).name).toList ((s.at i).name).toList with
        | true =>
         refine Ci false rfl (Ck (q_block_normal (Qn (Cg (Jr 2 [] [10, 9, 8, 0] 0 ⟨[(10, vI ((i : Int) + 1)), (9, vI ((s.n : Nat) : Int)), (8, .v s.val), (0, .v s.val)], []⟩ [inR ((i : Int) + 1)] [] (by kernel_rfl) (oc (by unfold inR; omega) on) wn ?_)))))
         have hf0 : pairF s.xs i = 0 := by
          have hat : ∀ q, s.xs.getD q default = s.at q := fun _ => rfl
          unfold pairF
          simp only [hat]
          try simp only [h1, h2, h3, h4, h5, h6, h7, h8, emp_size, ne_eq, not_true_eq_false, not_false_eq_true, true_or, or_true, false_or, or_false, and_true, true_and, and_false, false_and, and_self, or_self, if_true, if_false, Bool.true_eq_false, Bool.false_eq_true, reduceIte, Classical.not_not, Bool.and_eq_true, decide_eq_true_eq]
          repeat (first | rw [if_pos (by omega)] | rw [if_neg (by omega)])
          all_goals first | rfl | (exfalso; omega)
         refine Ln (q_loop (x := (i : Nat)) ((i + 1) : Nat) ⟨by omega, by rw [hI]; exact firstF_step (by omega) hf0⟩ (by omega) (Ss [10, 9, 8, 0] 0 (by kernel_rfl) rfl))
        | false =>
         refine Ci true rfl (Cs (Cg (Jq 1 [2] 0 ⟨[(2, vI 14)], []⟩ (Ln (Qn (Cr (Qb (Qr (Qr (Qb (Qr (Rt (.inl rfl) [vI 14] rfl (fun bs w hS => (⟨?_, hS.kp⟩))))))))))))))
         simp only [retOf, den, List.map_cons, List.map_nil]
         have hf : pairF s.xs i = 14 := by
          have hat : ∀ q, s.xs.getD q default = s.at q := fun _ => rfl
          unfold pairF
          simp only [hat]
          try simp only [h1, h2, h3, h4, h5, h6, h7, h8, emp_size, ne_eq, not_true_eq_false, not_false_eq_true, true_or, or_true, false_or, or_false, and_true, true_and, and_false, false_and, and_self, or_self, if_true, if_false, Bool.true_eq_false, Bool.false_eq_true, reduceIte, Classical.not_not, Bool.and_eq_true, decide_eq_true_eq]
          repeat (first | rw [if_pos (by omega)] | rw [if_neg (by omega)])
          all_goals first | rfl | (exfalso; omega)
         rw [hI, firstF_here (by omega) hf (by omega)]
       | false =>
        have h7 := of_decide_eq_false h7
        refine Hq [] [(3, true), (4, true), (5, true), (6, true), (7, true), (8, false), (9, true), (10, false), (11, true), (12, true)] [(43, vB false), (42, .v (undef)), (41, .v (undef)), (40, .v (undef)), (39, .v (undef)), (38, .v (undef)), (37, .v (undef)), (36, .v (undef)), (35, .v (undef)), (34, .v (undef)), (33, vB false), (32, vB false), (31, vI (i : Int)), (30, vB false), (3, vI (i : Int)), (4, .p 0 0), (10, vI (i : Int)), (9, vI ((s.n : Nat) : Int)), (8, .v s.val), (0, .v s.val)] [] [] rfl (by kernel_rfl) on wn ?_
        refine Hn (Ln (Qn (Ci false rfl (Ck (q_block_normal (Qn (Cg (Jr 2 [] [10, 9, 8, 0] 0 ⟨[(10, vI ((i : Int) + 1)), (9, vI ((s.n : Nat) : Int)), (8, .v s.val), (0, .v s.val)], []⟩ [inR ((i : Int) + 1)] [] (by kernel_rfl) (oc (by unfold inR; omega) on) wn ?_))))))))
        have hf0 : pairF s.xs i = 0 := by
         have hat : ∀ q, s.xs.getD q default = s.at q := fun _ => rfl
         unfold pairF
         simp only [hat]
         try simp only [h1, h2, h3, h4, h5, h6, h7, emp_size, ne_eq, not_true_eq_false, not_false_eq_true, true_or, or_true, false_or, or_false, and_true, true_and, and_false, false_and, and_self, or_self, if_true, if_false, Bool.true_eq_false, Bool.false_eq_true, reduceIte, Classical.not_not, Bool.and_eq_true, decide_eq_true_eq]
         repeat (first | rw [if_pos (by omega)] | rw [if_neg (by omega)])
         all_goals first | rfl | (exfalso; omega)
        refine Ln (q_loop (x := (i : Nat)) ((i + 1) : Nat) ⟨by omega, by rw [hI]; exact firstF_step (by omega) hf0⟩ (by omega) (Ss [10, 9, 8, 0] 0 (by kernel_rfl) rfl))
   | false =>
    refine Ci true rfl (Cs (Cg (Jq 1 [2] 0 ⟨[(2, vI 4)], []⟩ (Ln (Qn (Cr (Qr (Qb (Qr (Qr (Qb (Qr (Rt (.inl rfl) [vI 4] rfl (fun bs w hS => (⟨?_, hS.kp⟩)))))))))))))))
    simp only [retOf, den, List.map_cons, List.map_nil]
    have hf : pairF s.xs i = 4 := by
     have hat : ∀ q, s.xs.getD q default = s.at q := fun _ => rfl
     unfold pairF
     simp only [hat]
     try simp only [h1, h2, h3, emp_size, ne_eq, not_true_eq_false, not_false_eq_true, true_or, or_true, false_or, or_false, and_true, true_and, and_false, false_and, and_self, or_self, if_true, if_false, Bool.true_eq_false, Bool.false_eq_true, reduceIte, Classical.not_not, Bool.and_eq_true, decide_eq_true_eq]
     repeat (first | rw [if_pos (by omega)] | rw [if_neg (by omega)])
     all_goals first | rfl | (exfalso; omega)
    rw [hI, firstF_here (by omega) hf (by omega)]
  | false =>
   have h2 := of_decide_eq_false h2
   refine Ci false rfl (c_exit (Qe (Qe (Qh (Qn (Cs (Cg (Jq 1 [2] 0 ⟨[(2, vI 0)], []⟩ (Ln (Qn (Cr (Rt (.inl rfl) [vI 0] rfl (fun bs w hS => (⟨?_, hS.kp⟩))))))))))))))
   simp only [retOf, den, List.map_cons, List.map_nil]
   rw [hI, firstF_end (by omega)]

theorem ref_PairsFault {B : Nat → Prop} (s : Sl DPair) (w : World) (hs : s.rd B w) : Calls Try.prog 68 #[.slice s.A s.n s.c] w fun e w' => e = .returned (.int .i64 (mPairs s.xs)) ∧ Kp [] w w' := by
 have oks := Sl.rd.ok hs
 have ncs := Sl.ok.nc oks
 have hns : s.n = s.xs.length := rfl
 refine calls_J0 50 Try.func68 rfl rfl [.slice s.A s.n s.c] rfl ?_
 refine Cs (Cg (Jq 1 [0] 0 ⟨[(0, .v s.val)], []⟩ (Ln (Qn (Cs (Cs (Cg (Jq 3 [6, 0] 0 ⟨[(6, vB (decide ((5 : Int) < ((s.n : Nat) : Int)))), (0, .v s.val)], []⟩ (Ln (Qn ?_))))))))))
 cases h1 : decide ((5 : Int) < ((s.n : Nat) : Int)) with
 | true =>
  have h1 := of_decide_eq_true h1
  refine Ci true rfl (Cs (Cg (Jq 1 [2] 0 ⟨[(2, vI 1)], []⟩ (Ln (Qn (Cr (Qr (Rt (.inl rfl) [vI 1] rfl (fun bs w hS => (⟨?_, hS.kp⟩))))))))))
  simp only [retOf, den, List.map_cons, List.map_nil]
  have hm : mPairs s.xs = 1 := by
   unfold mPairs; rw [if_pos (by omega)]
  rw [hm]
 | false =>
  have h1 := of_decide_eq_false h1
  refine Ci false rfl (Ck (Qn (Cs (Cs (Cg (Jq 1 [3, 0] 0 ⟨[(3, vI 0), (0, .v s.val)], []⟩ (Ln (Qn (Cb (Cl (σ := Nat) (fun i => i ≤ s.n ∧ mPairs s.xs = firstF (pairF s.xs) (s.n - i) i) (fun i => s.n - i) (fun i => []) (fun i => ⟨[(3, vI (i : Int)), (0, .v s.val)], []⟩) 0 ⟨Nat.zero_le _, by unfold mPairs; rw [if_neg (by omega)]⟩ (Ss [3, 0] 0 (by kernel_rfl) rfl) ?_))))))))))
  rintro i ⟨hi, hI⟩
  have hlt := hi
  refine Cs (Cs (Cg (Jq 4 [10, 3, 0] 0 ⟨[(10, vB (decide ((i : Int) < ((s.n : Nat) : Int)))), (3, vI (i : Int)), (0, .v s.val)], []⟩ (Ln (Qn ?_)))))
  cases h2 : decide ((i : Int) < ((s.n : Nat) : Int)) with
  | true =>
   have h2 := of_decide_eq_true h2
   refine Ci true rfl (Ck (Qn (Cs (Cb (Cs (Cs (Cg (Jr 5 [(2, .idx s.ad i), (4, .ext [.string (s.at i).name])] [17, 3, 0] 0 ⟨[(17, vS (s.at i).name), (3, vI (i : Int)), (0, .v s.val)], []⟩ [s.A = some s.ad, (i : Int) = (i : Int), i < s.n] [((s.ad.add (i * 3)).add 0, [.string (s.at i).name])] (by kernel_rfl) (oc (Sl.ok.own (s := s) (i := i) oks (by omega)) (oc rfl (oc (by omega) on))) (fun w hk hr => ⟨(Sl.rd.fld (s := s) (i := i) (Sl.rd.kp hs hk) (by omega) 0 1 rfl), trivial⟩) (Lp 89 [] [vS (s.at i).name] (.bool (mName (s.at i).name)) Try.call89 rfl rfl rfl rfl (fun bs w hS => ref_NameMay _ w (And.left (Sl.ok.at (s := s) (i := i) oks (by omega)))) (Jq 1 [19, 3, 0] 0 ⟨[(19, vB (!(mName (s.at i).name))), (3, vI (i : Int)), (0, .v s.val)], []⟩ (Ln (Qn ?_))))))))))))
   cases h3 : mName (s.at i).name with
   | true =>
    refine Ci false rfl (Ck (Qn (Cs (Cs (Cg (Jr 7 [(2, .idx s.ad i), (4, .ext [.string (s.at i).value])] [26, 3, 0] 0 ⟨[(26, vB (decide ((12 : Int) < ((s.at i).value.size : Int)))), (3, vI (i : Int)), (0, .v s.val)], []⟩ [s.A = some s.ad, (i : Int) = (i : Int), i < s.n] [((s.ad.add (i * 3)).add 1, [.string (s.at i).value])] (by kernel_rfl) (oc (Sl.ok.own (s := s) (i := i) oks (by omega)) (oc rfl (oc (by omega) on))) (fun w hk hr => ⟨(Sl.rd.fld (s := s) (i := i) (Sl.rd.kp hs hk) (by omega) 1 1 rfl), trivial⟩) (Ln (Qn ?_))))))))
    cases h4 : decide ((12 : Int) < ((s.at i).value.size : Int)) with
    | true =>
     have h4 := of_decide_eq_true h4
     refine Ci true rfl (Cs (Cg (Jq 1 [2] 0 ⟨[(2, vI 1)], []⟩ (Ln (Qn (Cr (Qr (Qb (Qr (Qr (Qb (Qr (Rt (.inl rfl) [vI 1] rfl (fun bs w hS => (⟨?_, hS.kp⟩)))))))))))))))
     simp only [retOf, den, List.map_cons, List.map_nil]
     have hf : pairF s.xs i = 1 := by
      have hat : ∀ q, s.xs.getD q default = s.at q := fun _ => rfl
      unfold pairF
      simp only [hat]
      try simp only [h1, h2, h3, h4, emp_size, ne_eq, not_true_eq_false, not_false_eq_true, true_or, or_true, false_or, or_false, and_true, true_and, and_false, false_and, and_self, or_self, if_true, if_false, Bool.true_eq_false, Bool.false_eq_true, reduceIte, Classical.not_not, Bool.and_eq_true, decide_eq_true_eq]
      repeat (first | rw [if_pos (by omega)] | rw [if_neg (by omega)])
      all_goals first | rfl | (exfalso; omega)
     rw [hI, firstF_here (by omega) hf (by omega)]
    | false =>
     have h4 := of_decide_eq_false h4
     refine Ci false rfl (Ck (Qn (Cs (Cs (Cg (Jr 5 [(2, .idx s.ad i), (4, .ext [.int .i64 (s.at i).version])] [31, 3, 0] 0 ⟨[(31, vI (s.at i).version), (3, vI (i : Int)), (0, .v s.val)], []⟩ [s.A = some s.ad, (i : Int) = (i : Int), i < s.n] [((s.ad.add (i * 3)).add 2, [.int .i64 (s.at i).version])] (by kernel_rfl) (oc (Sl.ok.own (s := s) (i := i) oks (by omega)) (oc rfl (oc (by omega) on))) (fun w hk hr => ⟨(Sl.rd.fld (s := s) (i := i) (Sl.rd.kp hs hk) (by omega) 2 1 rfl), trivial⟩) (Lp 41 [] [vI (s.at i).version, vI 1, vI 1073741824] (.bool (inB (s.at i).version 1 1073741824)) Try.call41 rfl rfl rfl rfl (fun bs w hS => ref_In _ _ _ w) (Jq 1 [33, 3, 0] 0 ⟨[(33, vB (!(inB (s.at i).version 1 1073741824))), (3, vI (i : Int)), (0, .v s.val)], []⟩ (Ln (Qn ?_))))))))))
     cases h5 : inB (s.at i).version 1 1073741824 with
     | true =>
      simp only [inB, Bool.and_eq_true, Bool.and_eq_false_iff, decide_eq_true_eq, decide_eq_false_iff_not] at h5
      refine Ci false rfl (Ck (Qn (Cs (Cd 16 [] (.p 0 (.p 1 (.p 2 (.p 3 (.p 4 (.p 5 (.p 6 (.q 7 (.p 8 (.p 9 (.p 10 (.p 11 (.p 12 (.q 13 (.p 14 (.p 15 .nil)))))))))))))))) [] [] Try_mixed (by kernel_rfl) (pq_then (pq_block (pq_then (pq_then (pq_block (pq_then pq_body)))))) .slnil (Hq [] [(0, true), (1, true), (2, true)] [(36, vB (decide ((0 : Int) < (i : Int)))), (35, vB (decide ((0 : Int) < (i : Int)))), (34, vI (i : Int)), (33, vB false), (3, vI (i : Int)), (0, .v s.val)] [] [] rfl (by kernel_rfl) on wn ?_)))))
      cases h6 : decide ((0 : Int) < (i : Int)) with
      | true =>
       have h6 := of_decide_eq_true h6
       refine Hq [(5, .idx s.ad i), (7, .ext [.string (s.at i).name]), (11, .idx s.ad (i - 1)), (13, .ext [.string (s.at (i - 1)).name])] [(3, true), (4, true), (5, true), (6, true), (7, false), (8, true), (9, true), (10, true), (11, true), (12, true), (13, false), (14, true), (15, true)] [(49, vB (Op.bytesLess ((s.at i).name).toList ((s.at (i - 1)).name).toList || decide ((s.at i).name = (s.at (i - 1)).name))), (48, vB (Op.bytesLess ((s.at i).name).toList ((s.at (i - 1)).name).toList || decide ((s.at i).name = (s.at (i - 1)).name))), (47, vS (s.at (i - 1)).name), (46, .v (.pointer (some ((s.ad.add ((i - 1) * 3)).add 0)))), (45, .v (.pointer (some (s.ad.add ((i - 1) * 3))))), (44, vI ((i : Int) - 1)), (43, vI (i : Int)), (42, .v s.val), (41, vS (s.at i).name), (40, .v (.pointer (some ((s.ad.add (i * 3)).add 0)))), (39, .v (.pointer (some (s.ad.add (i * 3))))), (38, vI (i : Int)), (37, .v s.val), (36, vB true), (35, vB true), (34, vI (i : Int)), (33, vB false), (3, vI (i : Int)), (0, .v s.val)] [s.A = some s.ad, (i : Int) = (i : Int), i < s.n, inR ((i : Int) - 1), s.A = some s.ad, (i : Int) - 1 = (((i - 1) : Nat) : Int), (i - 1) < s.n] [((s.ad.add (i * 3)).add 0, [.string (s.at i).name]), ((s.ad.add ((i - 1) * 3)).add 0, [.string (s.at (i - 1)).name])] rfl (by kernel_rfl) (oc (Sl.ok.own (s := s) (i := i) oks (by omega)) (oc rfl (oc (by omega) (oc (by unfold inR; omega) (oc (Sl.ok.own (s := s) (i := (i - 1)) oks (by omega)) (oc (by omega) (oc (by omega) on))))))) (fun w hk hr => ⟨(Sl.rd.fld (s := s) (i := i) (Sl.rd.kp hs hk) (by omega) 0 1 rfl), ⟨(Sl.rd.fld (s := s) (i := (i - 1)) (Sl.rd.kp hs hk) (by omega) 0 1 rfl), trivial⟩⟩) ?_
       refine Hn (Ln (Qn ?_))
       cases h7 : Op.bytesLess ((s.at i).name).toList ((s.at (i - 1)).name).toList || decide ((s.at i).name = (s.at (i - 1)).name) with
       | true =>
        rw [bytes_total] at h7
        simp only [Bool.not_eq_true', Bool.not_eq_false', Bool.not_eq_true, Bool.not_eq_false] at h7
        refine Ci true rfl (Cs (Cg (Jq 1 [2] 0 ⟨[(2, vI 14)], []⟩ (Ln (Qn (Cr (Qb (Qr (Qr (Qb (Qr (Rt (.inl rfl) [vI 14] rfl (fun bs w hS => (⟨?_, hS.kp⟩))))))))))))))
        simp only [retOf, den, List.map_cons, List.map_nil]
        have hf : pairF s.xs i = 14 := by
         have hat : ∀ q, s.xs.getD q default = s.at q := fun _ => rfl
         unfold pairF
         simp only [hat]
         try simp only [h1, h2, h3, h4, h5, h6, h7, emp_size, ne_eq, not_true_eq_false, not_false_eq_true, true_or, or_true, false_or, or_false, and_true, true_and, and_false, false_and, and_self, or_self, if_true, if_false, Bool.true_eq_false, Bool.false_eq_true, reduceIte, Classical.not_not, Bool.and_eq_true, decide_eq_true_eq]
         repeat (first | rw [if_pos (by omega)] | rw [if_neg (by omega)])
         all_goals first | rfl | (exfalso; omega)
        rw [hI, firstF_here (by omega) hf (by omega)]
       | false =>
        rw [bytes_total] at h7
        simp only [Bool.not_eq_true', Bool.not_eq_false', Bool.not_eq_true, Bool.not_eq_false] at h7
        refine Ci false rfl (Ck (q_block_normal (Qn (Cg (Jr 3 [] [3, 0] 0 ⟨[(3, vI ((i : Int) + 1)), (0, .v s.val)], []⟩ [inR ((i : Int) + 1)] [] (by kernel_rfl) (oc (by unfold inR; omega) on) wn ?_)))))
        have hf0 : pairF s.xs i = 0 := by
         have hat : ∀ q, s.xs.getD q default = s.at q := fun _ => rfl
         unfold pairF
         simp only [hat]
         try simp only [h1, h2, h3, h4, h5, h6, h7, emp_size, ne_eq, not_true_eq_false, not_false_eq_true, true_or, or_true, false_or, or_false, and_true, true_and, and_false, false_and, and_self, or_self, if_true, if_false, Bool.true_eq_false, Bool.false_eq_true, reduceIte, Classical.not_not, Bool.and_eq_true, decide_eq_true_eq]
         repeat (first | rw [if_pos (by omega)] | rw [if_neg (by omega)])
         all_goals first | rfl | (exfalso; omega)
        refine Ln (q_loop (x := (i : Nat)) ((i + 1) : Nat) ⟨by omega, by rw [hI]; exact firstF_step (by omega) hf0⟩ (by omega) (Ss [3, 0] 0 (by kernel_rfl) rfl))
      | false =>
       have h6 := of_decide_eq_false h6
       refine Hq [] [(3, true), (4, true), (5, true), (6, true), (7, false), (8, true), (9, true), (10, true), (11, true), (12, true), (13, false), (14, true), (15, true)] [(49, vB false), (48, .v (undef)), (47, .v (undef)), (46, .v (undef)), (45, .v (undef)), (44, .v (undef)), (43, .v (undef)), (42, .v (undef)), (41, .v (undef)), (40, .v (undef)), (39, .v (undef)), (38, .v (undef)), (37, .v (undef)), (36, vB false), (35, vB false), (34, vI (i : Int)), (33, vB false), (3, vI (i : Int)), (0, .v s.val)] [] [] rfl (by kernel_rfl) on wn ?_
       refine Hn (Ln (Qn (Ci false rfl (Ck (q_block_normal (Qn (Cg (Jr 3 [] [3, 0] 0 ⟨[(3, vI ((i : Int) + 1)), (0, .v s.val)], []⟩ [inR ((i : Int) + 1)] [] (by kernel_rfl) (oc (by unfold inR; omega) on) wn ?_))))))))
       have hf0 : pairF s.xs i = 0 := by
        have hat : ∀ q, s.xs.getD q default = s.at q := fun _ => rfl
        unfold pairF
        simp only [hat]
        try simp only [h1, h2, h3, h4, h5, h6, emp_size, ne_eq, not_true_eq_false, not_false_eq_true, true_or, or_true, false_or, or_false, and_true, true_and, and_false, false_and, and_self, or_self, if_true, if_false, Bool.true_eq_false, Bool.false_eq_true, reduceIte, Classical.not_not, Bool.and_eq_true, decide_eq_true_eq]
        repeat (first | rw [if_pos (by omega)] | rw [if_neg (by omega)])
        all_goals first | rfl | (exfalso; omega)
       refine Ln (q_loop (x := (i : Nat)) ((i + 1) : Nat) ⟨by omega, by rw [hI]; exact firstF_step (by omega) hf0⟩ (by omega) (Ss [3, 0] 0 (by kernel_rfl) rfl))
     | false =>
      simp only [inB, Bool.and_eq_true, Bool.and_eq_false_iff, decide_eq_true_eq, decide_eq_false_iff_not] at h5
      refine Ci true rfl (Cs (Cg (Jq 1 [2] 0 ⟨[(2, vI 2)], []⟩ (Ln (Qn (Cr (Qr (Qb (Qr (Qr (Qb (Qr (Rt (.inl rfl) [vI 2] rfl (fun bs w hS => (⟨?_, hS.kp⟩)))))))))))))))
      simp only [retOf, den, List.map_cons, List.map_nil]
      have hf : pairF s.xs i = 2 := by
       have hat : ∀ q, s.xs.getD q default = s.at q := fun _ => rfl
       unfold pairF
       simp only [hat]
       try simp only [h1, h2, h3, h4, h5, emp_size, ne_eq, not_true_eq_false, not_false_eq_true, true_or, or_true, false_or, or_false, and_true, true_and, and_false, false_and, and_self, or_self, if_true, if_false, Bool.true_eq_false, Bool.false_eq_true, reduceIte, Classical.not_not, Bool.and_eq_true, decide_eq_true_eq]
       repeat (first | rw [if_pos (by omega)] | rw [if_neg (by omega)])
       all_goals first | rfl | (exfalso; omega)
      rw [hI, firstF_here (by omega) hf (by omega)]
   | false =>
    refine Ci true rfl (Cs (Cg (Jq 1 [2] 0 ⟨[(2, vI 4)], []⟩ (Ln (Qn (Cr (Qr (Qb (Qr (Qr (Qb (Qr (Rt (.inl rfl) [vI 4] rfl (fun bs w hS => (⟨?_, hS.kp⟩)))))))))))))))
    simp only [retOf, den, List.map_cons, List.map_nil]
    have hf : pairF s.xs i = 4 := by
     have hat : ∀ q, s.xs.getD q default = s.at q := fun _ => rfl
     unfold pairF
     simp only [hat]
     try simp only [h1, h2, h3, emp_size, ne_eq, not_true_eq_false, not_false_eq_true, true_or, or_true, false_or, or_false, and_true, true_and, and_false, false_and, and_self, or_self, if_true, if_false, Bool.true_eq_false, Bool.false_eq_true, reduceIte, Classical.not_not, Bool.and_eq_true, decide_eq_true_eq]
     repeat (first | rw [if_pos (by omega)] | rw [if_neg (by omega)])
     all_goals first | rfl | (exfalso; omega)
    rw [hI, firstF_here (by omega) hf (by omega)]
  | false =>
   have h2 := of_decide_eq_false h2
   refine Ci false rfl (c_exit (Qe (Qe (Qh (Qn (Cs (Cg (Jq 1 [2] 0 ⟨[(2, vI 0)], []⟩ (Ln (Qn (Cr (Rt (.inl rfl) [vI 0] rfl (fun bs w hS => (⟨?_, hS.kp⟩))))))))))))))
   simp only [retOf, den, List.map_cons, List.map_nil]
   rw [hI, firstF_end (by omega)]

theorem machine_Check {B : Nat → Prop} (x : CState) (w : World) (hx : Rds.sub B w x) : Calls Try.prog 34 #[.agg #[.int .i64 x.index, .slice x.locks.A x.locks.n x.locks.c, .slice x.pairs.A x.pairs.n x.pairs.c, .slice x.sessions.A x.sessions.n x.sessions.c]] w fun e w' => e = .returned (.int .i64 (mState x.abs)) ∧ Kp [] w w' := by
 have okx := Rds.okof hx
 refine calls_J0 22 Try.func34 rfl rfl [.agg #[.int .i64 x.index, .slice x.locks.A x.locks.n x.locks.c, .slice x.pairs.A x.pairs.n x.pairs.c, .slice x.sessions.A x.sessions.n x.sessions.c]] rfl ?_
 refine Cs (Cg (Jq 2 [1] 1 ⟨[(1, .p 0 0)], [⟨29, x.cs⟩]⟩ (Ln (Qn (Cs (Cs (Cg (Jq 4 [8, 6, 1] 1 ⟨[(8, vI x.index), (6, .v x.sessions.val), (1, .p 0 0)], [⟨29, x.cs⟩]⟩ (Lp 58 [] [.v x.sessions.val, vI x.index] (.int .i64 (mSess (x.sessions.xs.map CSession.abs) x.index)) Try.call58 rfl rfl rfl rfl (fun bs w hS => session_Check x.sessions x.index w (And.right (And.right (Rds.kp hx hS.kp)))) (Jq 1 [3, 1] 1 ⟨[(3, vI (mSess (x.sessions.xs.map CSession.abs) x.index)), (1, .p 0 0)], [⟨29, x.cs⟩]⟩ (Ln (Qn (Cs (Cg (Jq 2 [11, 3, 1] 1 ⟨[(11, vB (!(decide (mSess (x.sessions.xs.map CSession.abs) x.index = 0)))), (3, vI (mSess (x.sessions.xs.map CSession.abs) x.index)), (1, .p 0 0)], [⟨29, x.cs⟩]⟩ (Ln (Qn ?_)))))))))))))))))
 cases h1 : decide (mSess (x.sessions.xs.map CSession.abs) x.index = 0) with
 | true =>
  have h1 := of_decide_eq_true h1
  refine Ci false rfl (Ck (Qn (Cs (Cs (Cg (Jq 2 [14, 1] 1 ⟨[(14, .v x.locks.val), (1, .p 0 0)], [⟨29, x.cs⟩]⟩ (Lp 59 [] [.v x.locks.val] (.int .i64 (mLocks (x.locks.xs.map CLock.abs))) Try.call59 rfl rfl rfl rfl (fun bs w hS => lock_Check x.locks w (And.left (Rds.kp hx hS.kp))) (Jq 1 [4, 1] 1 ⟨[(4, vI (mLocks (x.locks.xs.map CLock.abs))), (1, .p 0 0)], [⟨29, x.cs⟩]⟩ (Ln (Qn (Cs (Cg (Jq 2 [17, 4, 1] 1 ⟨[(17, vB (!(decide (mLocks (x.locks.xs.map CLock.abs) = 0)))), (4, vI (mLocks (x.locks.xs.map CLock.abs))), (1, .p 0 0)], [⟨29, x.cs⟩]⟩ (Ln (Qn ?_)))))))))))))))
  cases h2 : decide (mLocks (x.locks.xs.map CLock.abs) = 0) with
  | true =>
   have h2 := of_decide_eq_true h2
   refine Ci false rfl (Ck (Qn (Cs (Cg (Jq 2 [20] 0 ⟨[(20, .v x.pairs.val)], []⟩ (Lp 60 [] [.v x.pairs.val] (.int .i64 (mPairs x.pairs.xs)) Try.call60 rfl rfl rfl rfl (fun bs w hS => pair_Check x.pairs w (And.left (And.right (Rds.kp hx hS.kp)))) (Jq 1 [2] 0 ⟨[(2, vI (mPairs x.pairs.xs))], []⟩ (Ln (Qn (Cr (Rt (.inl rfl) [vI (mPairs x.pairs.xs)] rfl (fun bs w hS => (⟨?_, hS.kp⟩)))))))))))))
   have hm : mState x.abs = mPairs x.pairs.xs := by
    have q1 : x.abs.sessions = x.sessions.xs.map CSession.abs := rfl
    have q2 : x.abs.locks = x.locks.xs.map CLock.abs := rfl
    have q3 : x.abs.pairs = x.pairs.xs := rfl
    have q4 : x.abs.index = x.index := rfl
    unfold mState; rw [q1, q2, q3, q4]; simp only [h1, h2, if_true, if_false, reduceIte]
   rw [hm]
   rfl
  | false =>
   have h2 := of_decide_eq_false h2
   refine Ci true rfl (Cs (Cg (Jq 2 [2] 0 ⟨[(2, vI (mLocks (x.locks.xs.map CLock.abs)))], []⟩ (Ln (Qn (Cr (Qr (Rt (.inl rfl) [vI (mLocks (x.locks.xs.map CLock.abs))] rfl (fun bs w hS => (⟨?_, hS.kp⟩))))))))))
   have hm : mState x.abs = mLocks (x.locks.xs.map CLock.abs) := by
    have q1 : x.abs.sessions = x.sessions.xs.map CSession.abs := rfl
    have q2 : x.abs.locks = x.locks.xs.map CLock.abs := rfl
    have q3 : x.abs.pairs = x.pairs.xs := rfl
    have q4 : x.abs.index = x.index := rfl
    unfold mState; rw [q1, q2, q3, q4]; simp only [h1, h2, if_true, if_false, reduceIte]
   rw [hm]
   rfl
 | false =>
  have h1 := of_decide_eq_false h1
  refine Ci true rfl (Cs (Cg (Jq 2 [2] 0 ⟨[(2, vI (mSess (x.sessions.xs.map CSession.abs) x.index))], []⟩ (Ln (Qn (Cr (Qr (Rt (.inl rfl) [vI (mSess (x.sessions.xs.map CSession.abs) x.index)] rfl (fun bs w hS => (⟨?_, hS.kp⟩))))))))))
  have hm : mState x.abs = mSess (x.sessions.xs.map CSession.abs) x.index := by
   have q1 : x.abs.sessions = x.sessions.xs.map CSession.abs := rfl
   have q2 : x.abs.locks = x.locks.xs.map CLock.abs := rfl
   have q3 : x.abs.pairs = x.pairs.xs := rfl
   have q4 : x.abs.index = x.index := rfl
   unfold mState; rw [q1, q2, q3, q4]; simp only [h1, if_true, if_false, reduceIte]
  rw [hm]
  rfl

theorem ref_StateFault {B : Nat → Prop} (x : CState) (w : World) (hx : Rds.sub B w x) : Calls Try.prog 40 #[.agg #[.int .i64 x.index, .slice x.locks.A x.locks.n x.locks.c, .slice x.pairs.A x.pairs.n x.pairs.c, .slice x.sessions.A x.sessions.n x.sessions.c]] w fun e w' => e = .returned (.int .i64 (mState x.abs)) ∧ Kp [] w w' := by
 have okx := Rds.okof hx
 refine calls_J0 20 Try.func40 rfl rfl [.agg #[.int .i64 x.index, .slice x.locks.A x.locks.n x.locks.c, .slice x.pairs.A x.pairs.n x.pairs.c, .slice x.sessions.A x.sessions.n x.sessions.c]] rfl ?_
 refine Cs (Cg (Jq 2 [1] 1 ⟨[(1, .p 0 0)], [⟨29, x.cs⟩]⟩ (Ln (Qn (Cs (Cg (Jq 4 [7, 5, 1] 1 ⟨[(7, vI x.index), (5, .v x.sessions.val), (1, .p 0 0)], [⟨29, x.cs⟩]⟩ (Lp 66 [] [.v x.sessions.val, vI x.index] (.int .i64 (mSess (x.sessions.xs.map CSession.abs) x.index)) Try.call66 rfl rfl rfl rfl (fun bs w hS => ref_SessionsFault x.sessions x.index w (And.right (And.right (Rds.kp hx hS.kp)))) (Jq 1 [3, 1] 1 ⟨[(3, vI (mSess (x.sessions.xs.map CSession.abs) x.index)), (1, .p 0 0)], [⟨29, x.cs⟩]⟩ (Ln (Qn (Cs (Cs (Cg (Jq 2 [10, 3, 1] 1 ⟨[(10, vB (decide (mSess (x.sessions.xs.map CSession.abs) x.index = 0))), (3, vI (mSess (x.sessions.xs.map CSession.abs) x.index)), (1, .p 0 0)], [⟨29, x.cs⟩]⟩ (Ln (Qn ?_)))))))))))))))))
 cases h1 : decide (mSess (x.sessions.xs.map CSession.abs) x.index = 0) with
 | true =>
  have h1 := of_decide_eq_true h1
  refine Ci true rfl (Cg (Jq 2 [12, 1] 1 ⟨[(12, .v x.locks.val), (1, .p 0 0)], [⟨29, x.cs⟩]⟩ (Lp 67 [] [.v x.locks.val] (.int .i64 (mLocks (x.locks.xs.map CLock.abs))) Try.call67 rfl rfl rfl rfl (fun bs w hS => ref_LocksFault x.locks w (And.left (Rds.kp hx hS.kp))) (Jq 1 [3, 1] 1 ⟨[(3, vI (mLocks (x.locks.xs.map CLock.abs))), (1, .p 0 0)], [⟨29, x.cs⟩]⟩ (Ln (Qn (Cs (Cs (Cg (Jq 2 [15, 3, 1] 1 ⟨[(15, vB (decide (mLocks (x.locks.xs.map CLock.abs) = 0))), (3, vI (mLocks (x.locks.xs.map CLock.abs))), (1, .p 0 0)], [⟨29, x.cs⟩]⟩ (Ln (Qn ?_))))))))))))
  cases h2 : decide (mLocks (x.locks.xs.map CLock.abs) = 0) with
  | true =>
   have h2 := of_decide_eq_true h2
   refine Ci true rfl (Cg (Jq 2 [17] 0 ⟨[(17, .v x.pairs.val)], []⟩ (Lp 68 [] [.v x.pairs.val] (.int .i64 (mPairs x.pairs.xs)) Try.call68 rfl rfl rfl rfl (fun bs w hS => ref_PairsFault x.pairs w (And.left (And.right (Rds.kp hx hS.kp)))) (Jq 1 [3] 0 ⟨[(3, vI (mPairs x.pairs.xs))], []⟩ (Ln (Qn (Cs (Cg (Jq 2 [2] 0 ⟨[(2, vI (mPairs x.pairs.xs))], []⟩ (Ln (Qn (Cr (Rt (.inl rfl) [vI (mPairs x.pairs.xs)] rfl (fun bs w hS => (⟨?_, hS.kp⟩)))))))))))))))
   have hm : mState x.abs = mPairs x.pairs.xs := by
    have q1 : x.abs.sessions = x.sessions.xs.map CSession.abs := rfl
    have q2 : x.abs.locks = x.locks.xs.map CLock.abs := rfl
    have q3 : x.abs.pairs = x.pairs.xs := rfl
    have q4 : x.abs.index = x.index := rfl
    unfold mState; rw [q1, q2, q3, q4]; simp only [h1, h2, if_true, if_false, reduceIte]
   rw [hm]
   rfl
  | false =>
   have h2 := of_decide_eq_false h2
   refine Ci false rfl (Ck (Qn (Cs (Cg (Jq 2 [2] 0 ⟨[(2, vI (mLocks (x.locks.xs.map CLock.abs)))], []⟩ (Ln (Qn (Cr (Rt (.inl rfl) [vI (mLocks (x.locks.xs.map CLock.abs))] rfl (fun bs w hS => (⟨?_, hS.kp⟩)))))))))))
   have hm : mState x.abs = mLocks (x.locks.xs.map CLock.abs) := by
    have q1 : x.abs.sessions = x.sessions.xs.map CSession.abs := rfl
    have q2 : x.abs.locks = x.locks.xs.map CLock.abs := rfl
    have q3 : x.abs.pairs = x.pairs.xs := rfl
    have q4 : x.abs.index = x.index := rfl
    unfold mState; rw [q1, q2, q3, q4]; simp only [h1, h2, if_true, if_false, reduceIte]
   rw [hm]
   rfl
 | false =>
  have h1 := of_decide_eq_false h1
  refine Ci false rfl (Ck (Qn (Cs (Cs (Cg (Jq 2 [15, 3, 1] 1 ⟨[(15, vB (decide (mSess (x.sessions.xs.map CSession.abs) x.index = 0))), (3, vI (mSess (x.sessions.xs.map CSession.abs) x.index)), (1, .p 0 0)], [⟨29, x.cs⟩]⟩ (Ln (Qn ?_))))))))
  cases h3 : decide (mSess (x.sessions.xs.map CSession.abs) x.index = 0) with
  | true =>
   have h3 := of_decide_eq_true h3
   exact absurd h3 h1
  | false =>
   have h3 := of_decide_eq_false h3
   refine Ci false rfl (Ck (Qn (Cs (Cg (Jq 2 [2] 0 ⟨[(2, vI (mSess (x.sessions.xs.map CSession.abs) x.index))], []⟩ (Ln (Qn (Cr (Rt (.inl rfl) [vI (mSess (x.sessions.xs.map CSession.abs) x.index)] rfl (fun bs w hS => (⟨?_, hS.kp⟩)))))))))))
   have hm : mState x.abs = mSess (x.sessions.xs.map CSession.abs) x.index := by
    have q1 : x.abs.sessions = x.sessions.xs.map CSession.abs := rfl
    have q2 : x.abs.locks = x.locks.xs.map CLock.abs := rfl
    have q3 : x.abs.pairs = x.pairs.xs := rfl
    have q4 : x.abs.index = x.index := rfl
    unfold mState; rw [q1, q2, q3, q4]; simp only [h1, h3, if_true, if_false, reduceIte]
   rw [hm]
   rfl

theorem codec_Seal (s : ByteArray) (w : World) (hs : s.size ≤ 9223372036854775807) : Calls Try.prog 36 #[.string s] w fun e w' => e = .returned (.string (mSeal s)) ∧ Kp [] w w' := by
 refine calls_J0 35 Try.func36 rfl rfl [.string s] rfl ?_
 refine Cs (Cg (Jq 1 [0] 0 ⟨[(0, vS s)], []⟩ (Ln (Qn (Cs (Cg (Jq 2 [4, 3, 0] 0 ⟨[(4, vI 0), (3, vI 1), (0, vS s)], []⟩ (Ln (Qn (Cs (Cs (Cg (Jq 3 [8, 7, 4, 3, 0] 0 ⟨[(8, vI 0), (7, vI (s.size : Int)), (4, vI 0), (3, vI 1), (0, vS s)], []⟩ (Ln (Qn (Cb (Cl (σ := Nat) (fun k => k ≤ s.size) (fun k => s.size - k) (fun k => []) (fun k => ⟨[(8, vI (k : Int)), (7, vI (s.size : Int)), (4, vI (sealTo s k).2), (3, vI (sealTo s k).1), (0, vS s)], []⟩) 0 (Nat.zero_le _) (Ss [8, 7, 4, 3, 0] 0 (by kernel_rfl) rfl) ?_)))))))))))))))))
 rintro k hk
 have hb := sealTo_bd s k
 have hu := (s.data.getD k 0).toNat_lt
 refine Cs (Cg (Jq 1 [9, 8, 7, 4, 3, 0] 0 ⟨[(9, vB (decide ((k : Int) < (s.size : Int)))), (8, vI (k : Int)), (7, vI (s.size : Int)), (4, vI (sealTo s k).2), (3, vI (sealTo s k).1), (0, vS s)], []⟩ (Ln (Qn (Cs ?_)))))
 cases h1 : decide ((k : Int) < (s.size : Int)) with
 | true =>
  have h1 := of_decide_eq_true h1
  refine Ci true rfl (Ck (Qn (Cs (Cb (Cs (Cg (Jq 2 [5, 8, 7, 4, 3, 0] 0 ⟨[(5, vI (k : Int)), (8, vI (k : Int)), (7, vI (s.size : Int)), (4, vI (sealTo s k).2), (3, vI (sealTo s k).1), (0, vS s)], []⟩ (Ln (Qn (Cs (Cg (Jr 8 [(3, .sidx k)] [3, 8, 7, 4, 0] 0 ⟨[(3, vI (((sealTo s k).1 + ((s.data.getD k 0).toNat : Int)) % 65521)), (8, vI (k : Int)), (7, vI (s.size : Int)), (4, vI (sealTo s k).2), (0, vS s)], []⟩ [(k : Int) = (k : Int), k < s.size, 0 ≤ ((s.data.getD k 0).toNat : Int), ((s.data.getD k 0).toNat : Int) ≤ 255, inR ((sealTo s k).1 + ((s.data.getD k 0).toNat : Int)), 0 ≤ (sealTo s k).1 + ((s.data.getD k 0).toNat : Int), (0 : Int) < 65521] [] (by kernel_rfl) (oc rfl (oc (by omega) (oc (by omega) (oc (by omega) (oc (by unfold inR; omega) (oc (by omega) (oc (by omega) on))))))) wn (Ln (Qn (Cg (Jr 5 [] [4, 3, 8, 7, 0] 0 ⟨[(4, vI (((sealTo s k).2 + (((sealTo s k).1 + ((s.data.getD k 0).toNat : Int)) % 65521)) % 65521)), (3, vI (((sealTo s k).1 + ((s.data.getD k 0).toNat : Int)) % 65521)), (8, vI (k : Int)), (7, vI (s.size : Int)), (0, vS s)], []⟩ [inR ((sealTo s k).2 + (((sealTo s k).1 + ((s.data.getD k 0).toNat : Int)) % 65521)), 0 ≤ (sealTo s k).2 + (((sealTo s k).1 + ((s.data.getD k 0).toNat : Int)) % 65521), (0 : Int) < 65521] [] (by kernel_rfl) (oc (by unfold inR; omega) (oc (by omega) (oc (by omega) on))) wn (Ln (q_block_normal (Qn (Cg (Jr 2 [] [8, 4, 3, 7, 0] 0 ⟨[(8, vI ((k : Int) + 1)), (4, vI (((sealTo s k).2 + (((sealTo s k).1 + ((s.data.getD k 0).toNat : Int)) % 65521)) % 65521)), (3, vI (((sealTo s k).1 + ((s.data.getD k 0).toNat : Int)) % 65521)), (7, vI (s.size : Int)), (0, vS s)], []⟩ [inR ((k : Int) + 1)] [] (by kernel_rfl) (oc (by unfold inR; omega) on) wn (Ln (q_loop (x := (k : Nat)) ((k + 1) : Nat) (by omega) (by omega) (Ss [8, 7, 4, 3, 0] 0 (by kernel_rfl) rfl))))))))))))))))))))))))
 | false =>
  have h1 := of_decide_eq_false h1
  refine Ci false rfl (c_exit (Qe (Qe (Qh (Qn (Cs (Cg (Jr 11 [] [33] 1 ⟨[(33, .s 0 0 4 4)], [⟨5, [.v (.int .u8 (((sealTo s k).2 / 2 ^ (8 : Int).toNat) % 256)), .v (.int .u8 ((sealTo s k).2 % 256)), .v (.int .u8 (((sealTo s k).1 / 2 ^ (8 : Int).toNat) % 256)), .v (.int .u8 ((sealTo s k).1 % 256))]⟩]⟩ [(0 : Int) ≤ 8, 8 ≤ (64 : Int), (0 : Int) ≤ 8, 8 ≤ (64 : Int)] [] (by kernel_rfl) (oc (by omega) (oc (by omega) (oc (by omega) (oc (by omega) on)))) wn (l_bytes 5 (.s 0 0 4 4) [((sealTo s k).2 / 2 ^ (8 : Int).toNat) % 256, (sealTo s k).2 % 256, ((sealTo s k).1 / 2 ^ (8 : Int).toNat) % 256, (sealTo s k).1 % 256] Try.underlying105 Try.underlying5 Try.underlying9 rfl rfl (fun bs w hS => src_loc (q := 4) hS rfl rfl) (Jq 1 [2] 0 ⟨[(2, vS (bstr ([((sealTo s k).2 / 2 ^ (8 : Int).toNat) % 256, (sealTo s k).2 % 256, ((sealTo s k).1 / 2 ^ (8 : Int).toNat) % 256, (sealTo s k).1 % 256])))], []⟩ (Ln (Qn (Cr (Rt (.inl rfl) [vS (bstr ([((sealTo s k).2 / 2 ^ (8 : Int).toNat) % 256, (sealTo s k).2 % 256, ((sealTo s k).1 / 2 ^ (8 : Int).toNat) % 256, (sealTo s k).1 % 256]))] rfl (fun bs w hS => (⟨?_, hS.kp⟩))))))))))))))))
  have e : k = s.size := by omega
  subst e
  simp [retOf, den, mSeal]

theorem ref_SealOf (s : ByteArray) (w : World) (hs : s.size ≤ 9223372036854775807) : Calls Try.prog 42 #[.string s] w fun e w' => e = .returned (.string (mSeal s)) ∧ Kp [] w w' := by
 refine calls_J0 37 Try.func42 rfl rfl [.string s] rfl ?_
 refine Cs (Cg (Jq 1 [0] 0 ⟨[(0, vS s)], []⟩ (Ln (Qn (Cs (Cg (Jq 1 [3, 0] 0 ⟨[(3, vI 1), (0, vS s)], []⟩ (Ln (Qn (Cs (Cg (Jq 1 [4, 3, 0] 0 ⟨[(4, vI 0), (3, vI 1), (0, vS s)], []⟩ (Ln (Qn (Cs (Cs (Cg (Jq 1 [5, 4, 3, 0] 0 ⟨[(5, vI 0), (4, vI 0), (3, vI 1), (0, vS s)], []⟩ (Ln (Qn (Cb (Cl (σ := Nat) (fun k => k ≤ s.size) (fun k => s.size - k) (fun k => []) (fun k => ⟨[(5, vI (k : Int)), (4, vI (sealTo s k).2), (3, vI (sealTo s k).1), (0, vS s)], []⟩) 0 (Nat.zero_le _) (Ss [5, 4, 3, 0] 0 (by kernel_rfl) rfl) ?_))))))))))))))))))))))
 rintro k hk
 have hb := sealTo_bd s k
 have hu := (s.data.getD k 0).toNat_lt
 refine Cs (Cs (Cg (Jq 4 [9, 5, 4, 3, 0] 0 ⟨[(9, vB (decide ((k : Int) < (s.size : Int)))), (5, vI (k : Int)), (4, vI (sealTo s k).2), (3, vI (sealTo s k).1), (0, vS s)], []⟩ (Ln (Qn ?_)))))
 cases h1 : decide ((k : Int) < (s.size : Int)) with
 | true =>
  have h1 := of_decide_eq_true h1
  refine Ci true rfl (Ck (Qn (Cs (Cb (Cs (Cg (Jr 8 [(3, .sidx k)] [3, 5, 4, 0] 0 ⟨[(3, vI (((sealTo s k).1 + ((s.data.getD k 0).toNat : Int)) % 65521)), (5, vI (k : Int)), (4, vI (sealTo s k).2), (0, vS s)], []⟩ [(k : Int) = (k : Int), k < s.size, 0 ≤ ((s.data.getD k 0).toNat : Int), ((s.data.getD k 0).toNat : Int) ≤ 255, inR ((sealTo s k).1 + ((s.data.getD k 0).toNat : Int)), 0 ≤ (sealTo s k).1 + ((s.data.getD k 0).toNat : Int), (0 : Int) < 65521] [] (by kernel_rfl) (oc rfl (oc (by omega) (oc (by omega) (oc (by omega) (oc (by unfold inR; omega) (oc (by omega) (oc (by omega) on))))))) wn (Ln (Qn (Cg (Jr 5 [] [4, 3, 5, 0] 0 ⟨[(4, vI (((sealTo s k).2 + (((sealTo s k).1 + ((s.data.getD k 0).toNat : Int)) % 65521)) % 65521)), (3, vI (((sealTo s k).1 + ((s.data.getD k 0).toNat : Int)) % 65521)), (5, vI (k : Int)), (0, vS s)], []⟩ [inR ((sealTo s k).2 + (((sealTo s k).1 + ((s.data.getD k 0).toNat : Int)) % 65521)), 0 ≤ (sealTo s k).2 + (((sealTo s k).1 + ((s.data.getD k 0).toNat : Int)) % 65521), (0 : Int) < 65521] [] (by kernel_rfl) (oc (by unfold inR; omega) (oc (by omega) (oc (by omega) on))) wn (Ln (q_block_normal (Qn (Cg (Jr 3 [] [5, 4, 3, 0] 0 ⟨[(5, vI ((k : Int) + 1)), (4, vI (((sealTo s k).2 + (((sealTo s k).1 + ((s.data.getD k 0).toNat : Int)) % 65521)) % 65521)), (3, vI (((sealTo s k).1 + ((s.data.getD k 0).toNat : Int)) % 65521)), (0, vS s)], []⟩ [inR ((k : Int) + 1)] [] (by kernel_rfl) (oc (by unfold inR; omega) on) wn (Ln (q_loop (x := (k : Nat)) ((k + 1) : Nat) (by omega) (by omega) (Ss [5, 4, 3, 0] 0 (by kernel_rfl) rfl)))))))))))))))))))
 | false =>
  have h1 := of_decide_eq_false h1
  refine Ci false rfl (c_exit (Qe (Qe (Qh (Qn (Cs (Cg (Jr 13 [] [35] 1 ⟨[(35, .s 0 0 4 4)], [⟨5, [.v (.int .u8 (((sealTo s k).2 / 256) % 256)), .v (.int .u8 (((sealTo s k).2 % 256) % 256)), .v (.int .u8 (((sealTo s k).1 / 256) % 256)), .v (.int .u8 (((sealTo s k).1 % 256) % 256))]⟩]⟩ [0 ≤ (sealTo s k).2, (sealTo s k).2 ≤ 9223372036854775807, (0 : Int) < 256, 0 ≤ (sealTo s k).2, (0 : Int) < 256, 0 ≤ (sealTo s k).1, (sealTo s k).1 ≤ 9223372036854775807, (0 : Int) < 256, 0 ≤ (sealTo s k).1, (0 : Int) < 256] [] (by kernel_rfl) (oc (by omega) (oc (by omega) (oc (by omega) (oc (by omega) (oc (by omega) (oc (by omega) (oc (by omega) (oc (by omega) (oc (by omega) (oc (by omega) on)))))))))) wn (l_bytes 5 (.s 0 0 4 4) [((sealTo s k).2 / 256) % 256, ((sealTo s k).2 % 256) % 256, ((sealTo s k).1 / 256) % 256, ((sealTo s k).1 % 256) % 256] Try.underlying105 Try.underlying5 Try.underlying9 rfl rfl (fun bs w hS => src_loc (q := 4) hS rfl rfl) (Jq 1 [2] 0 ⟨[(2, vS (bstr ([((sealTo s k).2 / 256) % 256, ((sealTo s k).2 % 256) % 256, ((sealTo s k).1 / 256) % 256, ((sealTo s k).1 % 256) % 256])))], []⟩ (Ln (Qn (Cr (Rt (.inl rfl) [vS (bstr ([((sealTo s k).2 / 256) % 256, ((sealTo s k).2 % 256) % 256, ((sealTo s k).1 / 256) % 256, ((sealTo s k).1 % 256) % 256]))] rfl (fun bs w hS => (⟨?_, hS.kp⟩))))))))))))))))
  have e : k = s.size := by omega
  subst e
  simp [retOf, den, mSeal]

theorem ref_SnapBytes {B : Nat → Prop} (s : CState) (w : World) (hs : Rds.sub B w s) : Calls Try.prog 30 #[.agg #[.int .i64 s.index, .slice s.locks.A s.locks.n s.locks.c, .slice s.pairs.A s.pairs.n s.pairs.c, .slice s.sessions.A s.sessions.n s.sessions.c]] w fun e w' => e = .returned (.tuple #[.string (mSnap s.abs).1, .int .i64 (mSnap s.abs).2]) ∧ Kp [] w w' := by
  have he0 : emp.size = 0 := rfl
  have okx := Rds.okof hs
  have oks := okx.1
  have okp := okx.2.1
  have oke := okx.2.2
  have ncs := Sl.ok.nc oks
  have ncp := Sl.ok.nc okp
  have nce := Sl.ok.nc oke
  have hns : s.locks.n = s.locks.xs.length := rfl
  have hnp : s.pairs.n = s.pairs.xs.length := rfl
  have hne : s.sessions.n = s.sessions.xs.length := rfl
  have hll : s.abs.locks.length = s.locks.n := List.length_map _
  have hlp : s.abs.pairs.length = s.pairs.n := rfl
  have hle : s.abs.sessions.length = s.sessions.n := List.length_map _
  have hal : ∀ q, s.abs.locks.getD q default = (s.locks.at q).abs := fun q => abs_at q
  have hap : ∀ q, s.abs.pairs.getD q default = s.pairs.at q := fun _ => rfl
  have hae : ∀ q, s.abs.sessions.getD q default = (s.sessions.at q).abs := fun q => sabs_at q
  refine calls_J0 163 Try.func30 rfl rfl [.agg #[.int .i64 s.index, .slice s.locks.A s.locks.n s.locks.c, .slice s.pairs.A s.pairs.n s.pairs.c, .slice s.sessions.A s.sessions.n s.sessions.c]] rfl ?_
  refine Cs (Cg (Jq 3 [1] 1 ⟨[(1, .p 0 0)], [⟨29, s.cs⟩]⟩ (Ln (Qn (Cs (Cg (Jq 1 [13, 1] 1 ⟨[(13, .v s.val), (1, .p 0 0)], [⟨29, s.cs⟩]⟩ (Lp 40 [] [.v s.val] (.int .i64 (mState s.abs)) Try.call40 rfl rfl rfl rfl (fun bs w hS => ref_StateFault s w (Rds.kp hs hS.kp)) (Jq 1 [4, 1] 1 ⟨[(4, vI (mState s.abs)), (1, .p 0 0)], [⟨29, s.cs⟩]⟩ (Ln (Qn (Cs (Cs (Cg (Jq 2 [16, 4, 1] 1 ⟨[(16, vB (!(decide (mState s.abs = 0)))), (4, vI (mState s.abs)), (1, .p 0 0)], [⟨29, s.cs⟩]⟩ (Ln (Qn ?_)))))))))))))))))
  cases h1 : decide (mState s.abs = 0) with
  | true =>
    have h1 := of_decide_eq_true h1
    have hbd := mState_bd (x := s.abs) (by assumption)
    have hb1 := hbd.1
    have hb2 := hbd.2.1
    have hb3 := hbd.2.2.1
    have hb4 : ∀ q, (s.locks.at q).line.n ≤ 3 := fun q => by
      by_cases hq : q < s.locks.n
      · have := hbd.2.2.2.1 q (by rw [hll]; exact hq); rw [hal] at this; exact this
      · rw [at_out hq]; show 0 ≤ 3; omega
    have hb5 : ∀ q, (s.sessions.at q).replies.n ≤ 4 := fun q => by
      by_cases hq : q < s.sessions.n
      · have := hbd.2.2.2.2 q (by rw [hle]; exact hq); rw [hae] at this; exact this
      · rw [at_out hq]; show 0 ≤ 4; omega
    refine Ci false rfl (Ck (Qn (Cs (Cg (Jq 6 [23, 1] 2 ⟨[(23, .s 1 0 2 2), (1, .p 0 0)], [⟨29, s.cs⟩, ⟨3, [vI s.index, vI ((s.locks.n : Nat) : Int)]⟩]⟩ ?_)))))
    have hzj1 := mNums_size [(s.index : Int), (((s.locks.n : Nat) : Int) : Int)]
    simp only [List.length_cons, List.length_nil] at hzj1
    refine Lp 56 [] [.s 1 0 2 2] (.string (mNums [(s.index : Int), (((s.locks.n : Nat) : Int) : Int)])) Try.call56 rfl rfl rfl rfl (fun bs w hS => ref_joined (⟨some ⟨bs.getD 1 0, 0, none⟩, 2, [(s.index : Int), (((s.locks.n : Nat) : Int) : Int)]⟩ : Sl Int) w (rd_local [(s.index : Int), (((s.locks.n : Nat) : Int) : Int)] (hS.loc 1 _ rfl (by simp)) (by simp)) (by show 2 ≤ 1048576; omega)) ?_
    refine Jq 1 [5, 1] 1 ⟨[(5, vS (mNums [(s.index : Int), (((s.locks.n : Nat) : Int) : Int)])), (1, .p 0 0)], [⟨29, s.cs⟩]⟩ (Ln (Qn (Cs (Cs (Cg (Jq 1 [6, 5, 1] 1 ⟨[(6, vI 0), (5, vS (mNums [(s.index : Int), (((s.locks.n : Nat) : Int) : Int)])), (1, .p 0 0)], [⟨29, s.cs⟩]⟩ (Ln (Qn (Cb ?_)))))))))
    have hz00 : (mNums [(s.index : Int), (((s.locks.n : Nat) : Int) : Int)]).size ≤ 40 := by first | omega | (simp only [ByteArray.size_append]; omega)
    generalize hu0 : mNums [(s.index : Int), (((s.locks.n : Nat) : Int) : Int)] = z0 at hz00 ⊢
    refine Cl (σ := Nat × ByteArray) (fun ⟨i0, u0⟩ => i0 ≤ s.locks.n ∧ u0 = (s.abs.locks.take i0).foldl lockS z0 ∧ u0.size ≤ 40 + i0 * 5100) (fun ⟨i0, u0⟩ => s.locks.n - i0) (fun ⟨i0, u0⟩ => []) (fun ⟨i0, u0⟩ => ⟨[(5, vS u0), (6, vI (i0 : Int)), (1, .p 0 0)], [⟨29, s.cs⟩]⟩) ⟨0, z0⟩ ⟨Nat.zero_le _, rfl, by show z0.size ≤ 40 + 0 * 5100; omega⟩ (Ss [5, 6, 1] 1 (by kernel_rfl) rfl) ?_
    rintro ⟨i0, u0⟩ ⟨hi0, hI0, hz_0⟩
    have hb4i := hb4 i0
    have hb4x : (s.locks.at i0).line.xs.length ≤ 3 := hb4 i0
    refine Cs (Cs (Cg (Jq 5 [29, 5, 6, 1] 1 ⟨[(29, vB (decide ((i0 : Int) < ((s.locks.n : Nat) : Int)))), (5, vS u0), (6, vI (i0 : Int)), (1, .p 0 0)], [⟨29, s.cs⟩]⟩ (Ln (Qn ?_)))))
    cases h2 : decide ((i0 : Int) < ((s.locks.n : Nat) : Int)) with
    | true =>
      have h2 := of_decide_eq_true h2
      refine Ci true rfl (Ck (Qn (Cs (Cb (Cs (Cg (Jr 7 [(3, .idx s.locks.ad i0), (4, .ext [.string (s.locks.at i0).name, .int .i64 (s.locks.at i0).holder, .int .i64 (s.locks.at i0).fence, .slice (s.locks.at i0).line.A (s.locks.at i0).line.n (s.locks.at i0).line.c])] [7, 5, 6, 1] 2 ⟨[(7, .p 1 0), (5, vS u0), (6, vI (i0 : Int)), (1, .p 0 0)], [⟨29, s.cs⟩, ⟨74, (s.locks.at i0).cs⟩]⟩ [s.locks.A = some s.locks.ad, (i0 : Int) = (i0 : Int), i0 < s.locks.n] [(s.locks.ad.add (i0 * 4), [.string (s.locks.at i0).name, .int .i64 (s.locks.at i0).holder, .int .i64 (s.locks.at i0).fence, .slice (s.locks.at i0).line.A (s.locks.at i0).line.n (s.locks.at i0).line.c])] (by kernel_rfl) (oc (Sl.ok.own (s := s.locks) (i := i0) (And.left okx) (by omega)) (oc rfl (oc (by omega) on))) (fun w hk hr => ⟨(Sl.rd.all (s := s.locks) (i := i0) (And.left (Rds.kp hs hk)) (by omega) rfl), trivial⟩) (Ln (Qn (Cd 20 [] (.p 0 (.p 1 (.q 2 (.p 5 (.q 6 (.p 7 (.q 8 (.p 9 (.q 10 (.p 11 (.p 15 (.q 16 (.b 3 (.p 4 (.b 12 (.b 13 (.p 14 (.b 17 (.p 18 (.p 19 .nil)) .z)) .z) .z)) (.b 12 (.b 3 (.p 4 (.b 13 (.p 14 (.b 17 (.p 18 (.p 19 .nil)) .z)) .z)) .z) .z)))))))))))))) [] [] Try_mixed (by kernel_rfl) (pq_block (pq_then (pq_then (pq_block (pq_then pq_body))))) .slnil (Hq [] [(0, true), (1, true), (2, false), (5, true), (6, false), (7, true), (8, false), (9, true), (10, false), (11, true), (15, true), (16, false)] [(53, .v (s.locks.at i0).line.val), (52, .p 1 3), (48, vI (((s.locks.at i0).line.n : Nat) : Int)), (47, .v (s.locks.at i0).line.val), (46, .p 1 3), (45, vI (s.locks.at i0).fence), (44, .p 1 2), (43, vI (s.locks.at i0).holder), (42, .p 1 1), (39, vS (s.locks.at i0).name), (38, .p 1 0), (37, vS u0), (7, .p 1 0), (5, vS u0), (6, vI (i0 : Int)), (1, .p 0 0)] [] [] rfl (by kernel_rfl) on wn (h_br ?_ ?_))))))))))))
      ·
        have hzt2 := mTextB_size (s.locks.at i0).name
        refine h_pure 57 [] [vS (s.locks.at i0).name] (.string (mTextB (s.locks.at i0).name)) rfl Try.call57 rfl rfl rfl rfl (fun bs w hS => ref_worded _ w (And.left (Sl.ok.at (s := s.locks) (i := i0) (And.left okx) (by omega)))) (fun bs0 bs w hp hl hS => hS.down hp hl rfl (le_same (le_same le_nil)) .slnil) ?_
        refine Hq [] [(4, true)] [(41, vS (u0 ++ (mTextB (s.locks.at i0).name))), (40, vS (mTextB (s.locks.at i0).name)), (53, .v (s.locks.at i0).line.val), (52, .p 1 3), (48, vI (((s.locks.at i0).line.n : Nat) : Int)), (47, .v (s.locks.at i0).line.val), (46, .p 1 3), (45, vI (s.locks.at i0).fence), (44, .p 1 2), (43, vI (s.locks.at i0).holder), (42, .p 1 1), (39, vS (s.locks.at i0).name), (38, .p 1 0), (37, vS u0), (7, .p 1 0), (5, vS u0), (6, vI (i0 : Int)), (1, .p 0 0)] [u0.size + (mTextB (s.locks.at i0).name).size ≤ 9223372036854775807] [] rfl (by kernel_rfl) (oc (by first | omega | (simp only [ByteArray.size_append]; omega)) on) wn ?_
        refine Hl ⟨[(49, .s 2 0 3 3), (41, vS (u0 ++ (mTextB (s.locks.at i0).name))), (40, vS (mTextB (s.locks.at i0).name)), (53, .v (s.locks.at i0).line.val), (52, .p 1 3), (48, vI (((s.locks.at i0).line.n : Nat) : Int)), (47, .v (s.locks.at i0).line.val), (46, .p 1 3), (45, vI (s.locks.at i0).fence), (44, .p 1 2), (43, vI (s.locks.at i0).holder), (42, .p 1 1), (39, vS (s.locks.at i0).name), (38, .p 1 0), (37, vS u0), (7, .p 1 0), (5, vS u0), (6, vI (i0 : Int)), (1, .p 0 0)], [⟨29, s.cs⟩, ⟨74, (s.locks.at i0).cs⟩, ⟨3, [vI (s.locks.at i0).holder, vI (s.locks.at i0).fence, vI (((s.locks.at i0).line.n : Nat) : Int)]⟩]⟩ (by kernel_rfl) (fun bs0 bs w hp hl hS => hS.down hp hl rfl (le_same (le_same le_nil)) .slnil) ?_
        have hzj3 := mNums_size [((s.locks.at i0).holder : Int), ((s.locks.at i0).fence : Int), ((((s.locks.at i0).line.n : Nat) : Int) : Int)]
        simp only [List.length_cons, List.length_nil] at hzj3
        refine h_pure 56 [] [.s 2 0 3 3] (.string (mNums [((s.locks.at i0).holder : Int), ((s.locks.at i0).fence : Int), ((((s.locks.at i0).line.n : Nat) : Int) : Int)])) rfl Try.call56 rfl rfl rfl rfl (fun bs w hS => ref_joined (⟨some ⟨bs.getD 2 0, 0, none⟩, 3, [((s.locks.at i0).holder : Int), ((s.locks.at i0).fence : Int), ((((s.locks.at i0).line.n : Nat) : Int) : Int)]⟩ : Sl Int) w (rd_local [((s.locks.at i0).holder : Int), ((s.locks.at i0).fence : Int), ((((s.locks.at i0).line.n : Nat) : Int) : Int)] (hS.loc 2 _ rfl (by simp)) (by simp)) (by show 3 ≤ 1048576; omega)) (fun bs0 bs w hp hl hS => hS.down hp hl rfl (le_same (le_same le_nil)) .slnil) ?_
        refine Hq [] [(14, true)] [(51, vS ((u0 ++ (mTextB (s.locks.at i0).name)) ++ (mNums [((s.locks.at i0).holder : Int), ((s.locks.at i0).fence : Int), ((((s.locks.at i0).line.n : Nat) : Int) : Int)]))), (50, vS (mNums [((s.locks.at i0).holder : Int), ((s.locks.at i0).fence : Int), ((((s.locks.at i0).line.n : Nat) : Int) : Int)])), (49, .s 2 0 3 3), (41, vS (u0 ++ (mTextB (s.locks.at i0).name))), (40, vS (mTextB (s.locks.at i0).name)), (53, .v (s.locks.at i0).line.val), (52, .p 1 3), (48, vI (((s.locks.at i0).line.n : Nat) : Int)), (47, .v (s.locks.at i0).line.val), (46, .p 1 3), (45, vI (s.locks.at i0).fence), (44, .p 1 2), (43, vI (s.locks.at i0).holder), (42, .p 1 1), (39, vS (s.locks.at i0).name), (38, .p 1 0), (37, vS u0), (7, .p 1 0), (5, vS u0), (6, vI (i0 : Int)), (1, .p 0 0)] [(u0 ++ (mTextB (s.locks.at i0).name)).size + (mNums [((s.locks.at i0).holder : Int), ((s.locks.at i0).fence : Int), ((((s.locks.at i0).line.n : Nat) : Int) : Int)]).size ≤ 9223372036854775807] [] rfl (by kernel_rfl) (oc (by first | omega | (simp only [ByteArray.size_append]; omega)) on) wn ?_
        have hzj4 := mNums_size (s.locks.at i0).line.xs
        refine h_pure 56 [] [.v (s.locks.at i0).line.val] (.string (mNums (s.locks.at i0).line.xs)) rfl Try.call56 rfl rfl rfl rfl (fun bs w hS => ref_joined (s.locks.at i0).line w (And.right (Sl.rd.sub (s := s.locks) (i := i0) (And.left (Rds.kp hs hS.kp)) (by omega))) (by omega)) (fun bs0 bs w hp hl hS => hS.down hp hl rfl (le_same (le_same le_nil)) .slnil) ?_
        refine Hq [] [(18, true), (19, true)] [(5, vS (((u0 ++ (mTextB (s.locks.at i0).name)) ++ (mNums [((s.locks.at i0).holder : Int), ((s.locks.at i0).fence : Int), ((((s.locks.at i0).line.n : Nat) : Int) : Int)])) ++ (mNums (s.locks.at i0).line.xs))), (55, vS (((u0 ++ (mTextB (s.locks.at i0).name)) ++ (mNums [((s.locks.at i0).holder : Int), ((s.locks.at i0).fence : Int), ((((s.locks.at i0).line.n : Nat) : Int) : Int)])) ++ (mNums (s.locks.at i0).line.xs))), (54, vS (mNums (s.locks.at i0).line.xs)), (51, vS ((u0 ++ (mTextB (s.locks.at i0).name)) ++ (mNums [((s.locks.at i0).holder : Int), ((s.locks.at i0).fence : Int), ((((s.locks.at i0).line.n : Nat) : Int) : Int)]))), (50, vS (mNums [((s.locks.at i0).holder : Int), ((s.locks.at i0).fence : Int), ((((s.locks.at i0).line.n : Nat) : Int) : Int)])), (49, .s 2 0 3 3), (41, vS (u0 ++ (mTextB (s.locks.at i0).name))), (40, vS (mTextB (s.locks.at i0).name)), (53, .v (s.locks.at i0).line.val), (52, .p 1 3), (48, vI (((s.locks.at i0).line.n : Nat) : Int)), (47, .v (s.locks.at i0).line.val), (46, .p 1 3), (45, vI (s.locks.at i0).fence), (44, .p 1 2), (43, vI (s.locks.at i0).holder), (42, .p 1 1), (39, vS (s.locks.at i0).name), (38, .p 1 0), (37, vS u0), (7, .p 1 0), (6, vI (i0 : Int)), (1, .p 0 0)] [((u0 ++ (mTextB (s.locks.at i0).name)) ++ (mNums [((s.locks.at i0).holder : Int), ((s.locks.at i0).fence : Int), ((((s.locks.at i0).line.n : Nat) : Int) : Int)])).size + (mNums (s.locks.at i0).line.xs).size ≤ 9223372036854775807] [] rfl (by kernel_rfl) (oc (by first | omega | (simp only [ByteArray.size_append]; omega)) on) wn ?_
        refine Hn (Ln (q_block_normal (Qn (Cg (Jr 3 [] [6, 5, 1] 1 ⟨[(6, vI ((i0 : Int) + 1)), (5, vS (((u0 ++ (mTextB (s.locks.at i0).name)) ++ (mNums [((s.locks.at i0).holder : Int), ((s.locks.at i0).fence : Int), ((((s.locks.at i0).line.n : Nat) : Int) : Int)])) ++ (mNums (s.locks.at i0).line.xs))), (1, .p 0 0)], [⟨29, s.cs⟩]⟩ [inR ((i0 : Int) + 1)] [] (by kernel_rfl) (oc (by unfold inR; omega) on) wn ?_)))))
        have hst0 : ((u0 ++ (mTextB (s.locks.at i0).name)) ++ (mNums [((s.locks.at i0).holder : Int), ((s.locks.at i0).fence : Int), ((((s.locks.at i0).line.n : Nat) : Int) : Int)])) ++ (mNums (s.locks.at i0).line.xs) = lockS u0 (s.abs.locks.getD i0 default) := by
          rw [hal]; rfl
        have hzz0 : (((u0 ++ (mTextB (s.locks.at i0).name)) ++ (mNums [((s.locks.at i0).holder : Int), ((s.locks.at i0).fence : Int), ((((s.locks.at i0).line.n : Nat) : Int) : Int)])) ++ (mNums (s.locks.at i0).line.xs)).size ≤ 40 + (i0 + 1) * 5100 := by simp only [ByteArray.size_append]; omega
        refine Ln (q_loop (x := (⟨i0, u0⟩ : Nat × ByteArray)) (⟨i0 + 1, ((u0 ++ (mTextB (s.locks.at i0).name)) ++ (mNums [((s.locks.at i0).holder : Int), ((s.locks.at i0).fence : Int), ((((s.locks.at i0).line.n : Nat) : Int) : Int)])) ++ (mNums (s.locks.at i0).line.xs)⟩ : Nat × ByteArray) ⟨by show i0 + 1 ≤ s.locks.n; omega, by show _ = (s.abs.locks.take (i0 + 1)).foldl lockS z0; rw [hst0, hI0]; exact (foldl_take (i := i0) _ _ s.abs.locks (by omega)).symm, hzz0⟩ (by show s.locks.n - (i0 + 1) < s.locks.n - i0; omega) (Ss [5, 6, 1] 1 (by kernel_rfl) rfl))
      ·
        refine Hl ⟨[(49, .s 2 0 3 3), (53, .v (s.locks.at i0).line.val), (52, .p 1 3), (48, vI (((s.locks.at i0).line.n : Nat) : Int)), (47, .v (s.locks.at i0).line.val), (46, .p 1 3), (45, vI (s.locks.at i0).fence), (44, .p 1 2), (43, vI (s.locks.at i0).holder), (42, .p 1 1), (39, vS (s.locks.at i0).name), (38, .p 1 0), (37, vS u0), (7, .p 1 0), (5, vS u0), (6, vI (i0 : Int)), (1, .p 0 0)], [⟨29, s.cs⟩, ⟨74, (s.locks.at i0).cs⟩, ⟨3, [vI (s.locks.at i0).holder, vI (s.locks.at i0).fence, vI (((s.locks.at i0).line.n : Nat) : Int)]⟩]⟩ (by kernel_rfl) (fun bs0 bs w hp hl hS => hS.down hp hl rfl (le_same (le_same le_nil)) .slnil) ?_
        have hzt5 := mTextB_size (s.locks.at i0).name
        refine h_pure 57 [] [vS (s.locks.at i0).name] (.string (mTextB (s.locks.at i0).name)) rfl Try.call57 rfl rfl rfl rfl (fun bs w hS => ref_worded _ w (And.left (Sl.ok.at (s := s.locks) (i := i0) (And.left okx) (by omega)))) (fun bs0 bs w hp hl hS => hS.down hp hl rfl (le_same (le_same le_nil)) .slnil) ?_
        refine Hq [] [(4, true)] [(41, vS (u0 ++ (mTextB (s.locks.at i0).name))), (40, vS (mTextB (s.locks.at i0).name)), (49, .s 2 0 3 3), (53, .v (s.locks.at i0).line.val), (52, .p 1 3), (48, vI (((s.locks.at i0).line.n : Nat) : Int)), (47, .v (s.locks.at i0).line.val), (46, .p 1 3), (45, vI (s.locks.at i0).fence), (44, .p 1 2), (43, vI (s.locks.at i0).holder), (42, .p 1 1), (39, vS (s.locks.at i0).name), (38, .p 1 0), (37, vS u0), (7, .p 1 0), (5, vS u0), (6, vI (i0 : Int)), (1, .p 0 0)] [u0.size + (mTextB (s.locks.at i0).name).size ≤ 9223372036854775807] [] rfl (by kernel_rfl) (oc (by first | omega | (simp only [ByteArray.size_append]; omega)) on) wn ?_
        have hzj6 := mNums_size [((s.locks.at i0).holder : Int), ((s.locks.at i0).fence : Int), ((((s.locks.at i0).line.n : Nat) : Int) : Int)]
        simp only [List.length_cons, List.length_nil] at hzj6
        refine h_pure 56 [] [.s 2 0 3 3] (.string (mNums [((s.locks.at i0).holder : Int), ((s.locks.at i0).fence : Int), ((((s.locks.at i0).line.n : Nat) : Int) : Int)])) rfl Try.call56 rfl rfl rfl rfl (fun bs w hS => ref_joined (⟨some ⟨bs.getD 2 0, 0, none⟩, 3, [((s.locks.at i0).holder : Int), ((s.locks.at i0).fence : Int), ((((s.locks.at i0).line.n : Nat) : Int) : Int)]⟩ : Sl Int) w (rd_local [((s.locks.at i0).holder : Int), ((s.locks.at i0).fence : Int), ((((s.locks.at i0).line.n : Nat) : Int) : Int)] (hS.loc 2 _ rfl (by simp)) (by simp)) (by show 3 ≤ 1048576; omega)) (fun bs0 bs w hp hl hS => hS.down hp hl rfl (le_same (le_same le_nil)) .slnil) ?_
        refine Hq [] [(14, true)] [(51, vS ((u0 ++ (mTextB (s.locks.at i0).name)) ++ (mNums [((s.locks.at i0).holder : Int), ((s.locks.at i0).fence : Int), ((((s.locks.at i0).line.n : Nat) : Int) : Int)]))), (50, vS (mNums [((s.locks.at i0).holder : Int), ((s.locks.at i0).fence : Int), ((((s.locks.at i0).line.n : Nat) : Int) : Int)])), (41, vS (u0 ++ (mTextB (s.locks.at i0).name))), (40, vS (mTextB (s.locks.at i0).name)), (49, .s 2 0 3 3), (53, .v (s.locks.at i0).line.val), (52, .p 1 3), (48, vI (((s.locks.at i0).line.n : Nat) : Int)), (47, .v (s.locks.at i0).line.val), (46, .p 1 3), (45, vI (s.locks.at i0).fence), (44, .p 1 2), (43, vI (s.locks.at i0).holder), (42, .p 1 1), (39, vS (s.locks.at i0).name), (38, .p 1 0), (37, vS u0), (7, .p 1 0), (5, vS u0), (6, vI (i0 : Int)), (1, .p 0 0)] [(u0 ++ (mTextB (s.locks.at i0).name)).size + (mNums [((s.locks.at i0).holder : Int), ((s.locks.at i0).fence : Int), ((((s.locks.at i0).line.n : Nat) : Int) : Int)]).size ≤ 9223372036854775807] [] rfl (by kernel_rfl) (oc (by first | omega | (simp only [ByteArray.size_append]; omega)) on) wn ?_
        have hzj7 := mNums_size (s.locks.at i0).line.xs
        refine h_pure 56 [] [.v (s.locks.at i0).line.val] (.string (mNums (s.locks.at i0).line.xs)) rfl Try.call56 rfl rfl rfl rfl (fun bs w hS => ref_joined (s.locks.at i0).line w (And.right (Sl.rd.sub (s := s.locks) (i := i0) (And.left (Rds.kp hs hS.kp)) (by omega))) (by omega)) (fun bs0 bs w hp hl hS => hS.down hp hl rfl (le_same (le_same le_nil)) .slnil) ?_
        refine Hq [] [(18, true), (19, true)] [(5, vS (((u0 ++ (mTextB (s.locks.at i0).name)) ++ (mNums [((s.locks.at i0).holder : Int), ((s.locks.at i0).fence : Int), ((((s.locks.at i0).line.n : Nat) : Int) : Int)])) ++ (mNums (s.locks.at i0).line.xs))), (55, vS (((u0 ++ (mTextB (s.locks.at i0).name)) ++ (mNums [((s.locks.at i0).holder : Int), ((s.locks.at i0).fence : Int), ((((s.locks.at i0).line.n : Nat) : Int) : Int)])) ++ (mNums (s.locks.at i0).line.xs))), (54, vS (mNums (s.locks.at i0).line.xs)), (51, vS ((u0 ++ (mTextB (s.locks.at i0).name)) ++ (mNums [((s.locks.at i0).holder : Int), ((s.locks.at i0).fence : Int), ((((s.locks.at i0).line.n : Nat) : Int) : Int)]))), (50, vS (mNums [((s.locks.at i0).holder : Int), ((s.locks.at i0).fence : Int), ((((s.locks.at i0).line.n : Nat) : Int) : Int)])), (41, vS (u0 ++ (mTextB (s.locks.at i0).name))), (40, vS (mTextB (s.locks.at i0).name)), (49, .s 2 0 3 3), (53, .v (s.locks.at i0).line.val), (52, .p 1 3), (48, vI (((s.locks.at i0).line.n : Nat) : Int)), (47, .v (s.locks.at i0).line.val), (46, .p 1 3), (45, vI (s.locks.at i0).fence), (44, .p 1 2), (43, vI (s.locks.at i0).holder), (42, .p 1 1), (39, vS (s.locks.at i0).name), (38, .p 1 0), (37, vS u0), (7, .p 1 0), (6, vI (i0 : Int)), (1, .p 0 0)] [((u0 ++ (mTextB (s.locks.at i0).name)) ++ (mNums [((s.locks.at i0).holder : Int), ((s.locks.at i0).fence : Int), ((((s.locks.at i0).line.n : Nat) : Int) : Int)])).size + (mNums (s.locks.at i0).line.xs).size ≤ 9223372036854775807] [] rfl (by kernel_rfl) (oc (by first | omega | (simp only [ByteArray.size_append]; omega)) on) wn ?_
        refine Hn (Ln (q_block_normal (Qn (Cg (Jr 3 [] [6, 5, 1] 1 ⟨[(6, vI ((i0 : Int) + 1)), (5, vS (((u0 ++ (mTextB (s.locks.at i0).name)) ++ (mNums [((s.locks.at i0).holder : Int), ((s.locks.at i0).fence : Int), ((((s.locks.at i0).line.n : Nat) : Int) : Int)])) ++ (mNums (s.locks.at i0).line.xs))), (1, .p 0 0)], [⟨29, s.cs⟩]⟩ [inR ((i0 : Int) + 1)] [] (by kernel_rfl) (oc (by unfold inR; omega) on) wn ?_)))))
        have hst0 : ((u0 ++ (mTextB (s.locks.at i0).name)) ++ (mNums [((s.locks.at i0).holder : Int), ((s.locks.at i0).fence : Int), ((((s.locks.at i0).line.n : Nat) : Int) : Int)])) ++ (mNums (s.locks.at i0).line.xs) = lockS u0 (s.abs.locks.getD i0 default) := by
          rw [hal]; rfl
        have hzz0 : (((u0 ++ (mTextB (s.locks.at i0).name)) ++ (mNums [((s.locks.at i0).holder : Int), ((s.locks.at i0).fence : Int), ((((s.locks.at i0).line.n : Nat) : Int) : Int)])) ++ (mNums (s.locks.at i0).line.xs)).size ≤ 40 + (i0 + 1) * 5100 := by simp only [ByteArray.size_append]; omega
        refine Ln (q_loop (x := (⟨i0, u0⟩ : Nat × ByteArray)) (⟨i0 + 1, ((u0 ++ (mTextB (s.locks.at i0).name)) ++ (mNums [((s.locks.at i0).holder : Int), ((s.locks.at i0).fence : Int), ((((s.locks.at i0).line.n : Nat) : Int) : Int)])) ++ (mNums (s.locks.at i0).line.xs)⟩ : Nat × ByteArray) ⟨by show i0 + 1 ≤ s.locks.n; omega, by show _ = (s.abs.locks.take (i0 + 1)).foldl lockS z0; rw [hst0, hI0]; exact (foldl_take (i := i0) _ _ s.abs.locks (by omega)).symm, hzz0⟩ (by show s.locks.n - (i0 + 1) < s.locks.n - i0; omega) (Ss [5, 6, 1] 1 (by kernel_rfl) rfl))
    | false =>
      have h2 := of_decide_eq_false h2
      refine Ci false rfl (c_exit (Qe (Qe (Qh (Qn (Cs (Cg (Jq 5 [60, 56, 1] 2 ⟨[(60, .s 1 0 1 1), (56, vS u0), (1, .p 0 0)], [⟨29, s.cs⟩, ⟨3, [vI ((s.pairs.n : Nat) : Int)]⟩]⟩ ?_))))))))
      have hzj8 := mNums_size [(((s.pairs.n : Nat) : Int) : Int)]
      simp only [List.length_cons, List.length_nil] at hzj8
      refine Lp 56 [] [.s 1 0 1 1] (.string (mNums [(((s.pairs.n : Nat) : Int) : Int)])) Try.call56 rfl rfl rfl rfl (fun bs w hS => ref_joined (⟨some ⟨bs.getD 1 0, 0, none⟩, 1, [(((s.pairs.n : Nat) : Int) : Int)]⟩ : Sl Int) w (rd_local [(((s.pairs.n : Nat) : Int) : Int)] (hS.loc 1 _ rfl (by simp)) (by simp)) (by show 1 ≤ 1048576; omega)) ?_
      refine Jr 2 [] [5, 1] 1 ⟨[(5, vS (u0 ++ (mNums [(((s.pairs.n : Nat) : Int) : Int)]))), (1, .p 0 0)], [⟨29, s.cs⟩]⟩ [u0.size + (mNums [(((s.pairs.n : Nat) : Int) : Int)]).size ≤ 9223372036854775807] [] (by kernel_rfl) (oc (by first | omega | (simp only [ByteArray.size_append]; omega)) on) wn ?_
      refine Ln (Qn (Cs (Cs (Cg (Jq 1 [8, 5, 1] 1 ⟨[(8, vI 0), (5, vS (u0 ++ (mNums [(((s.pairs.n : Nat) : Int) : Int)]))), (1, .p 0 0)], [⟨29, s.cs⟩]⟩ (Ln (Qn (Cb ?_))))))))
      have hz01 : (u0 ++ (mNums [(((s.pairs.n : Nat) : Int) : Int)])).size ≤ 30000 := by first | omega | (simp only [ByteArray.size_append]; omega)
      generalize hu1 : u0 ++ (mNums [(((s.pairs.n : Nat) : Int) : Int)]) = z1 at hz01 ⊢
      refine Cl (σ := Nat × ByteArray) (fun ⟨i1, u1⟩ => i1 ≤ s.pairs.n ∧ u1 = (s.pairs.xs.take i1).foldl pairS z1 ∧ u1.size ≤ 30000 + i1 * 10100) (fun ⟨i1, u1⟩ => s.pairs.n - i1) (fun ⟨i1, u1⟩ => []) (fun ⟨i1, u1⟩ => ⟨[(5, vS u1), (8, vI (i1 : Int)), (1, .p 0 0)], [⟨29, s.cs⟩]⟩) ⟨0, z1⟩ ⟨Nat.zero_le _, rfl, by show z1.size ≤ 30000 + 0 * 10100; omega⟩ (Ss [5, 8, 1] 1 (by kernel_rfl) rfl) ?_
      rintro ⟨i1, u1⟩ ⟨hi1, hI1, hz_1⟩
      refine Cs (Cs (Cg (Jq 5 [67, 5, 8, 1] 1 ⟨[(67, vB (decide ((i1 : Int) < ((s.pairs.n : Nat) : Int)))), (5, vS u1), (8, vI (i1 : Int)), (1, .p 0 0)], [⟨29, s.cs⟩]⟩ (Ln (Qn ?_)))))
      cases h3 : decide ((i1 : Int) < ((s.pairs.n : Nat) : Int)) with
      | true =>
        have h3 := of_decide_eq_true h3
        refine Ci true rfl (Ck (Qn (Cs (Cb (Cd 27 [] (.p 0 (.p 1 (.q 2 (.p 3 (.p 4 (.p 5 (.q 6 (.p 9 (.q 10 (.p 11 (.p 12 (.p 13 (.q 14 (.p 17 (.q 18 (.p 19 (.p 20 (.p 21 (.q 22 (.b 7 (.p 8 (.b 15 (.p 16 (.b 23 (.b 24 (.p 25 (.p 26 .nil)) .z) .z)) (.b 23 (.b 15 (.p 16 (.b 24 (.p 25 (.p 26 .nil)) .z)) .z) .z))) (.b 23 (.b 7 (.p 8 (.b 15 (.p 16 (.b 24 (.p 25 (.p 26 .nil)) .z)) .z)) .z) .z))))))))))))))))))))) [] [] Try_mixed (by kernel_rfl) (pq_block (pq_then (pq_then (pq_block (pq_then pq_body))))) .slnil (Hq [(4, .idx s.pairs.ad i1), (6, .ext [.string (s.pairs.at i1).name]), (12, .idx s.pairs.ad i1), (14, .ext [.string (s.pairs.at i1).value]), (20, .idx s.pairs.ad i1), (22, .ext [.int .i64 (s.pairs.at i1).version])] [(0, true), (1, true), (2, false), (3, true), (4, true), (5, true), (6, false), (9, true), (10, false), (11, true), (12, true), (13, true), (14, false), (17, true), (18, false), (19, true), (20, true), (21, true), (22, false)] [(92, vI (s.pairs.at i1).version), (91, .v (.pointer (some ((s.pairs.ad.add (i1 * 3)).add 2)))), (90, .v (.pointer (some (s.pairs.ad.add (i1 * 3))))), (89, vI (i1 : Int)), (88, .v s.pairs.val), (87, .p 0 2), (84, vS (s.pairs.at i1).value), (83, .v (.pointer (some ((s.pairs.ad.add (i1 * 3)).add 1)))), (82, .v (.pointer (some (s.pairs.ad.add (i1 * 3))))), (81, vI (i1 : Int)), (80, .v s.pairs.val), (79, .p 0 2), (76, vS (s.pairs.at i1).name), (75, .v (.pointer (some ((s.pairs.ad.add (i1 * 3)).add 0)))), (74, .v (.pointer (some (s.pairs.ad.add (i1 * 3))))), (73, vI (i1 : Int)), (72, .v s.pairs.val), (71, .p 0 2), (70, vS u1), (67, vB true), (5, vS u1), (8, vI (i1 : Int)), (1, .p 0 0)] [s.pairs.A = some s.pairs.ad, (i1 : Int) = (i1 : Int), i1 < s.pairs.n, s.pairs.A = some s.pairs.ad, (i1 : Int) = (i1 : Int), i1 < s.pairs.n, s.pairs.A = some s.pairs.ad, (i1 : Int) = (i1 : Int), i1 < s.pairs.n] [((s.pairs.ad.add (i1 * 3)).add 0, [.string (s.pairs.at i1).name]), ((s.pairs.ad.add (i1 * 3)).add 1, [.string (s.pairs.at i1).value]), ((s.pairs.ad.add (i1 * 3)).add 2, [.int .i64 (s.pairs.at i1).version])] rfl (by kernel_rfl) (oc (Sl.ok.own (s := s.pairs) (i := i1) (And.left (And.right okx)) (by omega)) (oc rfl (oc (by omega) (oc (Sl.ok.own (s := s.pairs) (i := i1) (And.left (And.right okx)) (by omega)) (oc rfl (oc (by omega) (oc (Sl.ok.own (s := s.pairs) (i := i1) (And.left (And.right okx)) (by omega)) (oc rfl (oc (by omega) on))))))))) (fun w hk hr => ⟨(Sl.rd.fld (s := s.pairs) (i := i1) (And.left (And.right (Rds.kp hs hk))) (by omega) 0 1 rfl), ⟨(Sl.rd.fld (s := s.pairs) (i := i1) (And.left (And.right (Rds.kp hs hk))) (by omega) 1 1 rfl), ⟨(Sl.rd.fld (s := s.pairs) (i := i1) (And.left (And.right (Rds.kp hs hk))) (by omega) 2 1 rfl), trivial⟩⟩⟩) (h_br ?_ ?_)))))))
        ·
          have hzt9 := mTextB_size (s.pairs.at i1).name
          refine h_pure 57 [] [vS (s.pairs.at i1).name] (.string (mTextB (s.pairs.at i1).name)) rfl Try.call57 rfl rfl rfl rfl (fun bs w hS => ref_worded _ w (And.left (Sl.ok.at (s := s.pairs) (i := i1) (And.left (And.right okx)) (by omega)))) (fun bs0 bs w hp hl hS => hS.down hp hl rfl (le_same le_nil) .slnil) ?_
          refine Hq [] [(8, true)] [(78, vS (u1 ++ (mTextB (s.pairs.at i1).name))), (77, vS (mTextB (s.pairs.at i1).name)), (92, vI (s.pairs.at i1).version), (91, .v (.pointer (some ((s.pairs.ad.add (i1 * 3)).add 2)))), (90, .v (.pointer (some (s.pairs.ad.add (i1 * 3))))), (89, vI (i1 : Int)), (88, .v s.pairs.val), (87, .p 0 2), (84, vS (s.pairs.at i1).value), (83, .v (.pointer (some ((s.pairs.ad.add (i1 * 3)).add 1)))), (82, .v (.pointer (some (s.pairs.ad.add (i1 * 3))))), (81, vI (i1 : Int)), (80, .v s.pairs.val), (79, .p 0 2), (76, vS (s.pairs.at i1).name), (75, .v (.pointer (some ((s.pairs.ad.add (i1 * 3)).add 0)))), (74, .v (.pointer (some (s.pairs.ad.add (i1 * 3))))), (73, vI (i1 : Int)), (72, .v s.pairs.val), (71, .p 0 2), (70, vS u1), (67, vB true), (5, vS u1), (8, vI (i1 : Int)), (1, .p 0 0)] [u1.size + (mTextB (s.pairs.at i1).name).size ≤ 9223372036854775807] [] rfl (by kernel_rfl) (oc (by first | omega | (simp only [ByteArray.size_append]; omega)) on) wn ?_
          refine h_br ?_ ?_
          ·
            have hzt10 := mTextB_size (s.pairs.at i1).value
            refine h_pure 57 [] [vS (s.pairs.at i1).value] (.string (mTextB (s.pairs.at i1).value)) rfl Try.call57 rfl rfl rfl rfl (fun bs w hS => ref_worded _ w (And.right (Sl.ok.at (s := s.pairs) (i := i1) (And.left (And.right okx)) (by omega)))) (fun bs0 bs w hp hl hS => hS.down hp hl rfl (le_same le_nil) .slnil) ?_
            refine Hq [] [(16, true)] [(86, vS ((u1 ++ (mTextB (s.pairs.at i1).name)) ++ (mTextB (s.pairs.at i1).value))), (85, vS (mTextB (s.pairs.at i1).value)), (78, vS (u1 ++ (mTextB (s.pairs.at i1).name))), (77, vS (mTextB (s.pairs.at i1).name)), (92, vI (s.pairs.at i1).version), (91, .v (.pointer (some ((s.pairs.ad.add (i1 * 3)).add 2)))), (90, .v (.pointer (some (s.pairs.ad.add (i1 * 3))))), (89, vI (i1 : Int)), (88, .v s.pairs.val), (87, .p 0 2), (84, vS (s.pairs.at i1).value), (83, .v (.pointer (some ((s.pairs.ad.add (i1 * 3)).add 1)))), (82, .v (.pointer (some (s.pairs.ad.add (i1 * 3))))), (81, vI (i1 : Int)), (80, .v s.pairs.val), (79, .p 0 2), (76, vS (s.pairs.at i1).name), (75, .v (.pointer (some ((s.pairs.ad.add (i1 * 3)).add 0)))), (74, .v (.pointer (some (s.pairs.ad.add (i1 * 3))))), (73, vI (i1 : Int)), (72, .v s.pairs.val), (71, .p 0 2), (70, vS u1), (67, vB true), (5, vS u1), (8, vI (i1 : Int)), (1, .p 0 0)] [(u1 ++ (mTextB (s.pairs.at i1).name)).size + (mTextB (s.pairs.at i1).value).size ≤ 9223372036854775807] [] rfl (by kernel_rfl) (oc (by first | omega | (simp only [ByteArray.size_append]; omega)) on) wn ?_
            refine Hl ⟨[(93, .s 1 0 1 1), (86, vS ((u1 ++ (mTextB (s.pairs.at i1).name)) ++ (mTextB (s.pairs.at i1).value))), (85, vS (mTextB (s.pairs.at i1).value)), (78, vS (u1 ++ (mTextB (s.pairs.at i1).name))), (77, vS (mTextB (s.pairs.at i1).name)), (92, vI (s.pairs.at i1).version), (91, .v (.pointer (some ((s.pairs.ad.add (i1 * 3)).add 2)))), (90, .v (.pointer (some (s.pairs.ad.add (i1 * 3))))), (89, vI (i1 : Int)), (88, .v s.pairs.val), (87, .p 0 2), (84, vS (s.pairs.at i1).value), (83, .v (.pointer (some ((s.pairs.ad.add (i1 * 3)).add 1)))), (82, .v (.pointer (some (s.pairs.ad.add (i1 * 3))))), (81, vI (i1 : Int)), (80, .v s.pairs.val), (79, .p 0 2), (76, vS (s.pairs.at i1).name), (75, .v (.pointer (some ((s.pairs.ad.add (i1 * 3)).add 0)))), (74, .v (.pointer (some (s.pairs.ad.add (i1 * 3))))), (73, vI (i1 : Int)), (72, .v s.pairs.val), (71, .p 0 2), (70, vS u1), (67, vB true), (5, vS u1), (8, vI (i1 : Int)), (1, .p 0 0)], [⟨29, s.cs⟩, ⟨3, [vI (s.pairs.at i1).version]⟩]⟩ (by kernel_rfl) (fun bs0 bs w hp hl hS => hS.down hp hl rfl (le_same le_nil) .slnil) ?_
            have hzj11 := mNums_size [((s.pairs.at i1).version : Int)]
            simp only [List.length_cons, List.length_nil] at hzj11
            refine h_pure 56 [] [.s 1 0 1 1] (.string (mNums [((s.pairs.at i1).version : Int)])) rfl Try.call56 rfl rfl rfl rfl (fun bs w hS => ref_joined (⟨some ⟨bs.getD 1 0, 0, none⟩, 1, [((s.pairs.at i1).version : Int)]⟩ : Sl Int) w (rd_local [((s.pairs.at i1).version : Int)] (hS.loc 1 _ rfl (by simp)) (by simp)) (by show 1 ≤ 1048576; omega)) (fun bs0 bs w hp hl hS => hS.down hp hl rfl (le_same le_nil) .slnil) ?_
            refine Hq [] [(25, true), (26, true)] [(5, vS (((u1 ++ (mTextB (s.pairs.at i1).name)) ++ (mTextB (s.pairs.at i1).value)) ++ (mNums [((s.pairs.at i1).version : Int)]))), (95, vS (((u1 ++ (mTextB (s.pairs.at i1).name)) ++ (mTextB (s.pairs.at i1).value)) ++ (mNums [((s.pairs.at i1).version : Int)]))), (94, vS (mNums [((s.pairs.at i1).version : Int)])), (93, .s 1 0 1 1), (86, vS ((u1 ++ (mTextB (s.pairs.at i1).name)) ++ (mTextB (s.pairs.at i1).value))), (85, vS (mTextB (s.pairs.at i1).value)), (78, vS (u1 ++ (mTextB (s.pairs.at i1).name))), (77, vS (mTextB (s.pairs.at i1).name)), (92, vI (s.pairs.at i1).version), (91, .v (.pointer (some ((s.pairs.ad.add (i1 * 3)).add 2)))), (90, .v (.pointer (some (s.pairs.ad.add (i1 * 3))))), (89, vI (i1 : Int)), (88, .v s.pairs.val), (87, .p 0 2), (84, vS (s.pairs.at i1).value), (83, .v (.pointer (some ((s.pairs.ad.add (i1 * 3)).add 1)))), (82, .v (.pointer (some (s.pairs.ad.add (i1 * 3))))), (81, vI (i1 : Int)), (80, .v s.pairs.val), (79, .p 0 2), (76, vS (s.pairs.at i1).name), (75, .v (.pointer (some ((s.pairs.ad.add (i1 * 3)).add 0)))), (74, .v (.pointer (some (s.pairs.ad.add (i1 * 3))))), (73, vI (i1 : Int)), (72, .v s.pairs.val), (71, .p 0 2), (70, vS u1), (67, vB true), (8, vI (i1 : Int)), (1, .p 0 0)] [((u1 ++ (mTextB (s.pairs.at i1).name)) ++ (mTextB (s.pairs.at i1).value)).size + (mNums [((s.pairs.at i1).version : Int)]).size ≤ 9223372036854775807] [] rfl (by kernel_rfl) (oc (by first | omega | (simp only [ByteArray.size_append]; omega)) on) wn ?_
            refine Hn (Ln (q_block_normal (Qn (Cg (Jr 3 [] [8, 5, 1] 1 ⟨[(8, vI ((i1 : Int) + 1)), (5, vS (((u1 ++ (mTextB (s.pairs.at i1).name)) ++ (mTextB (s.pairs.at i1).value)) ++ (mNums [((s.pairs.at i1).version : Int)]))), (1, .p 0 0)], [⟨29, s.cs⟩]⟩ [inR ((i1 : Int) + 1)] [] (by kernel_rfl) (oc (by unfold inR; omega) on) wn ?_)))))
            have hst1 : ((u1 ++ (mTextB (s.pairs.at i1).name)) ++ (mTextB (s.pairs.at i1).value)) ++ (mNums [((s.pairs.at i1).version : Int)]) = pairS u1 (s.pairs.xs.getD i1 default) := by
              rfl
            have hzz1 : (((u1 ++ (mTextB (s.pairs.at i1).name)) ++ (mTextB (s.pairs.at i1).value)) ++ (mNums [((s.pairs.at i1).version : Int)])).size ≤ 30000 + (i1 + 1) * 10100 := by simp only [ByteArray.size_append]; omega
            refine Ln (q_loop (x := (⟨i1, u1⟩ : Nat × ByteArray)) (⟨i1 + 1, ((u1 ++ (mTextB (s.pairs.at i1).name)) ++ (mTextB (s.pairs.at i1).value)) ++ (mNums [((s.pairs.at i1).version : Int)])⟩ : Nat × ByteArray) ⟨by show i1 + 1 ≤ s.pairs.n; omega, by show _ = (s.pairs.xs.take (i1 + 1)).foldl pairS z1; rw [hst1, hI1]; exact (foldl_take (i := i1) _ _ s.pairs.xs (by omega)).symm, hzz1⟩ (by show s.pairs.n - (i1 + 1) < s.pairs.n - i1; omega) (Ss [5, 8, 1] 1 (by kernel_rfl) rfl))
          ·
            refine Hl ⟨[(93, .s 1 0 1 1), (78, vS (u1 ++ (mTextB (s.pairs.at i1).name))), (77, vS (mTextB (s.pairs.at i1).name)), (92, vI (s.pairs.at i1).version), (91, .v (.pointer (some ((s.pairs.ad.add (i1 * 3)).add 2)))), (90, .v (.pointer (some (s.pairs.ad.add (i1 * 3))))), (89, vI (i1 : Int)), (88, .v s.pairs.val), (87, .p 0 2), (84, vS (s.pairs.at i1).value), (83, .v (.pointer (some ((s.pairs.ad.add (i1 * 3)).add 1)))), (82, .v (.pointer (some (s.pairs.ad.add (i1 * 3))))), (81, vI (i1 : Int)), (80, .v s.pairs.val), (79, .p 0 2), (76, vS (s.pairs.at i1).name), (75, .v (.pointer (some ((s.pairs.ad.add (i1 * 3)).add 0)))), (74, .v (.pointer (some (s.pairs.ad.add (i1 * 3))))), (73, vI (i1 : Int)), (72, .v s.pairs.val), (71, .p 0 2), (70, vS u1), (67, vB true), (5, vS u1), (8, vI (i1 : Int)), (1, .p 0 0)], [⟨29, s.cs⟩, ⟨3, [vI (s.pairs.at i1).version]⟩]⟩ (by kernel_rfl) (fun bs0 bs w hp hl hS => hS.down hp hl rfl (le_same le_nil) .slnil) ?_
            have hzt12 := mTextB_size (s.pairs.at i1).value
            refine h_pure 57 [] [vS (s.pairs.at i1).value] (.string (mTextB (s.pairs.at i1).value)) rfl Try.call57 rfl rfl rfl rfl (fun bs w hS => ref_worded _ w (And.right (Sl.ok.at (s := s.pairs) (i := i1) (And.left (And.right okx)) (by omega)))) (fun bs0 bs w hp hl hS => hS.down hp hl rfl (le_same le_nil) .slnil) ?_
            refine Hq [] [(16, true)] [(86, vS ((u1 ++ (mTextB (s.pairs.at i1).name)) ++ (mTextB (s.pairs.at i1).value))), (85, vS (mTextB (s.pairs.at i1).value)), (93, .s 1 0 1 1), (78, vS (u1 ++ (mTextB (s.pairs.at i1).name))), (77, vS (mTextB (s.pairs.at i1).name)), (92, vI (s.pairs.at i1).version), (91, .v (.pointer (some ((s.pairs.ad.add (i1 * 3)).add 2)))), (90, .v (.pointer (some (s.pairs.ad.add (i1 * 3))))), (89, vI (i1 : Int)), (88, .v s.pairs.val), (87, .p 0 2), (84, vS (s.pairs.at i1).value), (83, .v (.pointer (some ((s.pairs.ad.add (i1 * 3)).add 1)))), (82, .v (.pointer (some (s.pairs.ad.add (i1 * 3))))), (81, vI (i1 : Int)), (80, .v s.pairs.val), (79, .p 0 2), (76, vS (s.pairs.at i1).name), (75, .v (.pointer (some ((s.pairs.ad.add (i1 * 3)).add 0)))), (74, .v (.pointer (some (s.pairs.ad.add (i1 * 3))))), (73, vI (i1 : Int)), (72, .v s.pairs.val), (71, .p 0 2), (70, vS u1), (67, vB true), (5, vS u1), (8, vI (i1 : Int)), (1, .p 0 0)] [(u1 ++ (mTextB (s.pairs.at i1).name)).size + (mTextB (s.pairs.at i1).value).size ≤ 9223372036854775807] [] rfl (by kernel_rfl) (oc (by first | omega | (simp only [ByteArray.size_append]; omega)) on) wn ?_
            have hzj13 := mNums_size [((s.pairs.at i1).version : Int)]
            simp only [List.length_cons, List.length_nil] at hzj13
            refine h_pure 56 [] [.s 1 0 1 1] (.string (mNums [((s.pairs.at i1).version : Int)])) rfl Try.call56 rfl rfl rfl rfl (fun bs w hS => ref_joined (⟨some ⟨bs.getD 1 0, 0, none⟩, 1, [((s.pairs.at i1).version : Int)]⟩ : Sl Int) w (rd_local [((s.pairs.at i1).version : Int)] (hS.loc 1 _ rfl (by simp)) (by simp)) (by show 1 ≤ 1048576; omega)) (fun bs0 bs w hp hl hS => hS.down hp hl rfl (le_same le_nil) .slnil) ?_
            refine Hq [] [(25, true), (26, true)] [(5, vS (((u1 ++ (mTextB (s.pairs.at i1).name)) ++ (mTextB (s.pairs.at i1).value)) ++ (mNums [((s.pairs.at i1).version : Int)]))), (95, vS (((u1 ++ (mTextB (s.pairs.at i1).name)) ++ (mTextB (s.pairs.at i1).value)) ++ (mNums [((s.pairs.at i1).version : Int)]))), (94, vS (mNums [((s.pairs.at i1).version : Int)])), (86, vS ((u1 ++ (mTextB (s.pairs.at i1).name)) ++ (mTextB (s.pairs.at i1).value))), (85, vS (mTextB (s.pairs.at i1).value)), (93, .s 1 0 1 1), (78, vS (u1 ++ (mTextB (s.pairs.at i1).name))), (77, vS (mTextB (s.pairs.at i1).name)), (92, vI (s.pairs.at i1).version), (91, .v (.pointer (some ((s.pairs.ad.add (i1 * 3)).add 2)))), (90, .v (.pointer (some (s.pairs.ad.add (i1 * 3))))), (89, vI (i1 : Int)), (88, .v s.pairs.val), (87, .p 0 2), (84, vS (s.pairs.at i1).value), (83, .v (.pointer (some ((s.pairs.ad.add (i1 * 3)).add 1)))), (82, .v (.pointer (some (s.pairs.ad.add (i1 * 3))))), (81, vI (i1 : Int)), (80, .v s.pairs.val), (79, .p 0 2), (76, vS (s.pairs.at i1).name), (75, .v (.pointer (some ((s.pairs.ad.add (i1 * 3)).add 0)))), (74, .v (.pointer (some (s.pairs.ad.add (i1 * 3))))), (73, vI (i1 : Int)), (72, .v s.pairs.val), (71, .p 0 2), (70, vS u1), (67, vB true), (8, vI (i1 : Int)), (1, .p 0 0)] [((u1 ++ (mTextB (s.pairs.at i1).name)) ++ (mTextB (s.pairs.at i1).value)).size + (mNums [((s.pairs.at i1).version : Int)]).size ≤ 9223372036854775807] [] rfl (by kernel_rfl) (oc (by first | omega | (simp only [ByteArray.size_append]; omega)) on) wn ?_
            refine Hn (Ln (q_block_normal (Qn (Cg (Jr 3 [] [8, 5, 1] 1 ⟨[(8, vI ((i1 : Int) + 1)), (5, vS (((u1 ++ (mTextB (s.pairs.at i1).name)) ++ (mTextB (s.pairs.at i1).value)) ++ (mNums [((s.pairs.at i1).version : Int)]))), (1, .p 0 0)], [⟨29, s.cs⟩]⟩ [inR ((i1 : Int) + 1)] [] (by kernel_rfl) (oc (by unfold inR; omega) on) wn ?_)))))
            have hst1 : ((u1 ++ (mTextB (s.pairs.at i1).name)) ++ (mTextB (s.pairs.at i1).value)) ++ (mNums [((s.pairs.at i1).version : Int)]) = pairS u1 (s.pairs.xs.getD i1 default) := by
              rfl
            have hzz1 : (((u1 ++ (mTextB (s.pairs.at i1).name)) ++ (mTextB (s.pairs.at i1).value)) ++ (mNums [((s.pairs.at i1).version : Int)])).size ≤ 30000 + (i1 + 1) * 10100 := by simp only [ByteArray.size_append]; omega
            refine Ln (q_loop (x := (⟨i1, u1⟩ : Nat × ByteArray)) (⟨i1 + 1, ((u1 ++ (mTextB (s.pairs.at i1).name)) ++ (mTextB (s.pairs.at i1).value)) ++ (mNums [((s.pairs.at i1).version : Int)])⟩ : Nat × ByteArray) ⟨by show i1 + 1 ≤ s.pairs.n; omega, by show _ = (s.pairs.xs.take (i1 + 1)).foldl pairS z1; rw [hst1, hI1]; exact (foldl_take (i := i1) _ _ s.pairs.xs (by omega)).symm, hzz1⟩ (by show s.pairs.n - (i1 + 1) < s.pairs.n - i1; omega) (Ss [5, 8, 1] 1 (by kernel_rfl) rfl))
        ·
          refine Hl ⟨[(93, .s 1 0 1 1), (92, vI (s.pairs.at i1).version), (91, .v (.pointer (some ((s.pairs.ad.add (i1 * 3)).add 2)))), (90, .v (.pointer (some (s.pairs.ad.add (i1 * 3))))), (89, vI (i1 : Int)), (88, .v s.pairs.val), (87, .p 0 2), (84, vS (s.pairs.at i1).value), (83, .v (.pointer (some ((s.pairs.ad.add (i1 * 3)).add 1)))), (82, .v (.pointer (some (s.pairs.ad.add (i1 * 3))))), (81, vI (i1 : Int)), (80, .v s.pairs.val), (79, .p 0 2), (76, vS (s.pairs.at i1).name), (75, .v (.pointer (some ((s.pairs.ad.add (i1 * 3)).add 0)))), (74, .v (.pointer (some (s.pairs.ad.add (i1 * 3))))), (73, vI (i1 : Int)), (72, .v s.pairs.val), (71, .p 0 2), (70, vS u1), (67, vB true), (5, vS u1), (8, vI (i1 : Int)), (1, .p 0 0)], [⟨29, s.cs⟩, ⟨3, [vI (s.pairs.at i1).version]⟩]⟩ (by kernel_rfl) (fun bs0 bs w hp hl hS => hS.down hp hl rfl (le_same le_nil) .slnil) ?_
          have hzt14 := mTextB_size (s.pairs.at i1).name
          refine h_pure 57 [] [vS (s.pairs.at i1).name] (.string (mTextB (s.pairs.at i1).name)) rfl Try.call57 rfl rfl rfl rfl (fun bs w hS => ref_worded _ w (And.left (Sl.ok.at (s := s.pairs) (i := i1) (And.left (And.right okx)) (by omega)))) (fun bs0 bs w hp hl hS => hS.down hp hl rfl (le_same le_nil) .slnil) ?_
          refine Hq [] [(8, true)] [(78, vS (u1 ++ (mTextB (s.pairs.at i1).name))), (77, vS (mTextB (s.pairs.at i1).name)), (93, .s 1 0 1 1), (92, vI (s.pairs.at i1).version), (91, .v (.pointer (some ((s.pairs.ad.add (i1 * 3)).add 2)))), (90, .v (.pointer (some (s.pairs.ad.add (i1 * 3))))), (89, vI (i1 : Int)), (88, .v s.pairs.val), (87, .p 0 2), (84, vS (s.pairs.at i1).value), (83, .v (.pointer (some ((s.pairs.ad.add (i1 * 3)).add 1)))), (82, .v (.pointer (some (s.pairs.ad.add (i1 * 3))))), (81, vI (i1 : Int)), (80, .v s.pairs.val), (79, .p 0 2), (76, vS (s.pairs.at i1).name), (75, .v (.pointer (some ((s.pairs.ad.add (i1 * 3)).add 0)))), (74, .v (.pointer (some (s.pairs.ad.add (i1 * 3))))), (73, vI (i1 : Int)), (72, .v s.pairs.val), (71, .p 0 2), (70, vS u1), (67, vB true), (5, vS u1), (8, vI (i1 : Int)), (1, .p 0 0)] [u1.size + (mTextB (s.pairs.at i1).name).size ≤ 9223372036854775807] [] rfl (by kernel_rfl) (oc (by first | omega | (simp only [ByteArray.size_append]; omega)) on) wn ?_
          have hzt15 := mTextB_size (s.pairs.at i1).value
          refine h_pure 57 [] [vS (s.pairs.at i1).value] (.string (mTextB (s.pairs.at i1).value)) rfl Try.call57 rfl rfl rfl rfl (fun bs w hS => ref_worded _ w (And.right (Sl.ok.at (s := s.pairs) (i := i1) (And.left (And.right okx)) (by omega)))) (fun bs0 bs w hp hl hS => hS.down hp hl rfl (le_same le_nil) .slnil) ?_
          refine Hq [] [(16, true)] [(86, vS ((u1 ++ (mTextB (s.pairs.at i1).name)) ++ (mTextB (s.pairs.at i1).value))), (85, vS (mTextB (s.pairs.at i1).value)), (78, vS (u1 ++ (mTextB (s.pairs.at i1).name))), (77, vS (mTextB (s.pairs.at i1).name)), (93, .s 1 0 1 1), (92, vI (s.pairs.at i1).version), (91, .v (.pointer (some ((s.pairs.ad.add (i1 * 3)).add 2)))), (90, .v (.pointer (some (s.pairs.ad.add (i1 * 3))))), (89, vI (i1 : Int)), (88, .v s.pairs.val), (87, .p 0 2), (84, vS (s.pairs.at i1).value), (83, .v (.pointer (some ((s.pairs.ad.add (i1 * 3)).add 1)))), (82, .v (.pointer (some (s.pairs.ad.add (i1 * 3))))), (81, vI (i1 : Int)), (80, .v s.pairs.val), (79, .p 0 2), (76, vS (s.pairs.at i1).name), (75, .v (.pointer (some ((s.pairs.ad.add (i1 * 3)).add 0)))), (74, .v (.pointer (some (s.pairs.ad.add (i1 * 3))))), (73, vI (i1 : Int)), (72, .v s.pairs.val), (71, .p 0 2), (70, vS u1), (67, vB true), (5, vS u1), (8, vI (i1 : Int)), (1, .p 0 0)] [(u1 ++ (mTextB (s.pairs.at i1).name)).size + (mTextB (s.pairs.at i1).value).size ≤ 9223372036854775807] [] rfl (by kernel_rfl) (oc (by first | omega | (simp only [ByteArray.size_append]; omega)) on) wn ?_
          have hzj16 := mNums_size [((s.pairs.at i1).version : Int)]
          simp only [List.length_cons, List.length_nil] at hzj16
          refine h_pure 56 [] [.s 1 0 1 1] (.string (mNums [((s.pairs.at i1).version : Int)])) rfl Try.call56 rfl rfl rfl rfl (fun bs w hS => ref_joined (⟨some ⟨bs.getD 1 0, 0, none⟩, 1, [((s.pairs.at i1).version : Int)]⟩ : Sl Int) w (rd_local [((s.pairs.at i1).version : Int)] (hS.loc 1 _ rfl (by simp)) (by simp)) (by show 1 ≤ 1048576; omega)) (fun bs0 bs w hp hl hS => hS.down hp hl rfl (le_same le_nil) .slnil) ?_
          refine Hq [] [(25, true), (26, true)] [(5, vS (((u1 ++ (mTextB (s.pairs.at i1).name)) ++ (mTextB (s.pairs.at i1).value)) ++ (mNums [((s.pairs.at i1).version : Int)]))), (95, vS (((u1 ++ (mTextB (s.pairs.at i1).name)) ++ (mTextB (s.pairs.at i1).value)) ++ (mNums [((s.pairs.at i1).version : Int)]))), (94, vS (mNums [((s.pairs.at i1).version : Int)])), (86, vS ((u1 ++ (mTextB (s.pairs.at i1).name)) ++ (mTextB (s.pairs.at i1).value))), (85, vS (mTextB (s.pairs.at i1).value)), (78, vS (u1 ++ (mTextB (s.pairs.at i1).name))), (77, vS (mTextB (s.pairs.at i1).name)), (93, .s 1 0 1 1), (92, vI (s.pairs.at i1).version), (91, .v (.pointer (some ((s.pairs.ad.add (i1 * 3)).add 2)))), (90, .v (.pointer (some (s.pairs.ad.add (i1 * 3))))), (89, vI (i1 : Int)), (88, .v s.pairs.val), (87, .p 0 2), (84, vS (s.pairs.at i1).value), (83, .v (.pointer (some ((s.pairs.ad.add (i1 * 3)).add 1)))), (82, .v (.pointer (some (s.pairs.ad.add (i1 * 3))))), (81, vI (i1 : Int)), (80, .v s.pairs.val), (79, .p 0 2), (76, vS (s.pairs.at i1).name), (75, .v (.pointer (some ((s.pairs.ad.add (i1 * 3)).add 0)))), (74, .v (.pointer (some (s.pairs.ad.add (i1 * 3))))), (73, vI (i1 : Int)), (72, .v s.pairs.val), (71, .p 0 2), (70, vS u1), (67, vB true), (8, vI (i1 : Int)), (1, .p 0 0)] [((u1 ++ (mTextB (s.pairs.at i1).name)) ++ (mTextB (s.pairs.at i1).value)).size + (mNums [((s.pairs.at i1).version : Int)]).size ≤ 9223372036854775807] [] rfl (by kernel_rfl) (oc (by first | omega | (simp only [ByteArray.size_append]; omega)) on) wn ?_
          refine Hn (Ln (q_block_normal (Qn (Cg (Jr 3 [] [8, 5, 1] 1 ⟨[(8, vI ((i1 : Int) + 1)), (5, vS (((u1 ++ (mTextB (s.pairs.at i1).name)) ++ (mTextB (s.pairs.at i1).value)) ++ (mNums [((s.pairs.at i1).version : Int)]))), (1, .p 0 0)], [⟨29, s.cs⟩]⟩ [inR ((i1 : Int) + 1)] [] (by kernel_rfl) (oc (by unfold inR; omega) on) wn ?_)))))
          have hst1 : ((u1 ++ (mTextB (s.pairs.at i1).name)) ++ (mTextB (s.pairs.at i1).value)) ++ (mNums [((s.pairs.at i1).version : Int)]) = pairS u1 (s.pairs.xs.getD i1 default) := by
            rfl
          have hzz1 : (((u1 ++ (mTextB (s.pairs.at i1).name)) ++ (mTextB (s.pairs.at i1).value)) ++ (mNums [((s.pairs.at i1).version : Int)])).size ≤ 30000 + (i1 + 1) * 10100 := by simp only [ByteArray.size_append]; omega
          refine Ln (q_loop (x := (⟨i1, u1⟩ : Nat × ByteArray)) (⟨i1 + 1, ((u1 ++ (mTextB (s.pairs.at i1).name)) ++ (mTextB (s.pairs.at i1).value)) ++ (mNums [((s.pairs.at i1).version : Int)])⟩ : Nat × ByteArray) ⟨by show i1 + 1 ≤ s.pairs.n; omega, by show _ = (s.pairs.xs.take (i1 + 1)).foldl pairS z1; rw [hst1, hI1]; exact (foldl_take (i := i1) _ _ s.pairs.xs (by omega)).symm, hzz1⟩ (by show s.pairs.n - (i1 + 1) < s.pairs.n - i1; omega) (Ss [5, 8, 1] 1 (by kernel_rfl) rfl))
      | false =>
        have h3 := of_decide_eq_false h3
        refine Ci false rfl (c_exit (Qe (Qe (Qh (Qn (Cs (Cg (Jq 5 [100, 96, 1] 2 ⟨[(100, .s 1 0 1 1), (96, vS u1), (1, .p 0 0)], [⟨29, s.cs⟩, ⟨3, [vI ((s.sessions.n : Nat) : Int)]⟩]⟩ ?_))))))))
        have hzj17 := mNums_size [(((s.sessions.n : Nat) : Int) : Int)]
        simp only [List.length_cons, List.length_nil] at hzj17
        refine Lp 56 [] [.s 1 0 1 1] (.string (mNums [(((s.sessions.n : Nat) : Int) : Int)])) Try.call56 rfl rfl rfl rfl (fun bs w hS => ref_joined (⟨some ⟨bs.getD 1 0, 0, none⟩, 1, [(((s.sessions.n : Nat) : Int) : Int)]⟩ : Sl Int) w (rd_local [(((s.sessions.n : Nat) : Int) : Int)] (hS.loc 1 _ rfl (by simp)) (by simp)) (by show 1 ≤ 1048576; omega)) ?_
        refine Jr 2 [] [5, 1] 1 ⟨[(5, vS (u1 ++ (mNums [(((s.sessions.n : Nat) : Int) : Int)]))), (1, .p 0 0)], [⟨29, s.cs⟩]⟩ [u1.size + (mNums [(((s.sessions.n : Nat) : Int) : Int)]).size ≤ 9223372036854775807] [] (by kernel_rfl) (oc (by first | omega | (simp only [ByteArray.size_append]; omega)) on) wn ?_
        refine Ln (Qn (Cs (Cs (Cg (Jq 1 [9, 5, 1] 1 ⟨[(9, vI 0), (5, vS (u1 ++ (mNums [(((s.sessions.n : Nat) : Int) : Int)]))), (1, .p 0 0)], [⟨29, s.cs⟩]⟩ (Ln (Qn (Cb ?_))))))))
        have hz02 : (u1 ++ (mNums [(((s.sessions.n : Nat) : Int) : Int)])).size ≤ 100000 := by first | omega | (simp only [ByteArray.size_append]; omega)
        generalize hu2 : u1 ++ (mNums [(((s.sessions.n : Nat) : Int) : Int)]) = z2 at hz02 ⊢
        refine Cl (σ := Nat × ByteArray) (fun ⟨i2, u2⟩ => i2 ≤ s.sessions.n ∧ u2 = (s.abs.sessions.take i2).foldl sessS z2 ∧ u2.size ≤ 100000 + i2 * 30000) (fun ⟨i2, u2⟩ => s.sessions.n - i2) (fun ⟨i2, u2⟩ => []) (fun ⟨i2, u2⟩ => ⟨[(5, vS u2), (9, vI (i2 : Int)), (1, .p 0 0)], [⟨29, s.cs⟩]⟩) ⟨0, z2⟩ ⟨Nat.zero_le _, rfl, by show z2.size ≤ 100000 + 0 * 30000; omega⟩ (Ss [5, 9, 1] 1 (by kernel_rfl) rfl) ?_
        rintro ⟨i2, u2⟩ ⟨hi2, hI2, hz_2⟩
        have hb5i := hb5 i2
        have hnr : (s.sessions.at i2).replies.n = (s.sessions.at i2).replies.xs.length := rfl
        refine Cs (Cs (Cg (Jq 5 [107, 5, 9, 1] 1 ⟨[(107, vB (decide ((i2 : Int) < ((s.sessions.n : Nat) : Int)))), (5, vS u2), (9, vI (i2 : Int)), (1, .p 0 0)], [⟨29, s.cs⟩]⟩ (Ln (Qn ?_)))))
        cases h4 : decide ((i2 : Int) < ((s.sessions.n : Nat) : Int)) with
        | true =>
          have h4 := of_decide_eq_true h4
          refine Ci true rfl (Ck (Qn (Cs (Cb (Cs (Cg (Jr 7 [(3, .idx s.sessions.ad i2), (4, .ext [.int .i64 (s.sessions.at i2).client, .int .i64 (s.sessions.at i2).id, .int .i64 (s.sessions.at i2).acked, .int .i64 (s.sessions.at i2).last, .slice (s.sessions.at i2).replies.A (s.sessions.at i2).replies.n (s.sessions.at i2).replies.c])] [10, 5, 9, 1] 2 ⟨[(10, .p 1 0), (5, vS u2), (9, vI (i2 : Int)), (1, .p 0 0)], [⟨29, s.cs⟩, ⟨80, (s.sessions.at i2).cs⟩]⟩ [s.sessions.A = some s.sessions.ad, (i2 : Int) = (i2 : Int), i2 < s.sessions.n] [(s.sessions.ad.add (i2 * 5), [.int .i64 (s.sessions.at i2).client, .int .i64 (s.sessions.at i2).id, .int .i64 (s.sessions.at i2).acked, .int .i64 (s.sessions.at i2).last, .slice (s.sessions.at i2).replies.A (s.sessions.at i2).replies.n (s.sessions.at i2).replies.c])] (by kernel_rfl) (oc (Sl.ok.own (s := s.sessions) (i := i2) (And.right (And.right okx)) (by omega)) (oc rfl (oc (by omega) on))) (fun w hk hr => ⟨(Sl.rd.all (s := s.sessions) (i := i2) (And.right (And.right (Rds.kp hs hk))) (by omega) rfl), trivial⟩) (Ln (Qn (Cs (Cg (Jq 13 [127, 115, 10, 9, 1] 3 ⟨[(127, .s 2 0 5 5), (115, vS u2), (10, .p 1 0), (9, vI (i2 : Int)), (1, .p 0 0)], [⟨29, s.cs⟩, ⟨80, (s.sessions.at i2).cs⟩, ⟨3, [vI (s.sessions.at i2).client, vI (s.sessions.at i2).id, vI (s.sessions.at i2).acked, vI (s.sessions.at i2).last, vI (((s.sessions.at i2).replies.n : Nat) : Int)]⟩]⟩ ?_))))))))))))
          have hzj18 := mNums_size [((s.sessions.at i2).client : Int), ((s.sessions.at i2).id : Int), ((s.sessions.at i2).acked : Int), ((s.sessions.at i2).last : Int), ((((s.sessions.at i2).replies.n : Nat) : Int) : Int)]
          simp only [List.length_cons, List.length_nil] at hzj18
          refine Lp 56 [] [.s 2 0 5 5] (.string (mNums [((s.sessions.at i2).client : Int), ((s.sessions.at i2).id : Int), ((s.sessions.at i2).acked : Int), ((s.sessions.at i2).last : Int), ((((s.sessions.at i2).replies.n : Nat) : Int) : Int)])) Try.call56 rfl rfl rfl rfl (fun bs w hS => ref_joined (⟨some ⟨bs.getD 2 0, 0, none⟩, 5, [((s.sessions.at i2).client : Int), ((s.sessions.at i2).id : Int), ((s.sessions.at i2).acked : Int), ((s.sessions.at i2).last : Int), ((((s.sessions.at i2).replies.n : Nat) : Int) : Int)]⟩ : Sl Int) w (rd_local [((s.sessions.at i2).client : Int), ((s.sessions.at i2).id : Int), ((s.sessions.at i2).acked : Int), ((s.sessions.at i2).last : Int), ((((s.sessions.at i2).replies.n : Nat) : Int) : Int)] (hS.loc 2 _ rfl (by simp)) (by simp)) (by show 5 ≤ 1048576; omega)) ?_
          refine Jr 2 [] [5, 10, 9, 1] 2 ⟨[(5, vS (u2 ++ (mNums [((s.sessions.at i2).client : Int), ((s.sessions.at i2).id : Int), ((s.sessions.at i2).acked : Int), ((s.sessions.at i2).last : Int), ((((s.sessions.at i2).replies.n : Nat) : Int) : Int)]))), (10, .p 1 0), (9, vI (i2 : Int)), (1, .p 0 0)], [⟨29, s.cs⟩, ⟨80, (s.sessions.at i2).cs⟩]⟩ [u2.size + (mNums [((s.sessions.at i2).client : Int), ((s.sessions.at i2).id : Int), ((s.sessions.at i2).acked : Int), ((s.sessions.at i2).last : Int), ((((s.sessions.at i2).replies.n : Nat) : Int) : Int)]).size ≤ 9223372036854775807] [] (by kernel_rfl) (oc (by first | omega | (simp only [ByteArray.size_append]; omega)) on) wn ?_
          refine Ln (Qn (Cs (Cg (Jq 1 [11, 5, 10, 9, 1] 2 ⟨[(11, vI 0), (5, vS (u2 ++ (mNums [((s.sessions.at i2).client : Int), ((s.sessions.at i2).id : Int), ((s.sessions.at i2).acked : Int), ((s.sessions.at i2).last : Int), ((((s.sessions.at i2).replies.n : Nat) : Int) : Int)]))), (10, .p 1 0), (9, vI (i2 : Int)), (1, .p 0 0)], [⟨29, s.cs⟩, ⟨80, (s.sessions.at i2).cs⟩]⟩ (Ln (Qn (Cb ?_)))))))
          have hz03 : (u2 ++ (mNums [((s.sessions.at i2).client : Int), ((s.sessions.at i2).id : Int), ((s.sessions.at i2).acked : Int), ((s.sessions.at i2).last : Int), ((((s.sessions.at i2).replies.n : Nat) : Int) : Int)])).size ≤ 100030 + i2 * 30000 := by first | omega | (simp only [ByteArray.size_append]; omega)
          generalize hu3 : u2 ++ (mNums [((s.sessions.at i2).client : Int), ((s.sessions.at i2).id : Int), ((s.sessions.at i2).acked : Int), ((s.sessions.at i2).last : Int), ((((s.sessions.at i2).replies.n : Nat) : Int) : Int)]) = z3 at hz03 ⊢
          refine Cl (σ := Nat × ByteArray) (fun ⟨i3, u3⟩ => i3 ≤ (s.sessions.at i2).replies.n ∧ u3 = ((s.sessions.at i2).replies.xs.take i3).foldl keptS z3 ∧ u3.size ≤ 100030 + i2 * 30000 + i3 * 5100) (fun ⟨i3, u3⟩ => (s.sessions.at i2).replies.n - i3) (fun ⟨i3, u3⟩ => []) (fun ⟨i3, u3⟩ => ⟨[(5, vS u3), (11, vI (i3 : Int)), (10, .p 1 0), (9, vI (i2 : Int)), (1, .p 0 0)], [⟨29, s.cs⟩, ⟨80, (s.sessions.at i2).cs⟩]⟩) ⟨0, z3⟩ ⟨Nat.zero_le _, rfl, by show z3.size ≤ 100030 + i2 * 30000 + 0 * 5100; omega⟩ (Ss [5, 11, 10, 9, 1] 2 (by kernel_rfl) rfl) ?_
          rintro ⟨i3, u3⟩ ⟨hi3, hI3, hz_3⟩
          refine Cs (Cs (Cg (Jq 5 [134, 5, 11, 10, 9, 1] 2 ⟨[(134, vB (decide ((i3 : Int) < (((s.sessions.at i2).replies.n : Nat) : Int)))), (5, vS u3), (11, vI (i3 : Int)), (10, .p 1 0), (9, vI (i2 : Int)), (1, .p 0 0)], [⟨29, s.cs⟩, ⟨80, (s.sessions.at i2).cs⟩]⟩ (Ln (Qn ?_)))))
          cases h5 : decide ((i3 : Int) < (((s.sessions.at i2).replies.n : Nat) : Int)) with
          | true =>
            have h5 := of_decide_eq_true h5
            refine Ci true rfl (Ck (Qn (Cs (Cb (Cs (Cg (Jr 7 [(3, .idx (s.sessions.at i2).replies.ad i3), (4, .ext [.int .i64 ((s.sessions.at i2).replies.at i3).seq, .int .i64 ((s.sessions.at i2).replies.at i3).reply.code, .int .i64 ((s.sessions.at i2).replies.at i3).reply.n, .string ((s.sessions.at i2).replies.at i3).reply.text])] [12, 5, 11, 10, 9, 1] 3 ⟨[(12, .p 2 0), (5, vS u3), (11, vI (i3 : Int)), (10, .p 1 0), (9, vI (i2 : Int)), (1, .p 0 0)], [⟨29, s.cs⟩, ⟨80, (s.sessions.at i2).cs⟩, ⟨84, ((s.sessions.at i2).replies.at i3).cs⟩]⟩ [(s.sessions.at i2).replies.A = some (s.sessions.at i2).replies.ad, (i3 : Int) = (i3 : Int), i3 < (s.sessions.at i2).replies.n] [((s.sessions.at i2).replies.ad.add (i3 * 4), [.int .i64 ((s.sessions.at i2).replies.at i3).seq, .int .i64 ((s.sessions.at i2).replies.at i3).reply.code, .int .i64 ((s.sessions.at i2).replies.at i3).reply.n, .string ((s.sessions.at i2).replies.at i3).reply.text])] (by kernel_rfl) (oc (Sl.ok.own (s := (s.sessions.at i2).replies) (i := i3) (Sl.ok.at (s := s.sessions) (i := i2) (And.right (And.right okx)) (by omega)) (by omega)) (oc rfl (oc (by omega) on))) (fun w hk hr => ⟨(Sl.rd.all (s := (s.sessions.at i2).replies) (i := i3) (Sl.rd.sub (s := s.sessions) (i := i2) (And.right (And.right (Rds.kp hs hk))) (by omega)) (by omega) rfl), trivial⟩) (Ln (Qn (Cd 18 [] (.p 0 (.p 1 (.q 2 (.p 3 (.p 4 (.q 5 (.p 6 (.p 7 (.q 8 (.p 12 (.p 13 (.q 14 (.b 9 (.b 10 (.p 11 (.b 15 (.p 16 (.p 17 .nil)) .z)) .z) .z))))))))))))) [] [] Try_mixed (by kernel_rfl) (pq_block (pq_then (pq_then (pq_block (pq_block (pq_then (pq_then (pq_block (pq_then pq_body))))))))) .slnil (Hq [] [(0, true), (1, true), (2, false), (3, true), (4, true), (5, false), (6, true), (7, true), (8, false), (12, true), (13, true), (14, false)] [(156, vS ((s.sessions.at i2).replies.at i3).reply.text), (155, .p 2 3), (154, .p 2 1), (150, vI ((s.sessions.at i2).replies.at i3).reply.n), (149, .p 2 2), (148, .p 2 1), (147, vI ((s.sessions.at i2).replies.at i3).reply.code), (146, .p 2 1), (145, .p 2 1), (144, vI ((s.sessions.at i2).replies.at i3).seq), (143, .p 2 0), (142, vS u3), (12, .p 2 0), (5, vS u3), (11, vI (i3 : Int)), (10, .p 1 0), (9, vI (i2 : Int)), (1, .p 0 0)] [] [] rfl (by kernel_rfl) on wn (Hl ⟨[(151, .s 3 0 3 3), (156, vS ((s.sessions.at i2).replies.at i3).reply.text), (155, .p 2 3), (154, .p 2 1), (150, vI ((s.sessions.at i2).replies.at i3).reply.n), (149, .p 2 2), (148, .p 2 1), (147, vI ((s.sessions.at i2).replies.at i3).reply.code), (146, .p 2 1), (145, .p 2 1), (144, vI ((s.sessions.at i2).replies.at i3).seq), (143, .p 2 0), (142, vS u3), (12, .p 2 0), (5, vS u3), (11, vI (i3 : Int)), (10, .p 1 0), (9, vI (i2 : Int)), (1, .p 0 0)], [⟨29, s.cs⟩, ⟨80, (s.sessions.at i2).cs⟩, ⟨84, ((s.sessions.at i2).replies.at i3).cs⟩, ⟨3, [vI ((s.sessions.at i2).replies.at i3).seq, vI ((s.sessions.at i2).replies.at i3).reply.code, vI ((s.sessions.at i2).replies.at i3).reply.n]⟩]⟩ (by kernel_rfl) (fun bs0 bs w hp hl hS => hS.down hp hl rfl (le_same (le_same (le_same le_nil))) .slnil) ?_))))))))))))
            have hzj19 := mNums_size [(((s.sessions.at i2).replies.at i3).seq : Int), (((s.sessions.at i2).replies.at i3).reply.code : Int), (((s.sessions.at i2).replies.at i3).reply.n : Int)]
            simp only [List.length_cons, List.length_nil] at hzj19
            refine h_pure 56 [] [.s 3 0 3 3] (.string (mNums [(((s.sessions.at i2).replies.at i3).seq : Int), (((s.sessions.at i2).replies.at i3).reply.code : Int), (((s.sessions.at i2).replies.at i3).reply.n : Int)])) rfl Try.call56 rfl rfl rfl rfl (fun bs w hS => ref_joined (⟨some ⟨bs.getD 3 0, 0, none⟩, 3, [(((s.sessions.at i2).replies.at i3).seq : Int), (((s.sessions.at i2).replies.at i3).reply.code : Int), (((s.sessions.at i2).replies.at i3).reply.n : Int)]⟩ : Sl Int) w (rd_local [(((s.sessions.at i2).replies.at i3).seq : Int), (((s.sessions.at i2).replies.at i3).reply.code : Int), (((s.sessions.at i2).replies.at i3).reply.n : Int)] (hS.loc 3 _ rfl (by simp)) (by simp)) (by show 3 ≤ 1048576; omega)) (fun bs0 bs w hp hl hS => hS.down hp hl rfl (le_same (le_same (le_same le_nil))) .slnil) ?_
            refine Hq [] [(11, true)] [(153, vS (u3 ++ (mNums [(((s.sessions.at i2).replies.at i3).seq : Int), (((s.sessions.at i2).replies.at i3).reply.code : Int), (((s.sessions.at i2).replies.at i3).reply.n : Int)]))), (152, vS (mNums [(((s.sessions.at i2).replies.at i3).seq : Int), (((s.sessions.at i2).replies.at i3).reply.code : Int), (((s.sessions.at i2).replies.at i3).reply.n : Int)])), (151, .s 3 0 3 3), (156, vS ((s.sessions.at i2).replies.at i3).reply.text), (155, .p 2 3), (154, .p 2 1), (150, vI ((s.sessions.at i2).replies.at i3).reply.n), (149, .p 2 2), (148, .p 2 1), (147, vI ((s.sessions.at i2).replies.at i3).reply.code), (146, .p 2 1), (145, .p 2 1), (144, vI ((s.sessions.at i2).replies.at i3).seq), (143, .p 2 0), (142, vS u3), (12, .p 2 0), (5, vS u3), (11, vI (i3 : Int)), (10, .p 1 0), (9, vI (i2 : Int)), (1, .p 0 0)] [u3.size + (mNums [(((s.sessions.at i2).replies.at i3).seq : Int), (((s.sessions.at i2).replies.at i3).reply.code : Int), (((s.sessions.at i2).replies.at i3).reply.n : Int)]).size ≤ 9223372036854775807] [] rfl (by kernel_rfl) (oc (by first | omega | (simp only [ByteArray.size_append]; omega)) on) wn ?_
            have hzt20 := mTextB_size ((s.sessions.at i2).replies.at i3).reply.text
            refine h_pure 57 [] [vS ((s.sessions.at i2).replies.at i3).reply.text] (.string (mTextB ((s.sessions.at i2).replies.at i3).reply.text)) rfl Try.call57 rfl rfl rfl rfl (fun bs w hS => ref_worded _ w (Sl.ok.at (s := (s.sessions.at i2).replies) (i := i3) (Sl.ok.at (s := s.sessions) (i := i2) (And.right (And.right okx)) (by omega)) (by omega))) (fun bs0 bs w hp hl hS => hS.down hp hl rfl (le_same (le_same (le_same le_nil))) .slnil) ?_
            refine Hq [] [(16, true), (17, true)] [(5, vS ((u3 ++ (mNums [(((s.sessions.at i2).replies.at i3).seq : Int), (((s.sessions.at i2).replies.at i3).reply.code : Int), (((s.sessions.at i2).replies.at i3).reply.n : Int)])) ++ (mTextB ((s.sessions.at i2).replies.at i3).reply.text))), (158, vS ((u3 ++ (mNums [(((s.sessions.at i2).replies.at i3).seq : Int), (((s.sessions.at i2).replies.at i3).reply.code : Int), (((s.sessions.at i2).replies.at i3).reply.n : Int)])) ++ (mTextB ((s.sessions.at i2).replies.at i3).reply.text))), (157, vS (mTextB ((s.sessions.at i2).replies.at i3).reply.text)), (153, vS (u3 ++ (mNums [(((s.sessions.at i2).replies.at i3).seq : Int), (((s.sessions.at i2).replies.at i3).reply.code : Int), (((s.sessions.at i2).replies.at i3).reply.n : Int)]))), (152, vS (mNums [(((s.sessions.at i2).replies.at i3).seq : Int), (((s.sessions.at i2).replies.at i3).reply.code : Int), (((s.sessions.at i2).replies.at i3).reply.n : Int)])), (151, .s 3 0 3 3), (156, vS ((s.sessions.at i2).replies.at i3).reply.text), (155, .p 2 3), (154, .p 2 1), (150, vI ((s.sessions.at i2).replies.at i3).reply.n), (149, .p 2 2), (148, .p 2 1), (147, vI ((s.sessions.at i2).replies.at i3).reply.code), (146, .p 2 1), (145, .p 2 1), (144, vI ((s.sessions.at i2).replies.at i3).seq), (143, .p 2 0), (142, vS u3), (12, .p 2 0), (11, vI (i3 : Int)), (10, .p 1 0), (9, vI (i2 : Int)), (1, .p 0 0)] [(u3 ++ (mNums [(((s.sessions.at i2).replies.at i3).seq : Int), (((s.sessions.at i2).replies.at i3).reply.code : Int), (((s.sessions.at i2).replies.at i3).reply.n : Int)])).size + (mTextB ((s.sessions.at i2).replies.at i3).reply.text).size ≤ 9223372036854775807] [] rfl (by kernel_rfl) (oc (by first | omega | (simp only [ByteArray.size_append]; omega)) on) wn ?_
            refine Hn (Ln (q_block_normal (Qn (Cg (Jr 3 [] [11, 5, 10, 9, 1] 2 ⟨[(11, vI ((i3 : Int) + 1)), (5, vS ((u3 ++ (mNums [(((s.sessions.at i2).replies.at i3).seq : Int), (((s.sessions.at i2).replies.at i3).reply.code : Int), (((s.sessions.at i2).replies.at i3).reply.n : Int)])) ++ (mTextB ((s.sessions.at i2).replies.at i3).reply.text))), (10, .p 1 0), (9, vI (i2 : Int)), (1, .p 0 0)], [⟨29, s.cs⟩, ⟨80, (s.sessions.at i2).cs⟩]⟩ [inR ((i3 : Int) + 1)] [] (by kernel_rfl) (oc (by unfold inR; omega) on) wn ?_)))))
            have hst3 : (u3 ++ (mNums [(((s.sessions.at i2).replies.at i3).seq : Int), (((s.sessions.at i2).replies.at i3).reply.code : Int), (((s.sessions.at i2).replies.at i3).reply.n : Int)])) ++ (mTextB ((s.sessions.at i2).replies.at i3).reply.text) = keptS u3 ((s.sessions.at i2).replies.xs.getD i3 default) := by
              rfl
            have hzz3 : ((u3 ++ (mNums [(((s.sessions.at i2).replies.at i3).seq : Int), (((s.sessions.at i2).replies.at i3).reply.code : Int), (((s.sessions.at i2).replies.at i3).reply.n : Int)])) ++ (mTextB ((s.sessions.at i2).replies.at i3).reply.text)).size ≤ 100030 + i2 * 30000 + (i3 + 1) * 5100 := by simp only [ByteArray.size_append]; omega
            refine Ln (q_loop (x := (⟨i3, u3⟩ : Nat × ByteArray)) (⟨i3 + 1, (u3 ++ (mNums [(((s.sessions.at i2).replies.at i3).seq : Int), (((s.sessions.at i2).replies.at i3).reply.code : Int), (((s.sessions.at i2).replies.at i3).reply.n : Int)])) ++ (mTextB ((s.sessions.at i2).replies.at i3).reply.text)⟩ : Nat × ByteArray) ⟨by show i3 + 1 ≤ (s.sessions.at i2).replies.n; omega, by show _ = ((s.sessions.at i2).replies.xs.take (i3 + 1)).foldl keptS z3; rw [hst3, hI3]; exact (foldl_take (i := i3) _ _ (s.sessions.at i2).replies.xs (by omega)).symm, hzz3⟩ (by show (s.sessions.at i2).replies.n - (i3 + 1) < (s.sessions.at i2).replies.n - i3; omega) (Ss [5, 11, 10, 9, 1] 2 (by kernel_rfl) rfl))
          | false =>
            have h5 := of_decide_eq_false h5
            refine Ci false rfl (c_exit (Qe (Qe (Qh (q_block_normal (Qn (Cg (Jr 3 [] [9, 5, 1] 1 ⟨[(9, vI ((i2 : Int) + 1)), (5, vS u3), (1, .p 0 0)], [⟨29, s.cs⟩]⟩ [inR ((i2 : Int) + 1)] [] (by kernel_rfl) (oc (by unfold inR; omega) on) wn ?_))))))))
            have hst2 : u3 = sessS u2 (s.abs.sessions.getD i2 default) := by
              rw [hae, hI3, List.take_of_length_le (by omega), ← hu3]
              rfl
            have hzz2 : (u3).size ≤ 100000 + (i2 + 1) * 30000 := by omega
            refine Ln (q_loop (x := (⟨i2, u2⟩ : Nat × ByteArray)) (⟨i2 + 1, u3⟩ : Nat × ByteArray) ⟨by show i2 + 1 ≤ s.sessions.n; omega, by show _ = (s.abs.sessions.take (i2 + 1)).foldl sessS z2; rw [hst2, hI2]; exact (foldl_take (i := i2) _ _ s.abs.sessions (by omega)).symm, hzz2⟩ (by show s.sessions.n - (i2 + 1) < s.sessions.n - i2; omega) (Ss [5, 9, 1] 1 (by kernel_rfl) rfl))
        | false =>
          have h4 := of_decide_eq_false h4
          refine Ci false rfl (c_exit (Qe (Qe (Qh (Qn (Cs (Cg (Jq 2 [160, 159] 0 ⟨[(160, vS u2), (159, vS u2)], []⟩ ?_))))))))
          have hzs21 : (mSeal u2).size = 4 := bstr_size _
          refine Lp 42 [] [vS u2] (.string (mSeal u2)) Try.call42 rfl rfl rfl rfl (fun bs w hS => ref_SealOf _ w (by first | assumption | omega | (simp only [emp_size]; omega))) ?_
          refine Jr 3 [] [3, 2] 0 ⟨[(3, vI 0), (2, vS (u2 ++ (mSeal u2)))], []⟩ [u2.size + (mSeal u2).size ≤ 9223372036854775807] [] (by kernel_rfl) (oc (by first | omega | (simp only [ByteArray.size_append]; omega)) on) wn ?_
          refine Ln (Qn (Cr (Rt (.inl rfl) [vS (u2 ++ (mSeal u2)), vI 0] rfl (fun bs w hS => (⟨?_, hS.kp⟩)))))
          have hb : u2 = mSnapB s.abs := by
            unfold mSnapB
            rw [hI2, List.take_of_length_le (by omega), ← hu2, hI1, List.take_of_length_le (by omega), ← hu1, hI0, List.take_of_length_le (by omega), ← hu0]
            skip
            rw [hll, hlp, hle]
            rfl
          unfold mSnap
          rw [if_pos (by assumption), ← hb]
          rfl
  | false =>
    have h1 := of_decide_eq_false h1
    refine Ci true rfl (Cs (Cg (Jq 3 [3, 2] 0 ⟨[(3, vI (mState s.abs)), (2, vS emp)], []⟩ (Ln (Qn (Cr (Qr (Rt (.inl rfl) [vS emp, vI (mState s.abs)] rfl (fun bs w hS => (⟨?_, hS.kp⟩))))))))))
    unfold mSnap
    rw [if_neg (by assumption)]
    rfl

theorem snap_Encode {B : Nat → Prop} (s : CState) (w : World) (hs : Rds.sub B w s) : Calls Try.prog 28 #[.agg #[.int .i64 s.index, .slice s.locks.A s.locks.n s.locks.c, .slice s.pairs.A s.pairs.n s.pairs.c, .slice s.sessions.A s.sessions.n s.sessions.c]] w fun e w' => e = .returned (.tuple #[.string (mSnap s.abs).1, .int .i64 (mSnap s.abs).2]) ∧ Kp [] w w' := by
 have he0 : emp.size = 0 := rfl
 have okx := Rds.okof hs
 have oks := okx.1
 have okp := okx.2.1
 have oke := okx.2.2
 have ncs := Sl.ok.nc oks
 have ncp := Sl.ok.nc okp
 have nce := Sl.ok.nc oke
 have hns : s.locks.n = s.locks.xs.length := rfl
 have hnp : s.pairs.n = s.pairs.xs.length := rfl
 have hne : s.sessions.n = s.sessions.xs.length := rfl
 have hll : s.abs.locks.length = s.locks.n := List.length_map _
 have hlp : s.abs.pairs.length = s.pairs.n := rfl
 have hle : s.abs.sessions.length = s.sessions.n := List.length_map _
 have hal : ∀ q, s.abs.locks.getD q default = (s.locks.at q).abs := fun q => abs_at q
 have hap : ∀ q, s.abs.pairs.getD q default = s.pairs.at q := fun _ => rfl
 have hae : ∀ q, s.abs.sessions.getD q default = (s.sessions.at q).abs := fun q => sabs_at q
 refine calls_J0 144 Try.func28 rfl rfl [.agg #[.int .i64 s.index, .slice s.locks.A s.locks.n s.locks.c, .slice s.pairs.A s.pairs.n s.pairs.c, .slice s.sessions.A s.sessions.n s.sessions.c]] rfl ?_
 refine Cs (Cg (Jq 3 [1] 1 ⟨[(1, .p 0 0)], [⟨29, s.cs⟩]⟩ (Ln (Qn (Cs (Cs (Cg (Jq 1 [14, 1] 1 ⟨[(14, .v s.val), (1, .p 0 0)], [⟨29, s.cs⟩]⟩ (Lp 34 [] [.v s.val] (.int .i64 (mState s.abs)) Try.call34 rfl rfl rfl rfl (fun bs w hS => machine_Check s w (Rds.kp hs hS.kp)) (Jq 1 [4, 1] 1 ⟨[(4, vI (mState s.abs)), (1, .p 0 0)], [⟨29, s.cs⟩]⟩ (Ln (Qn (Cs (Cg (Jq 2 [17, 4, 1] 1 ⟨[(17, vB (!(decide (mState s.abs = 0)))), (4, vI (mState s.abs)), (1, .p 0 0)], [⟨29, s.cs⟩]⟩ (Ln (Qn ?_)))))))))))))))))
 cases h1 : decide (mState s.abs = 0) with
 | true =>
  have h1 := of_decide_eq_true h1
  have hbd := mState_bd (x := s.abs) (by assumption)
  have hb1 := hbd.1
  have hb2 := hbd.2.1
  have hb3 := hbd.2.2.1
  have hb4 : ∀ q, (s.locks.at q).line.n ≤ 3 := fun q => by
   by_cases hq : q < s.locks.n
   · have := hbd.2.2.2.1 q (by rw [hll]; exact hq); rw [hal] at this; exact this
   · rw [at_out hq]; show 0 ≤ 3; omega
  have hb5 : ∀ q, (s.sessions.at q).replies.n ≤ 4 := fun q => by
   by_cases hq : q < s.sessions.n
   · have := hbd.2.2.2.2 q (by rw [hle]; exact hq); rw [hae] at this; exact this
   · rw [at_out hq]; show 0 ≤ 4; omega
  refine Ci false rfl (Ck (Qn (Cs (Cg (Jq 3 [5, 1] 2 ⟨[(5, .p 1 0), (1, .p 0 0)], [⟨29, s.cs⟩, ⟨97, [vS emp]⟩]⟩ (Ln (Qn (Cs (Cg (Jq 7 [27, 21, 5, 1] 3 ⟨[(27, .s 2 0 2 2), (21, .p 1 0), (5, .p 1 0), (1, .p 0 0)], [⟨29, s.cs⟩, ⟨97, [vS emp]⟩, ⟨3, [vI s.index, vI ((s.locks.n : Nat) : Int)]⟩]⟩ ?_))))))))))
  have hzn1 := mNums_size [(s.index : Int), (((s.locks.n : Nat) : Int) : Int)]
  simp only [List.length_cons, List.length_nil] at hzn1
  refine Lb (σ := Unit) 54 [] [.p 1 0, .s 2 0 2 2] 1 ⟨97, [vS emp]⟩ (fun _ => .tuple #[]) (fun _ => [vS (emp ++ mNums [(s.index : Int), (((s.locks.n : Nat) : Int) : Int)])]) (fun _ => True) rfl (by simp) Try.call54 rfl rfl rfl rfl (fun bs w hS hb => (snap_numbers emp (⟨some ⟨bs.getD 2 0, 0, none⟩, 2, [(s.index : Int), (((s.locks.n : Nat) : Int) : Int)]⟩ : Sl Int) (bs.getD 1 0) w hb (rd_local [(s.index : Int), (((s.locks.n : Nat) : Int) : Int)] (hS.loc 2 _ rfl (by simp)) (by simp)) (by show 2 ≤ 1048576; omega) (by first | omega | (simp only [ByteArray.size_append]; omega))).mono (fun e w' ⟨y, h1, h2, h3, h4⟩ => ⟨y, h1, h2, h3, h4⟩)) ?_
  rintro y _
  refine Ln (Qn (Cs (Cs (Cg (Jq 4 [32, 31, 30, 5, 1] 2 ⟨[(32, vI 0), (31, vI ((s.locks.n : Nat) : Int)), (30, .v s.locks.val), (5, .p 1 0), (1, .p 0 0)], [⟨29, s.cs⟩, ⟨97, [vS (emp ++ mNums [(s.index : Int), (((s.locks.n : Nat) : Int) : Int)])]⟩]⟩ (Ln (Qn (Cb ?_))))))))
  have hz00 : (emp ++ mNums [(s.index : Int), (((s.locks.n : Nat) : Int) : Int)]).size ≤ 40 := by first | omega | (simp only [ByteArray.size_append]; omega)
  generalize hu0 : emp ++ mNums [(s.index : Int), (((s.locks.n : Nat) : Int) : Int)] = z0 at hz00 ⊢
  refine Cl (σ := Nat × ByteArray) (fun ⟨i0, u0⟩ => i0 ≤ s.locks.n ∧ u0 = (s.abs.locks.take i0).foldl lockS z0 ∧ u0.size ≤ 40 + i0 * 5100) (fun ⟨i0, u0⟩ => s.locks.n - i0) (fun ⟨i0, u0⟩ => []) (fun ⟨i0, u0⟩ => ⟨[(32, vI (i0 : Int)), (31, vI ((s.locks.n : Nat) : Int)), (30, .v s.locks.val), (5, .p 1 0), (1, .p 0 0)], [⟨29, s.cs⟩, ⟨97, [vS u0]⟩]⟩) ⟨0, z0⟩ ⟨Nat.zero_le _, rfl, by show z0.size ≤ 40 + 0 * 5100; omega⟩ (Ss [32, 31, 30, 5, 1] 2 (by kernel_rfl) rfl) ?_
  rintro ⟨i0, u0⟩ ⟨hi0, hI0, hz_0⟩
  have hb4i := hb4 i0
  have hb4x : (s.locks.at i0).line.xs.length ≤ 3 := hb4 i0
  refine Cs (Cg (Jq 1 [33, 32, 31, 30, 5, 1] 2 ⟨[(33, vB (decide ((i0 : Int) < ((s.locks.n : Nat) : Int)))), (32, vI (i0 : Int)), (31, vI ((s.locks.n : Nat) : Int)), (30, .v s.locks.val), (5, .p 1 0), (1, .p 0 0)], [⟨29, s.cs⟩, ⟨97, [vS u0]⟩]⟩ (Ln (Qn (Cs ?_)))))
  cases h2 : decide ((i0 : Int) < ((s.locks.n : Nat) : Int)) with
  | true =>
   have h2 := of_decide_eq_true h2
   refine Ci true rfl (Ck (Qn (Cs (Cb (Cs (Cg (Jr 4 [(0, .idx s.locks.ad i0), (1, .ext [.string (s.locks.at i0).name, .int .i64 (s.locks.at i0).holder, .int .i64 (s.locks.at i0).fence, .slice (s.locks.at i0).line.A (s.locks.at i0).line.n (s.locks.at i0).line.c])] [7, 32, 31, 30, 5, 1] 3 ⟨[(7, .p 2 0), (32, vI (i0 : Int)), (31, vI ((s.locks.n : Nat) : Int)), (30, .v s.locks.val), (5, .p 1 0), (1, .p 0 0)], [⟨29, s.cs⟩, ⟨97, [vS u0]⟩, ⟨74, (s.locks.at i0).cs⟩]⟩ [s.locks.A = some s.locks.ad, (i0 : Int) = (i0 : Int), i0 < s.locks.n] [(s.locks.ad.add (i0 * 4), [.string (s.locks.at i0).name, .int .i64 (s.locks.at i0).holder, .int .i64 (s.locks.at i0).fence, .slice (s.locks.at i0).line.A (s.locks.at i0).line.n (s.locks.at i0).line.c])] (by kernel_rfl) (oc (Sl.ok.own (s := s.locks) (i := i0) (And.left okx) (by omega)) (oc rfl (oc (by omega) on))) (fun w hk hr => ⟨(Sl.rd.all (s := s.locks) (i := i0) (And.left (Rds.kp hs hk)) (by omega) rfl), trivial⟩) (Ln (Qn (Cs (Cg (Jq 3 [38, 36, 7, 32, 31, 30, 5, 1] 3 ⟨[(38, vS (s.locks.at i0).name), (36, .p 1 0), (7, .p 2 0), (32, vI (i0 : Int)), (31, vI ((s.locks.n : Nat) : Int)), (30, .v s.locks.val), (5, .p 1 0), (1, .p 0 0)], [⟨29, s.cs⟩, ⟨97, [vS u0]⟩, ⟨74, (s.locks.at i0).cs⟩]⟩ ?_))))))))))))
   have hzt3 := mTextB_size (s.locks.at i0).name
   refine Lb (σ := Unit) 55 [] [.p 1 0, vS (s.locks.at i0).name] 1 ⟨97, [vS u0]⟩ (fun _ => .tuple #[]) (fun _ => [vS (u0 ++ mTextB (s.locks.at i0).name)]) (fun _ => True) rfl (by simp) Try.call55 rfl rfl rfl rfl (fun bs w hS hb => (snap_text u0 (s.locks.at i0).name (bs.getD 1 0) w hb (And.left (Sl.ok.at (s := s.locks) (i := i0) (And.left okx) (by omega))) (by first | omega | (simp only [ByteArray.size_append]; omega))).mono (fun e w' ⟨y, h1, h2, h3, h4⟩ => ⟨y, h1, h2, h3, h4⟩)) ?_
   rintro y _
   refine Ln (Qn (Cs (Cg (Jq 9 [48, 40, 7, 32, 31, 30, 5, 1] 4 ⟨[(48, .s 3 0 3 3), (40, .p 1 0), (7, .p 2 0), (32, vI (i0 : Int)), (31, vI ((s.locks.n : Nat) : Int)), (30, .v s.locks.val), (5, .p 1 0), (1, .p 0 0)], [⟨29, s.cs⟩, ⟨97, [vS (u0 ++ mTextB (s.locks.at i0).name)]⟩, ⟨74, (s.locks.at i0).cs⟩, ⟨3, [vI (s.locks.at i0).holder, vI (s.locks.at i0).fence, vI (((s.locks.at i0).line.n : Nat) : Int)]⟩]⟩ ?_))))
   have hzn5 := mNums_size [((s.locks.at i0).holder : Int), ((s.locks.at i0).fence : Int), ((((s.locks.at i0).line.n : Nat) : Int) : Int)]
   simp only [List.length_cons, List.length_nil] at hzn5
   refine Lb (σ := Unit) 54 [] [.p 1 0, .s 3 0 3 3] 1 ⟨97, [vS (u0 ++ mTextB (s.locks.at i0).name)]⟩ (fun _ => .tuple #[]) (fun _ => [vS (u0 ++ mTextB (s.locks.at i0).name ++ mNums [((s.locks.at i0).holder : Int), ((s.locks.at i0).fence : Int), ((((s.locks.at i0).line.n : Nat) : Int) : Int)])]) (fun _ => True) rfl (by simp) Try.call54 rfl rfl rfl rfl (fun bs w hS hb => (snap_numbers (u0 ++ mTextB (s.locks.at i0).name) (⟨some ⟨bs.getD 3 0, 0, none⟩, 3, [((s.locks.at i0).holder : Int), ((s.locks.at i0).fence : Int), ((((s.locks.at i0).line.n : Nat) : Int) : Int)]⟩ : Sl Int) (bs.getD 1 0) w hb (rd_local [((s.locks.at i0).holder : Int), ((s.locks.at i0).fence : Int), ((((s.locks.at i0).line.n : Nat) : Int) : Int)] (hS.loc 3 _ rfl (by simp)) (by simp)) (by show 3 ≤ 1048576; omega) (by first | omega | (simp only [ByteArray.size_append]; omega))).mono (fun e w' ⟨y, h1, h2, h3, h4⟩ => ⟨y, h1, h2, h3, h4⟩)) ?_
   rintro y _
   refine Ln (Qn (Cg (Jq 3 [52, 50, 32, 31, 30, 5, 1] 2 ⟨[(52, .v (s.locks.at i0).line.val), (50, .p 1 0), (32, vI (i0 : Int)), (31, vI ((s.locks.n : Nat) : Int)), (30, .v s.locks.val), (5, .p 1 0), (1, .p 0 0)], [⟨29, s.cs⟩, ⟨97, [vS (u0 ++ mTextB (s.locks.at i0).name ++ mNums [((s.locks.at i0).holder : Int), ((s.locks.at i0).fence : Int), ((((s.locks.at i0).line.n : Nat) : Int) : Int)])]⟩]⟩ ?_)))
   have hzn7 := mNums_size (s.locks.at i0).line.xs
   refine Lb (σ := Unit) 54 [] [.p 1 0, .v (.slice (s.locks.at i0).line.A (s.locks.at i0).line.n (s.locks.at i0).line.c)] 1 ⟨97, [vS (u0 ++ mTextB (s.locks.at i0).name ++ mNums [((s.locks.at i0).holder : Int), ((s.locks.at i0).fence : Int), ((((s.locks.at i0).line.n : Nat) : Int) : Int)])]⟩ (fun _ => .tuple #[]) (fun _ => [vS (u0 ++ mTextB (s.locks.at i0).name ++ mNums [((s.locks.at i0).holder : Int), ((s.locks.at i0).fence : Int), ((((s.locks.at i0).line.n : Nat) : Int) : Int)] ++ mNums (s.locks.at i0).line.xs)]) (fun _ => True) rfl (by simp) Try.call54 rfl rfl rfl rfl (fun bs w hS hb => (snap_numbers (u0 ++ mTextB (s.locks.at i0).name ++ mNums [((s.locks.at i0).holder : Int), ((s.locks.at i0).fence : Int), ((((s.locks.at i0).line.n : Nat) : Int) : Int)]) (s.locks.at i0).line (bs.getD 1 0) w hb (And.right (Sl.rd.sub (s := s.locks) (i := i0) (And.left (Rds.kp hs hS.kp)) (by omega))) (by omega) (by first | omega | (simp only [ByteArray.size_append]; omega))).mono (fun e w' ⟨y, h1, h2, h3, h4⟩ => ⟨y, h1, h2, h3, h4⟩)) ?_
   rintro y _
   refine Ln (q_block_normal (Qn (Cg (Jr 2 [] [32, 31, 30, 5, 1] 2 ⟨[(32, vI ((i0 : Int) + 1)), (31, vI ((s.locks.n : Nat) : Int)), (30, .v s.locks.val), (5, .p 1 0), (1, .p 0 0)], [⟨29, s.cs⟩, ⟨97, [vS (u0 ++ mTextB (s.locks.at i0).name ++ mNums [((s.locks.at i0).holder : Int), ((s.locks.at i0).fence : Int), ((((s.locks.at i0).line.n : Nat) : Int) : Int)] ++ mNums (s.locks.at i0).line.xs)]⟩]⟩ [inR ((i0 : Int) + 1)] [] (by kernel_rfl) (oc (by unfold inR; omega) on) wn ?_))))
   have hst0 : u0 ++ mTextB (s.locks.at i0).name ++ mNums [((s.locks.at i0).holder : Int), ((s.locks.at i0).fence : Int), ((((s.locks.at i0).line.n : Nat) : Int) : Int)] ++ mNums (s.locks.at i0).line.xs = lockS u0 (s.abs.locks.getD i0 default) := by
    rw [hal]; rfl
   have hzz0 : (u0 ++ mTextB (s.locks.at i0).name ++ mNums [((s.locks.at i0).holder : Int), ((s.locks.at i0).fence : Int), ((((s.locks.at i0).line.n : Nat) : Int) : Int)] ++ mNums (s.locks.at i0).line.xs).size ≤ 40 + (i0 + 1) * 5100 := by simp only [ByteArray.size_append]; omega
   refine Ln (q_loop (x := (⟨i0, u0⟩ : Nat × ByteArray)) (⟨i0 + 1, u0 ++ mTextB (s.locks.at i0).name ++ mNums [((s.locks.at i0).holder : Int), ((s.locks.at i0).fence : Int), ((((s.locks.at i0).line.n : Nat) : Int) : Int)] ++ mNums (s.locks.at i0).line.xs⟩ : Nat × ByteArray) ⟨by show i0 + 1 ≤ s.locks.n; omega, by show _ = (s.abs.locks.take (i0 + 1)).foldl lockS z0; rw [hst0, hI0]; exact (foldl_take (i := i0) _ _ s.abs.locks (by omega)).symm, hzz0⟩ (by show s.locks.n - (i0 + 1) < s.locks.n - i0; omega) (Ss [32, 31, 30, 5, 1] 2 (by kernel_rfl) rfl))
  | false =>
   have h2 := of_decide_eq_false h2
   refine Ci false rfl (c_exit (Qe (Qe (Qh (Qn (Cs (Cg (Jq 5 [59, 55, 5, 1] 3 ⟨[(59, .s 2 0 1 1), (55, .p 1 0), (5, .p 1 0), (1, .p 0 0)], [⟨29, s.cs⟩, ⟨97, [vS u0]⟩, ⟨3, [vI ((s.pairs.n : Nat) : Int)]⟩]⟩ ?_))))))))
   have hzn9 := mNums_size [(((s.pairs.n : Nat) : Int) : Int)]
   simp only [List.length_cons, List.length_nil] at hzn9
   refine Lb (σ := Unit) 54 [] [.p 1 0, .s 2 0 1 1] 1 ⟨97, [vS u0]⟩ (fun _ => .tuple #[]) (fun _ => [vS (u0 ++ mNums [(((s.pairs.n : Nat) : Int) : Int)])]) (fun _ => True) rfl (by simp) Try.call54 rfl rfl rfl rfl (fun bs w hS hb => (snap_numbers u0 (⟨some ⟨bs.getD 2 0, 0, none⟩, 1, [(((s.pairs.n : Nat) : Int) : Int)]⟩ : Sl Int) (bs.getD 1 0) w hb (rd_local [(((s.pairs.n : Nat) : Int) : Int)] (hS.loc 2 _ rfl (by simp)) (by simp)) (by show 1 ≤ 1048576; omega) (by first | omega | (simp only [ByteArray.size_append]; omega))).mono (fun e w' ⟨y, h1, h2, h3, h4⟩ => ⟨y, h1, h2, h3, h4⟩)) ?_
   rintro y _
   refine Ln (Qn (Cs (Cs (Cg (Jq 4 [64, 63, 62, 5, 1] 2 ⟨[(64, vI 0), (63, vI ((s.pairs.n : Nat) : Int)), (62, .v s.pairs.val), (5, .p 1 0), (1, .p 0 0)], [⟨29, s.cs⟩, ⟨97, [vS (u0 ++ mNums [(((s.pairs.n : Nat) : Int) : Int)])]⟩]⟩ (Ln (Qn (Cb ?_))))))))
   have hz01 : (u0 ++ mNums [(((s.pairs.n : Nat) : Int) : Int)]).size ≤ 30000 := by first | omega | (simp only [ByteArray.size_append]; omega)
   generalize hu1 : u0 ++ mNums [(((s.pairs.n : Nat) : Int) : Int)] = z1 at hz01 ⊢
   refine Cl (σ := Nat × ByteArray) (fun ⟨i1, u1⟩ => i1 ≤ s.pairs.n ∧ u1 = (s.pairs.xs.take i1).foldl pairS z1 ∧ u1.size ≤ 30000 + i1 * 10100) (fun ⟨i1, u1⟩ => s.pairs.n - i1) (fun ⟨i1, u1⟩ => []) (fun ⟨i1, u1⟩ => ⟨[(64, vI (i1 : Int)), (63, vI ((s.pairs.n : Nat) : Int)), (62, .v s.pairs.val), (5, .p 1 0), (1, .p 0 0)], [⟨29, s.cs⟩, ⟨97, [vS u1]⟩]⟩) ⟨0, z1⟩ ⟨Nat.zero_le _, rfl, by show z1.size ≤ 30000 + 0 * 10100; omega⟩ (Ss [64, 63, 62, 5, 1] 2 (by kernel_rfl) rfl) ?_
   rintro ⟨i1, u1⟩ ⟨hi1, hI1, hz_1⟩
   refine Cs (Cg (Jq 1 [65, 64, 63, 62, 5, 1] 2 ⟨[(65, vB (decide ((i1 : Int) < ((s.pairs.n : Nat) : Int)))), (64, vI (i1 : Int)), (63, vI ((s.pairs.n : Nat) : Int)), (62, .v s.pairs.val), (5, .p 1 0), (1, .p 0 0)], [⟨29, s.cs⟩, ⟨97, [vS u1]⟩]⟩ (Ln (Qn (Cs ?_)))))
   cases h3 : decide ((i1 : Int) < ((s.pairs.n : Nat) : Int)) with
   | true =>
    have h3 := of_decide_eq_true h3
    refine Ci true rfl (Ck (Qn (Cs (Cb (Cs (Cg (Jr 4 [(0, .idx s.pairs.ad i1), (1, .ext [.string (s.pairs.at i1).name, .string (s.pairs.at i1).value, .int .i64 (s.pairs.at i1).version])] [9, 64, 63, 62, 5, 1] 3 ⟨[(9, .p 2 0), (64, vI (i1 : Int)), (63, vI ((s.pairs.n : Nat) : Int)), (62, .v s.pairs.val), (5, .p 1 0), (1, .p 0 0)], [⟨29, s.cs⟩, ⟨97, [vS u1]⟩, ⟨77, (s.pairs.at i1).cs⟩]⟩ [s.pairs.A = some s.pairs.ad, (i1 : Int) = (i1 : Int), i1 < s.pairs.n] [(s.pairs.ad.add (i1 * 3), [.string (s.pairs.at i1).name, .string (s.pairs.at i1).value, .int .i64 (s.pairs.at i1).version])] (by kernel_rfl) (oc (Sl.ok.own (s := s.pairs) (i := i1) (And.left (And.right okx)) (by omega)) (oc rfl (oc (by omega) on))) (fun w hk hr => ⟨(Sl.rd.all (s := s.pairs) (i := i1) (And.left (And.right (Rds.kp hs hk))) (by omega) rfl), trivial⟩) (Ln (Qn (Cs (Cg (Jq 3 [70, 68, 9, 64, 63, 62, 5, 1] 3 ⟨[(70, vS (s.pairs.at i1).name), (68, .p 1 0), (9, .p 2 0), (64, vI (i1 : Int)), (63, vI ((s.pairs.n : Nat) : Int)), (62, .v s.pairs.val), (5, .p 1 0), (1, .p 0 0)], [⟨29, s.cs⟩, ⟨97, [vS u1]⟩, ⟨77, (s.pairs.at i1).cs⟩]⟩ ?_))))))))))))
    have hzt11 := mTextB_size (s.pairs.at i1).name
    refine Lb (σ := Unit) 55 [] [.p 1 0, vS (s.pairs.at i1).name] 1 ⟨97, [vS u1]⟩ (fun _ => .tuple #[]) (fun _ => [vS (u1 ++ mTextB (s.pairs.at i1).name)]) (fun _ => True) rfl (by simp) Try.call55 rfl rfl rfl rfl (fun bs w hS hb => (snap_text u1 (s.pairs.at i1).name (bs.getD 1 0) w hb (And.left (Sl.ok.at (s := s.pairs) (i := i1) (And.left (And.right okx)) (by omega))) (by first | omega | (simp only [ByteArray.size_append]; omega))).mono (fun e w' ⟨y, h1, h2, h3, h4⟩ => ⟨y, h1, h2, h3, h4⟩)) ?_
    rintro y _
    refine Ln (Qn (Cs (Cg (Jq 3 [74, 72, 9, 64, 63, 62, 5, 1] 3 ⟨[(74, vS (s.pairs.at i1).value), (72, .p 1 0), (9, .p 2 0), (64, vI (i1 : Int)), (63, vI ((s.pairs.n : Nat) : Int)), (62, .v s.pairs.val), (5, .p 1 0), (1, .p 0 0)], [⟨29, s.cs⟩, ⟨97, [vS (u1 ++ mTextB (s.pairs.at i1).name)]⟩, ⟨77, (s.pairs.at i1).cs⟩]⟩ ?_))))
    have hzt13 := mTextB_size (s.pairs.at i1).value
    refine Lb (σ := Unit) 55 [] [.p 1 0, vS (s.pairs.at i1).value] 1 ⟨97, [vS (u1 ++ mTextB (s.pairs.at i1).name)]⟩ (fun _ => .tuple #[]) (fun _ => [vS (u1 ++ mTextB (s.pairs.at i1).name ++ mTextB (s.pairs.at i1).value)]) (fun _ => True) rfl (by simp) Try.call55 rfl rfl rfl rfl (fun bs w hS hb => (snap_text (u1 ++ mTextB (s.pairs.at i1).name) (s.pairs.at i1).value (bs.getD 1 0) w hb (And.right (Sl.ok.at (s := s.pairs) (i := i1) (And.left (And.right okx)) (by omega))) (by first | omega | (simp only [ByteArray.size_append]; omega))).mono (fun e w' ⟨y, h1, h2, h3, h4⟩ => ⟨y, h1, h2, h3, h4⟩)) ?_
    rintro y _
    refine Ln (Qn (Cg (Jq 4 [79, 76, 64, 63, 62, 5, 1] 4 ⟨[(79, .s 3 0 1 1), (76, .p 1 0), (64, vI (i1 : Int)), (63, vI ((s.pairs.n : Nat) : Int)), (62, .v s.pairs.val), (5, .p 1 0), (1, .p 0 0)], [⟨29, s.cs⟩, ⟨97, [vS (u1 ++ mTextB (s.pairs.at i1).name ++ mTextB (s.pairs.at i1).value)]⟩, ⟨77, (s.pairs.at i1).cs⟩, ⟨3, [vI (s.pairs.at i1).version]⟩]⟩ ?_)))
    have hzn15 := mNums_size [((s.pairs.at i1).version : Int)]
    simp only [List.length_cons, List.length_nil] at hzn15
    refine Lb (σ := Unit) 54 [] [.p 1 0, .s 3 0 1 1] 1 ⟨97, [vS (u1 ++ mTextB (s.pairs.at i1).name ++ mTextB (s.pairs.at i1).value)]⟩ (fun _ => .tuple #[]) (fun _ => [vS (u1 ++ mTextB (s.pairs.at i1).name ++ mTextB (s.pairs.at i1).value ++ mNums [((s.pairs.at i1).version : Int)])]) (fun _ => True) rfl (by simp) Try.call54 rfl rfl rfl rfl (fun bs w hS hb => (snap_numbers (u1 ++ mTextB (s.pairs.at i1).name ++ mTextB (s.pairs.at i1).value) (⟨some ⟨bs.getD 3 0, 0, none⟩, 1, [((s.pairs.at i1).version : Int)]⟩ : Sl Int) (bs.getD 1 0) w hb (rd_local [((s.pairs.at i1).version : Int)] (hS.loc 3 _ rfl (by simp)) (by simp)) (by show 1 ≤ 1048576; omega) (by first | omega | (simp only [ByteArray.size_append]; omega))).mono (fun e w' ⟨y, h1, h2, h3, h4⟩ => ⟨y, h1, h2, h3, h4⟩)) ?_
    rintro y _
    refine Ln (q_block_normal (Qn (Cg (Jr 2 [] [64, 63, 62, 5, 1] 2 ⟨[(64, vI ((i1 : Int) + 1)), (63, vI ((s.pairs.n : Nat) : Int)), (62, .v s.pairs.val), (5, .p 1 0), (1, .p 0 0)], [⟨29, s.cs⟩, ⟨97, [vS (u1 ++ mTextB (s.pairs.at i1).name ++ mTextB (s.pairs.at i1).value ++ mNums [((s.pairs.at i1).version : Int)])]⟩]⟩ [inR ((i1 : Int) + 1)] [] (by kernel_rfl) (oc (by unfold inR; omega) on) wn ?_))))
    have hst1 : u1 ++ mTextB (s.pairs.at i1).name ++ mTextB (s.pairs.at i1).value ++ mNums [((s.pairs.at i1).version : Int)] = pairS u1 (s.pairs.xs.getD i1 default) := by
     rfl
    have hzz1 : (u1 ++ mTextB (s.pairs.at i1).name ++ mTextB (s.pairs.at i1).value ++ mNums [((s.pairs.at i1).version : Int)]).size ≤ 30000 + (i1 + 1) * 10100 := by simp only [ByteArray.size_append]; omega
    refine Ln (q_loop (x := (⟨i1, u1⟩ : Nat × ByteArray)) (⟨i1 + 1, u1 ++ mTextB (s.pairs.at i1).name ++ mTextB (s.pairs.at i1).value ++ mNums [((s.pairs.at i1).version : Int)]⟩ : Nat × ByteArray) ⟨by show i1 + 1 ≤ s.pairs.n; omega, by show _ = (s.pairs.xs.take (i1 + 1)).foldl pairS z1; rw [hst1, hI1]; exact (foldl_take (i := i1) _ _ s.pairs.xs (by omega)).symm, hzz1⟩ (by show s.pairs.n - (i1 + 1) < s.pairs.n - i1; omega) (Ss [64, 63, 62, 5, 1] 2 (by kernel_rfl) rfl))
   | false =>
    have h3 := of_decide_eq_false h3
    refine Ci false rfl (c_exit (Qe (Qe (Qh (Qn (Cs (Cg (Jq 5 [86, 82, 5, 1] 3 ⟨[(86, .s 2 0 1 1), (82, .p 1 0), (5, .p 1 0), (1, .p 0 0)], [⟨29, s.cs⟩, ⟨97, [vS u1]⟩, ⟨3, [vI ((s.sessions.n : Nat) : Int)]⟩]⟩ ?_))))))))
    have hzn17 := mNums_size [(((s.sessions.n : Nat) : Int) : Int)]
    simp only [List.length_cons, List.length_nil] at hzn17
    refine Lb (σ := Unit) 54 [] [.p 1 0, .s 2 0 1 1] 1 ⟨97, [vS u1]⟩ (fun _ => .tuple #[]) (fun _ => [vS (u1 ++ mNums [(((s.sessions.n : Nat) : Int) : Int)])]) (fun _ => True) rfl (by simp) Try.call54 rfl rfl rfl rfl (fun bs w hS hb => (snap_numbers u1 (⟨some ⟨bs.getD 2 0, 0, none⟩, 1, [(((s.sessions.n : Nat) : Int) : Int)]⟩ : Sl Int) (bs.getD 1 0) w hb (rd_local [(((s.sessions.n : Nat) : Int) : Int)] (hS.loc 2 _ rfl (by simp)) (by simp)) (by show 1 ≤ 1048576; omega) (by first | omega | (simp only [ByteArray.size_append]; omega))).mono (fun e w' ⟨y, h1, h2, h3, h4⟩ => ⟨y, h1, h2, h3, h4⟩)) ?_
    rintro y _
    refine Ln (Qn (Cs (Cs (Cg (Jq 4 [91, 90, 89, 5] 2 ⟨[(91, vI 0), (90, vI ((s.sessions.n : Nat) : Int)), (89, .v s.sessions.val), (5, .p 1 0)], [⟨29, s.cs⟩, ⟨97, [vS (u1 ++ mNums [(((s.sessions.n : Nat) : Int) : Int)])]⟩]⟩ (Ln (Qn (Cb ?_))))))))
    have hz02 : (u1 ++ mNums [(((s.sessions.n : Nat) : Int) : Int)]).size ≤ 100000 := by first | omega | (simp only [ByteArray.size_append]; omega)
    generalize hu2 : u1 ++ mNums [(((s.sessions.n : Nat) : Int) : Int)] = z2 at hz02 ⊢
    refine Cl (σ := Nat × ByteArray) (fun ⟨i2, u2⟩ => i2 ≤ s.sessions.n ∧ u2 = (s.abs.sessions.take i2).foldl sessS z2 ∧ u2.size ≤ 100000 + i2 * 30000) (fun ⟨i2, u2⟩ => s.sessions.n - i2) (fun ⟨i2, u2⟩ => []) (fun ⟨i2, u2⟩ => ⟨[(91, vI (i2 : Int)), (90, vI ((s.sessions.n : Nat) : Int)), (89, .v s.sessions.val), (5, .p 1 0)], [⟨29, s.cs⟩, ⟨97, [vS u2]⟩]⟩) ⟨0, z2⟩ ⟨Nat.zero_le _, rfl, by show z2.size ≤ 100000 + 0 * 30000; omega⟩ (Ss [91, 90, 89, 5] 2 (by kernel_rfl) rfl) ?_
    rintro ⟨i2, u2⟩ ⟨hi2, hI2, hz_2⟩
    have hb5i := hb5 i2
    have hnr : (s.sessions.at i2).replies.n = (s.sessions.at i2).replies.xs.length := rfl
    refine Cs (Cg (Jq 1 [92, 91, 90, 89, 5] 2 ⟨[(92, vB (decide ((i2 : Int) < ((s.sessions.n : Nat) : Int)))), (91, vI (i2 : Int)), (90, vI ((s.sessions.n : Nat) : Int)), (89, .v s.sessions.val), (5, .p 1 0)], [⟨29, s.cs⟩, ⟨97, [vS u2]⟩]⟩ (Ln (Qn (Cs ?_)))))
    cases h4 : decide ((i2 : Int) < ((s.sessions.n : Nat) : Int)) with
    | true =>
     have h4 := of_decide_eq_true h4
     refine Ci true rfl (Ck (Qn (Cs (Cb (Cs (Cg (Jr 4 [(0, .idx s.sessions.ad i2), (1, .ext [.int .i64 (s.sessions.at i2).client, .int .i64 (s.sessions.at i2).id, .int .i64 (s.sessions.at i2).acked, .int .i64 (s.sessions.at i2).last, .slice (s.sessions.at i2).replies.A (s.sessions.at i2).replies.n (s.sessions.at i2).replies.c])] [11, 91, 90, 89, 5] 3 ⟨[(11, .p 2 0), (91, vI (i2 : Int)), (90, vI ((s.sessions.n : Nat) : Int)), (89, .v s.sessions.val), (5, .p 1 0)], [⟨29, s.cs⟩, ⟨97, [vS u2]⟩, ⟨80, (s.sessions.at i2).cs⟩]⟩ [s.sessions.A = some s.sessions.ad, (i2 : Int) = (i2 : Int), i2 < s.sessions.n] [(s.sessions.ad.add (i2 * 5), [.int .i64 (s.sessions.at i2).client, .int .i64 (s.sessions.at i2).id, .int .i64 (s.sessions.at i2).acked, .int .i64 (s.sessions.at i2).last, .slice (s.sessions.at i2).replies.A (s.sessions.at i2).replies.n (s.sessions.at i2).replies.c])] (by kernel_rfl) (oc (Sl.ok.own (s := s.sessions) (i := i2) (And.right (And.right okx)) (by omega)) (oc rfl (oc (by omega) on))) (fun w hk hr => ⟨(Sl.rd.all (s := s.sessions) (i := i2) (And.right (And.right (Rds.kp hs hk))) (by omega) rfl), trivial⟩) (Ln (Qn (Cs (Cg (Jq 13 [107, 95, 11, 91, 90, 89, 5] 4 ⟨[(107, .s 3 0 5 5), (95, .p 1 0), (11, .p 2 0), (91, vI (i2 : Int)), (90, vI ((s.sessions.n : Nat) : Int)), (89, .v s.sessions.val), (5, .p 1 0)], [⟨29, s.cs⟩, ⟨97, [vS u2]⟩, ⟨80, (s.sessions.at i2).cs⟩, ⟨3, [vI (s.sessions.at i2).client, vI (s.sessions.at i2).id, vI (s.sessions.at i2).acked, vI (s.sessions.at i2).last, vI (((s.sessions.at i2).replies.n : Nat) : Int)]⟩]⟩ ?_))))))))))))
     have hzn19 := mNums_size [((s.sessions.at i2).client : Int), ((s.sessions.at i2).id : Int), ((s.sessions.at i2).acked : Int), ((s.sessions.at i2).last : Int), ((((s.sessions.at i2).replies.n : Nat) : Int) : Int)]
     simp only [List.length_cons, List.length_nil] at hzn19
     refine Lb (σ := Unit) 54 [] [.p 1 0, .s 3 0 5 5] 1 ⟨97, [vS u2]⟩ (fun _ => .tuple #[]) (fun _ => [vS (u2 ++ mNums [((s.sessions.at i2).client : Int), ((s.sessions.at i2).id : Int), ((s.sessions.at i2).acked : Int), ((s.sessions.at i2).last : Int), ((((s.sessions.at i2).replies.n : Nat) : Int) : Int)])]) (fun _ => True) rfl (by simp) Try.call54 rfl rfl rfl rfl (fun bs w hS hb => (snap_numbers u2 (⟨some ⟨bs.getD 3 0, 0, none⟩, 5, [((s.sessions.at i2).client : Int), ((s.sessions.at i2).id : Int), ((s.sessions.at i2).acked : Int), ((s.sessions.at i2).last : Int), ((((s.sessions.at i2).replies.n : Nat) : Int) : Int)]⟩ : Sl Int) (bs.getD 1 0) w hb (rd_local [((s.sessions.at i2).client : Int), ((s.sessions.at i2).id : Int), ((s.sessions.at i2).acked : Int), ((s.sessions.at i2).last : Int), ((((s.sessions.at i2).replies.n : Nat) : Int) : Int)] (hS.loc 3 _ rfl (by simp)) (by simp)) (by show 5 ≤ 1048576; omega) (by first | omega | (simp only [ByteArray.size_append]; omega))).mono (fun e w' ⟨y, h1, h2, h3, h4⟩ => ⟨y, h1, h2, h3, h4⟩)) ?_
     rintro y _
     refine Ln (Qn (Cs (Cg (Jq 4 [112, 111, 110, 91, 90, 89, 5] 2 ⟨[(112, vI 0), (111, vI (((s.sessions.at i2).replies.n : Nat) : Int)), (110, .v (s.sessions.at i2).replies.val), (91, vI (i2 : Int)), (90, vI ((s.sessions.n : Nat) : Int)), (89, .v s.sessions.val), (5, .p 1 0)], [⟨29, s.cs⟩, ⟨97, [vS (u2 ++ mNums [((s.sessions.at i2).client : Int), ((s.sessions.at i2).id : Int), ((s.sessions.at i2).acked : Int), ((s.sessions.at i2).last : Int), ((((s.sessions.at i2).replies.n : Nat) : Int) : Int)])]⟩]⟩ (Ln (Qn (Cb ?_)))))))
     have hz03 : (u2 ++ mNums [((s.sessions.at i2).client : Int), ((s.sessions.at i2).id : Int), ((s.sessions.at i2).acked : Int), ((s.sessions.at i2).last : Int), ((((s.sessions.at i2).replies.n : Nat) : Int) : Int)]).size ≤ 100030 + i2 * 30000 := by first | omega | (simp only [ByteArray.size_append]; omega)
     generalize hu3 : u2 ++ mNums [((s.sessions.at i2).client : Int), ((s.sessions.at i2).id : Int), ((s.sessions.at i2).acked : Int), ((s.sessions.at i2).last : Int), ((((s.sessions.at i2).replies.n : Nat) : Int) : Int)] = z3 at hz03 ⊢
     refine Cl (σ := Nat × ByteArray) (fun ⟨i3, u3⟩ => i3 ≤ (s.sessions.at i2).replies.n ∧ u3 = ((s.sessions.at i2).replies.xs.take i3).foldl keptS z3 ∧ u3.size ≤ 100030 + i2 * 30000 + i3 * 5100) (fun ⟨i3, u3⟩ => (s.sessions.at i2).replies.n - i3) (fun ⟨i3, u3⟩ => []) (fun ⟨i3, u3⟩ => ⟨[(112, vI (i3 : Int)), (111, vI (((s.sessions.at i2).replies.n : Nat) : Int)), (110, .v (s.sessions.at i2).replies.val), (91, vI (i2 : Int)), (90, vI ((s.sessions.n : Nat) : Int)), (89, .v s.sessions.val), (5, .p 1 0)], [⟨29, s.cs⟩, ⟨97, [vS u3]⟩]⟩) ⟨0, z3⟩ ⟨Nat.zero_le _, rfl, by show z3.size ≤ 100030 + i2 * 30000 + 0 * 5100; omega⟩ (Ss [112, 111, 110, 91, 90, 89, 5] 2 (by kernel_rfl) rfl) ?_
     rintro ⟨i3, u3⟩ ⟨hi3, hI3, hz_3⟩
     refine Cs (Cg (Jq 1 [113, 112, 111, 110, 91, 90, 89, 5] 2 ⟨[(113, vB (decide ((i3 : Int) < (((s.sessions.at i2).replies.n : Nat) : Int)))), (112, vI (i3 : Int)), (111, vI (((s.sessions.at i2).replies.n : Nat) : Int)), (110, .v (s.sessions.at i2).replies.val), (91, vI (i2 : Int)), (90, vI ((s.sessions.n : Nat) : Int)), (89, .v s.sessions.val), (5, .p 1 0)], [⟨29, s.cs⟩, ⟨97, [vS u3]⟩]⟩ (Ln (Qn (Cs ?_)))))
     cases h5 : decide ((i3 : Int) < (((s.sessions.at i2).replies.n : Nat) : Int)) with
     | true =>
      have h5 := of_decide_eq_true h5
      refine Ci true rfl (Ck (Qn (Cs (Cb (Cs (Cg (Jr 4 [(0, .idx (s.sessions.at i2).replies.ad i3), (1, .ext [.int .i64 ((s.sessions.at i2).replies.at i3).seq, .int .i64 ((s.sessions.at i2).replies.at i3).reply.code, .int .i64 ((s.sessions.at i2).replies.at i3).reply.n, .string ((s.sessions.at i2).replies.at i3).reply.text])] [13, 112, 111, 110, 91, 90, 89, 5] 3 ⟨[(13, .p 2 0), (112, vI (i3 : Int)), (111, vI (((s.sessions.at i2).replies.n : Nat) : Int)), (110, .v (s.sessions.at i2).replies.val), (91, vI (i2 : Int)), (90, vI ((s.sessions.n : Nat) : Int)), (89, .v s.sessions.val), (5, .p 1 0)], [⟨29, s.cs⟩, ⟨97, [vS u3]⟩, ⟨84, ((s.sessions.at i2).replies.at i3).cs⟩]⟩ [(s.sessions.at i2).replies.A = some (s.sessions.at i2).replies.ad, (i3 : Int) = (i3 : Int), i3 < (s.sessions.at i2).replies.n] [((s.sessions.at i2).replies.ad.add (i3 * 4), [.int .i64 ((s.sessions.at i2).replies.at i3).seq, .int .i64 ((s.sessions.at i2).replies.at i3).reply.code, .int .i64 ((s.sessions.at i2).replies.at i3).reply.n, .string ((s.sessions.at i2).replies.at i3).reply.text])] (by kernel_rfl) (oc (Sl.ok.own (s := (s.sessions.at i2).replies) (i := i3) (Sl.ok.at (s := s.sessions) (i := i2) (And.right (And.right okx)) (by omega)) (by omega)) (oc rfl (oc (by omega) on))) (fun w hk hr => ⟨(Sl.rd.all (s := (s.sessions.at i2).replies) (i := i3) (Sl.rd.sub (s := s.sessions) (i := i2) (And.right (And.right (Rds.kp hs hk))) (by omega)) (by omega) rfl), trivial⟩) (Ln (Qn (Cs (Cg (Jq 10 [125, 116, 13, 112, 111, 110, 91, 90, 89, 5] 4 ⟨[(125, .s 3 0 3 3), (116, .p 1 0), (13, .p 2 0), (112, vI (i3 : Int)), (111, vI (((s.sessions.at i2).replies.n : Nat) : Int)), (110, .v (s.sessions.at i2).replies.val), (91, vI (i2 : Int)), (90, vI ((s.sessions.n : Nat) : Int)), (89, .v s.sessions.val), (5, .p 1 0)], [⟨29, s.cs⟩, ⟨97, [vS u3]⟩, ⟨84, ((s.sessions.at i2).replies.at i3).cs⟩, ⟨3, [vI ((s.sessions.at i2).replies.at i3).seq, vI ((s.sessions.at i2).replies.at i3).reply.code, vI ((s.sessions.at i2).replies.at i3).reply.n]⟩]⟩ ?_))))))))))))
      have hzn21 := mNums_size [(((s.sessions.at i2).replies.at i3).seq : Int), (((s.sessions.at i2).replies.at i3).reply.code : Int), (((s.sessions.at i2).replies.at i3).reply.n : Int)]
      simp only [List.length_cons, List.length_nil] at hzn21
      refine Lb (σ := Unit) 54 [] [.p 1 0, .s 3 0 3 3] 1 ⟨97, [vS u3]⟩ (fun _ => .tuple #[]) (fun _ => [vS (u3 ++ mNums [(((s.sessions.at i2).replies.at i3).seq : Int), (((s.sessions.at i2).replies.at i3).reply.code : Int), (((s.sessions.at i2).replies.at i3).reply.n : Int)])]) (fun _ => True) rfl (by simp) Try.call54 rfl rfl rfl rfl (fun bs w hS hb => (snap_numbers u3 (⟨some ⟨bs.getD 3 0, 0, none⟩, 3, [(((s.sessions.at i2).replies.at i3).seq : Int), (((s.sessions.at i2).replies.at i3).reply.code : Int), (((s.sessions.at i2).replies.at i3).reply.n : Int)]⟩ : Sl Int) (bs.getD 1 0) w hb (rd_local [(((s.sessions.at i2).replies.at i3).seq : Int), (((s.sessions.at i2).replies.at i3).reply.code : Int), (((s.sessions.at i2).replies.at i3).reply.n : Int)] (hS.loc 3 _ rfl (by simp)) (by simp)) (by show 3 ≤ 1048576; omega) (by first | omega | (simp only [ByteArray.size_append]; omega))).mono (fun e w' ⟨y, h1, h2, h3, h4⟩ => ⟨y, h1, h2, h3, h4⟩)) ?_
      rintro y _
      refine Ln (Qn (Cg (Jq 4 [130, 127, 112, 111, 110, 91, 90, 89, 5] 2 ⟨[(130, vS ((s.sessions.at i2).replies.at i3).reply.text), (127, .p 1 0), (112, vI (i3 : Int)), (111, vI (((s.sessions.at i2).replies.n : Nat) : Int)), (110, .v (s.sessions.at i2).replies.val), (91, vI (i2 : Int)), (90, vI ((s.sessions.n : Nat) : Int)), (89, .v s.sessions.val), (5, .p 1 0)], [⟨29, s.cs⟩, ⟨97, [vS (u3 ++ mNums [(((s.sessions.at i2).replies.at i3).seq : Int), (((s.sessions.at i2).replies.at i3).reply.code : Int), (((s.sessions.at i2).replies.at i3).reply.n : Int)])]⟩]⟩ ?_)))
      have hzt23 := mTextB_size ((s.sessions.at i2).replies.at i3).reply.text
      refine Lb (σ := Unit) 55 [] [.p 1 0, vS ((s.sessions.at i2).replies.at i3).reply.text] 1 ⟨97, [vS (u3 ++ mNums [(((s.sessions.at i2).replies.at i3).seq : Int), (((s.sessions.at i2).replies.at i3).reply.code : Int), (((s.sessions.at i2).replies.at i3).reply.n : Int)])]⟩ (fun _ => .tuple #[]) (fun _ => [vS (u3 ++ mNums [(((s.sessions.at i2).replies.at i3).seq : Int), (((s.sessions.at i2).replies.at i3).reply.code : Int), (((s.sessions.at i2).replies.at i3).reply.n : Int)] ++ mTextB ((s.sessions.at i2).replies.at i3).reply.text)]) (fun _ => True) rfl (by simp) Try.call55 rfl rfl rfl rfl (fun bs w hS hb => (snap_text (u3 ++ mNums [(((s.sessions.at i2).replies.at i3).seq : Int), (((s.sessions.at i2).replies.at i3).reply.code : Int), (((s.sessions.at i2).replies.at i3).reply.n : Int)]) ((s.sessions.at i2).replies.at i3).reply.text (bs.getD 1 0) w hb (Sl.ok.at (s := (s.sessions.at i2).replies) (i := i3) (Sl.ok.at (s := s.sessions) (i := i2) (And.right (And.right okx)) (by omega)) (by omega)) (by first | omega | (simp only [ByteArray.size_append]; omega))).mono (fun e w' ⟨y, h1, h2, h3, h4⟩ => ⟨y, h1, h2, h3, h4⟩)) ?_
      rintro y _
      refine Ln (q_block_normal (Qn (Cg (Jr 2 [] [112, 111, 110, 91, 90, 89, 5] 2 ⟨[(112, vI ((i3 : Int) + 1)), (111, vI (((s.sessions.at i2).replies.n : Nat) : Int)), (110, .v (s.sessions.at i2).replies.val), (91, vI (i2 : Int)), (90, vI ((s.sessions.n : Nat) : Int)), (89, .v s.sessions.val), (5, .p 1 0)], [⟨29, s.cs⟩, ⟨97, [vS (u3 ++ mNums [(((s.sessions.at i2).replies.at i3).seq : Int), (((s.sessions.at i2).replies.at i3).reply.code : Int), (((s.sessions.at i2).replies.at i3).reply.n : Int)] ++ mTextB ((s.sessions.at i2).replies.at i3).reply.text)]⟩]⟩ [inR ((i3 : Int) + 1)] [] (by kernel_rfl) (oc (by unfold inR; omega) on) wn ?_))))
      have hst3 : u3 ++ mNums [(((s.sessions.at i2).replies.at i3).seq : Int), (((s.sessions.at i2).replies.at i3).reply.code : Int), (((s.sessions.at i2).replies.at i3).reply.n : Int)] ++ mTextB ((s.sessions.at i2).replies.at i3).reply.text = keptS u3 ((s.sessions.at i2).replies.xs.getD i3 default) := by
       rfl
      have hzz3 : (u3 ++ mNums [(((s.sessions.at i2).replies.at i3).seq : Int), (((s.sessions.at i2).replies.at i3).reply.code : Int), (((s.sessions.at i2).replies.at i3).reply.n : Int)] ++ mTextB ((s.sessions.at i2).replies.at i3).reply.text).size ≤ 100030 + i2 * 30000 + (i3 + 1) * 5100 := by simp only [ByteArray.size_append]; omega
      refine Ln (q_loop (x := (⟨i3, u3⟩ : Nat × ByteArray)) (⟨i3 + 1, u3 ++ mNums [(((s.sessions.at i2).replies.at i3).seq : Int), (((s.sessions.at i2).replies.at i3).reply.code : Int), (((s.sessions.at i2).replies.at i3).reply.n : Int)] ++ mTextB ((s.sessions.at i2).replies.at i3).reply.text⟩ : Nat × ByteArray) ⟨by show i3 + 1 ≤ (s.sessions.at i2).replies.n; omega, by show _ = ((s.sessions.at i2).replies.xs.take (i3 + 1)).foldl keptS z3; rw [hst3, hI3]; exact (foldl_take (i := i3) _ _ (s.sessions.at i2).replies.xs (by omega)).symm, hzz3⟩ (by show (s.sessions.at i2).replies.n - (i3 + 1) < (s.sessions.at i2).replies.n - i3; omega) (Ss [112, 111, 110, 91, 90, 89, 5] 2 (by kernel_rfl) rfl))
     | false =>
      have h5 := of_decide_eq_false h5
      refine Ci false rfl (c_exit (Qe (Qe (Qh (q_block_normal (Qn (Cg (Jr 2 [] [91, 90, 89, 5] 2 ⟨[(91, vI ((i2 : Int) + 1)), (90, vI ((s.sessions.n : Nat) : Int)), (89, .v s.sessions.val), (5, .p 1 0)], [⟨29, s.cs⟩, ⟨97, [vS u3]⟩]⟩ [inR ((i2 : Int) + 1)] [] (by kernel_rfl) (oc (by unfold inR; omega) on) wn ?_))))))))
      have hst2 : u3 = sessS u2 (s.abs.sessions.getD i2 default) := by
       rw [hae, hI3, List.take_of_length_le (by omega), ← hu3]
       rfl
      have hzz2 : (u3).size ≤ 100000 + (i2 + 1) * 30000 := by omega
      refine Ln (q_loop (x := (⟨i2, u2⟩ : Nat × ByteArray)) (⟨i2 + 1, u3⟩ : Nat × ByteArray) ⟨by show i2 + 1 ≤ s.sessions.n; omega, by show _ = (s.abs.sessions.take (i2 + 1)).foldl sessS z2; rw [hst2, hI2]; exact (foldl_take (i := i2) _ _ s.abs.sessions (by omega)).symm, hzz2⟩ (by show s.sessions.n - (i2 + 1) < s.sessions.n - i2; omega) (Ss [91, 90, 89, 5] 2 (by kernel_rfl) rfl))
    | false =>
     have h4 := of_decide_eq_false h4
     refine Ci false rfl (c_exit (Qe (Qe (Qh (Qn (Cs (Cd 12 [] (.p 0 (.p 1 (.p 2 (.q 3 (.p 4 (.p 5 (.p 6 (.q 7 (.b 8 (.p 9 (.p 10 (.p 11 .nil))) .z))))))))) [] [] Try_mixed (by kernel_rfl) (pq_then pq_body) .slnil (Hq [] [(0, true), (1, true), (2, true), (3, false), (4, true), (5, true), (6, true), (7, false)] [(141, vS u2), (140, .p 1 0), (139, .p 1 0), (138, .p 1 0), (137, vS u2), (136, .p 1 0), (135, .p 1 0), (134, .p 1 0), (92, vB false), (91, vI (i2 : Int)), (90, vI ((s.sessions.n : Nat) : Int)), (89, .v s.sessions.val), (5, .p 1 0)] [] [] rfl (by kernel_rfl) on wn ?_))))))))
     have hzs25 : (mSeal u2).size = 4 := bstr_size _
     refine h_pure 36 [] [vS u2] (.string (mSeal u2)) rfl Try.call36 rfl rfl rfl rfl (fun bs w hS => codec_Seal _ w (by first | assumption | omega | (simp only [emp_size]; omega))) (fun bs0 bs w hp hl hS => hS.down hp hl rfl (le_same (le_same le_nil)) .slnil) ?_
     refine Hq [] [(9, true), (10, true), (11, true)] [(3, vI 0), (2, vS (u2 ++ (mSeal u2))), (143, vS (u2 ++ (mSeal u2))), (142, vS (mSeal u2)), (141, vS u2), (140, .p 1 0), (139, .p 1 0), (138, .p 1 0), (137, vS u2), (136, .p 1 0), (135, .p 1 0), (134, .p 1 0), (92, vB false), (91, vI (i2 : Int)), (90, vI ((s.sessions.n : Nat) : Int)), (89, .v s.sessions.val), (5, .p 1 0)] [u2.size + (mSeal u2).size ≤ 9223372036854775807] [] rfl (by kernel_rfl) (oc (by first | omega | (simp only [ByteArray.size_append]; omega)) on) wn ?_
     refine Hn (Ln (Qn (Cr (Rt (.inl rfl) [vS (u2 ++ (mSeal u2)), vI 0] rfl (fun bs w hS => (⟨?_, hS.kp⟩))))))
     have hb : u2 = mSnapB s.abs := by
      unfold mSnapB
      rw [hI2, List.take_of_length_le (by omega), ← hu2, hI1, List.take_of_length_le (by omega), ← hu1, hI0, List.take_of_length_le (by omega), ← hu0]
      simp only [emp_append]
      rw [hll, hlp, hle]
      rfl
     unfold mSnap
     rw [if_pos (by assumption), ← hb]
     rfl
 | false =>
  have h1 := of_decide_eq_false h1
  refine Ci true rfl (Cs (Cg (Jq 3 [3, 2] 0 ⟨[(3, vI (mState s.abs)), (2, vS emp)], []⟩ (Ln (Qn (Cr (Qr (Rt (.inl rfl) [vS emp, vI (mState s.abs)] rfl (fun bs w hS => (⟨?_, hS.kp⟩))))))))))
  unfold mSnap
  rw [if_neg (by assumption)]
  rfl

theorem clone_Pair {B : Nat → Prop} (s : Sl DPair) (w : World) (hs : s.rd B w) (hb : s.n ≤ 1048576) : Calls Try.prog 75 #[.slice s.A s.n s.c] w fun e w' => ∃ y : Sl DPair, e = .returned y.val ∧ y.xs = s.xs ∧ Kp [] w w' ∧ Fresh w w' (rowA 77 y.A y.c y.xs) := by
 have oks := Sl.rd.ok hs
 have ncs := Sl.ok.nc oks
 have hns : s.n = s.xs.length := rfl
 refine calls_J0 8 Try.func75 rfl rfl [.slice s.A s.n s.c] rfl ?_
 refine Cs (Cg (Jq 1 [0] 0 ⟨[(0, .v s.val)], []⟩ (Ln (Qn (Cs (Cs (Cg (Jr 2 [(1, .val (.bool s.A.isNone))] [4, 0] 0 ⟨[(4, vB s.A.isNone), (0, .v s.val)], []⟩ [∀ w, (do eqGuard .eql 26 (.tmp 3) (.const (.slice none 0 0)) (.slice s.A s.n s.c) (.slice none 0 0); binOp .eql 26 (.slice s.A s.n s.c) (.slice none 0 0) : Sem Value).run Try.prog w = .ok (.bool s.A.isNone) w] [] (by kernel_rfl) (oc (eq_nil Try.underlying26) on) wn (Ln (Qn ?_))))))))))
 cases h1 : s.A.isNone with
 | true =>
  refine Ci true rfl (Cs (Cg (Jq 1 [2] 0 ⟨[(2, .v (.slice none 0 0))], []⟩ (Ln (Qn (Cr (Qr (Rt (.inl rfl) [.v (.slice none 0 0)] rfl (fun bs w hS => ?_)))))))))
  have hnil : s.xs = [] := Sl.ok.empty oks (by cases h : s.A <;> simp_all)
  exact ⟨Sl.nil, rfl, hnil.symm, hS.kp, rowA_nil 77 w⟩
 | false =>
  refine Ci false rfl (Ck (Qn (Cs (Cg (l_row0A (α := DPair) 77 Try.underlying26 (by kernel_rfl) (by kernel_rfl) (by kernel_rfl) rfl ?_)))))
  intro A1
  refine Jq 1 [6, 5] 0 ⟨[(6, .v s.val), (5, .v (.slice A1 ([] : List DPair).length 0))], []⟩ (l_appendA (α := DPair) 77 40 A1 0 ([]) (.v (.slice s.A s.n s.c)) (s.xs) Try.underlying26 (by kernel_rfl) rfl rfl rfl (fun bs w hS => ⟨_, _, rfl, Sl.rd.src (s := s) (Sl.rd.kp hs hS.kp)⟩) (by simp only [List.length_nil]; omega) (by simp only [List.length_nil]; omega) ?_)
  intro A2 c2
  refine Jq 1 [2] 0 ⟨[(2, .v (.slice A2 ([] ++ s.xs).length c2))], []⟩ (Ln (Qn (Cr (Rt (.inl rfl) [.v (.slice A2 ([] ++ s.xs).length c2)] rfl (fun bs w hS => ?_)))))
  exact ⟨⟨A2, c2, [] ++ s.xs⟩, rfl, by simp, hS.kp, hS.out1⟩

theorem same_pairs {B B' : Nat → Prop} (a b : Sl DPair) (w : World) (ha : a.rd B w) (hb : b.rd B' w) (he : a.xs = b.xs) : Calls Try.prog 48 #[.slice a.A a.n a.c, .slice b.A b.n b.c] w fun e w' => e = .returned (.bool true) ∧ Kp [] w w' := by
 have oka := Sl.rd.ok ha
 have okb := Sl.rd.ok hb
 have hn := xs_n he
 have nca := Sl.ok.nc oka
 refine calls_J0 26 Try.func48 rfl rfl [.slice a.A a.n a.c, .slice b.A b.n b.c] rfl ?_
 refine Cs (Cg (Jq 1 [0, 1] 0 ⟨[(0, .v a.val), (1, .v b.val)], []⟩ (Ln (Qn (Cs (Cs (Cg (Jq 5 [10, 0, 1] 0 ⟨[(10, vB (!(decide (((a.n : Nat) : Int) = ((b.n : Nat) : Int))))), (0, .v a.val), (1, .v b.val)], []⟩ (Ln (Qn ?_))))))))))
 cases h1 : decide (((a.n : Nat) : Int) = ((b.n : Nat) : Int)) with
 | true =>
  have h1 := of_decide_eq_true h1
  refine Ci false rfl (Ck (Qn (Cs (Cs (Cg (Jq 1 [5, 0, 1] 0 ⟨[(5, vI 0), (0, .v a.val), (1, .v b.val)], []⟩ (Ln (Qn (Cb (Cl (σ := Nat) (fun i => True) (fun i => a.n - i) (fun i => []) (fun i => ⟨[(5, vI (i : Int)), (0, .v a.val), (1, .v b.val)], []⟩) 0 trivial (Ss [5, 0, 1] 0 (by kernel_rfl) rfl) ?_))))))))))
  rintro i _
  have hat := xs_at he i
  refine Cs (Cs (Cg (Jq 4 [14, 5, 0, 1] 0 ⟨[(14, vB (decide ((i : Int) < ((a.n : Nat) : Int)))), (5, vI (i : Int)), (0, .v a.val), (1, .v b.val)], []⟩ (Ln (Qn ?_)))))
  cases h2 : decide ((i : Int) < ((a.n : Nat) : Int)) with
  | true =>
   have h2 := of_decide_eq_true h2
   refine Ci true rfl (Ck (Qn (Cs (Cb (Cs (Cd 9 [] (.p 0 (.p 1 (.p 2 (.q 3 (.p 4 (.p 5 (.p 6 (.q 7 (.p 8 .nil))))))))) [] [] Try_mixed (by kernel_rfl) (pq_then (pq_block (pq_then (pq_then (pq_block (pq_then pq_body)))))) .slnil (Hq [(2, .idx a.ad i), (3, .ext [.string (a.at i).name, .string (a.at i).value, .int .i64 (a.at i).version]), (6, .idx b.ad i), (7, .ext [.string (b.at i).name, .string (b.at i).value, .int .i64 (b.at i).version]), (8, .val (.bool (!((decide ((a.at i).name = (b.at i).name)) && ((decide ((a.at i).value = (b.at i).value)) && ((decide ((a.at i).version = (b.at i).version)) && true))))))] [(0, true), (1, true), (2, true), (3, false), (4, true), (5, true), (6, true), (7, false), (8, true)] [(25, vB (!((decide ((a.at i).name = (b.at i).name)) && ((decide ((a.at i).value = (b.at i).value)) && ((decide ((a.at i).version = (b.at i).version)) && true))))), (24, .v (b.at i).val), (23, .v (.pointer (some (b.ad.add (i * 3))))), (22, vI (i : Int)), (21, .v b.val), (20, .v (a.at i).val), (19, .v (.pointer (some (a.ad.add (i * 3))))), (18, vI (i : Int)), (17, .v a.val), (14, vB true), (5, vI (i : Int)), (0, .v a.val), (1, .v b.val)] [a.A = some a.ad, (i : Int) = (i : Int), i < a.n, b.A = some b.ad, (i : Int) = (i : Int), i < b.n, ∀ w, (do eqGuard .neq 77 (.tmp 20) (.tmp 24) (a.at i).val (b.at i).val; binOp .neq 77 (a.at i).val (b.at i).val : Sem Value).run Try.prog w = .ok (.bool (!((decide ((a.at i).name = (b.at i).name)) && ((decide ((a.at i).value = (b.at i).value)) && ((decide ((a.at i).version = (b.at i).version)) && true))))) w] [(a.ad.add (i * 3), [.string (a.at i).name, .string (a.at i).value, .int .i64 (a.at i).version]), (b.ad.add (i * 3), [.string (b.at i).name, .string (b.at i).value, .int .i64 (b.at i).version])] rfl (by kernel_rfl) (oc (Sl.ok.own (s := a) (i := i) oka (by omega)) (oc rfl (oc (by omega) (oc (Sl.ok.own (s := b) (i := i) okb (by omega)) (oc rfl (oc (by omega) (oc (neq_agg (by kernel_rfl) (by kernel_rfl)) on))))))) (fun w hk hr => ⟨(Sl.rd.all (s := a) (i := i) (Sl.rd.kp ha hk) (by omega) rfl), ⟨(Sl.rd.all (s := b) (i := i) (Sl.rd.kp hb hk) (by omega) rfl), trivial⟩⟩) (Hn (Ln (Qn ?_))))))))))
   cases h3 : (decide ((a.at i).name = (b.at i).name)) && ((decide ((a.at i).value = (b.at i).value)) && ((decide ((a.at i).version = (b.at i).version)) && true)) with
   | true =>
    refine Ci false rfl (Ck (q_block_normal (Qn (Cg (Jr 3 [] [5, 0, 1] 0 ⟨[(5, vI ((i : Int) + 1)), (0, .v a.val), (1, .v b.val)], []⟩ [inR ((i : Int) + 1)] [] (by kernel_rfl) (oc (by unfold inR; omega) on) wn (Ln (q_loop (x := (i : Nat)) ((i + 1) : Nat) trivial (by omega) (Ss [5, 0, 1] 0 (by kernel_rfl) rfl))))))))
   | false =>
    exfalso; simp [xs_at he i] at h3
  | false =>
   have h2 := of_decide_eq_false h2
   refine Ci false rfl (c_exit (Qe (Qe (Qh (Qn (Cs (Cg (Jq 1 [4] 0 ⟨[(4, vB true)], []⟩ (Ln (Qn (Cr (Rt (.inl rfl) [vB true] rfl (fun bs w hS => ?_)))))))))))))
   exact ⟨rfl, hS.kp⟩
 | false =>
  have h1 := of_decide_eq_false h1
  exfalso; first | omega | exact h1 (xs_at he i)

theorem clone_Int {B : Nat → Prop} (s : Sl Int) (w : World) (hs : s.rd B w) (hb : s.n ≤ 1048576) : Calls Try.prog 92 #[.slice s.A s.n s.c] w fun e w' => ∃ y : Sl Int, e = .returned y.val ∧ y.xs = s.xs ∧ Kp [] w w' ∧ Fresh w w' (rowA 3 y.A y.c y.xs) := by
 have oks := Sl.rd.ok hs
 have ncs := Sl.ok.nc oks
 have hns : s.n = s.xs.length := rfl
 refine calls_J0 8 Try.func92 rfl rfl [.slice s.A s.n s.c] rfl ?_
 refine Cs (Cg (Jq 1 [0] 0 ⟨[(0, .v s.val)], []⟩ (Ln (Qn (Cs (Cs (Cg (Jr 2 [(1, .val (.bool s.A.isNone))] [4, 0] 0 ⟨[(4, vB s.A.isNone), (0, .v s.val)], []⟩ [∀ w, (do eqGuard .eql 72 (.tmp 3) (.const (.slice none 0 0)) (.slice s.A s.n s.c) (.slice none 0 0); binOp .eql 72 (.slice s.A s.n s.c) (.slice none 0 0) : Sem Value).run Try.prog w = .ok (.bool s.A.isNone) w] [] (by kernel_rfl) (oc (eq_nil Try.underlying72) on) wn (Ln (Qn ?_))))))))))
 cases h1 : s.A.isNone with
 | true =>
  refine Ci true rfl (Cs (Cg (Jq 1 [2] 0 ⟨[(2, .v (.slice none 0 0))], []⟩ (Ln (Qn (Cr (Qr (Rt (.inl rfl) [.v (.slice none 0 0)] rfl (fun bs w hS => ?_)))))))))
  have hnil : s.xs = [] := Sl.ok.empty oks (by cases h : s.A <;> simp_all)
  exact ⟨Sl.nil, rfl, hnil.symm, hS.kp, rowA_nil 3 w⟩
 | false =>
  refine Ci false rfl (Ck (Qn (Cs (Cg (l_row0A (α := Int) 3 Try.underlying72 (by kernel_rfl) (by kernel_rfl) (by kernel_rfl) rfl ?_)))))
  intro A1
  refine Jq 1 [6, 5] 0 ⟨[(6, .v s.val), (5, .v (.slice A1 ([] : List Int).length 0))], []⟩ (l_appendA (α := Int) 3 8 A1 0 ([]) (.v (.slice s.A s.n s.c)) (s.xs) Try.underlying72 (by kernel_rfl) rfl rfl rfl (fun bs w hS => ⟨_, _, rfl, Sl.rd.src (s := s) (Sl.rd.kp hs hS.kp)⟩) (by simp only [List.length_nil]; omega) (by simp only [List.length_nil]; omega) ?_)
  intro A2 c2
  refine Jq 1 [2] 0 ⟨[(2, .v (.slice A2 ([] ++ s.xs).length c2))], []⟩ (Ln (Qn (Cr (Rt (.inl rfl) [.v (.slice A2 ([] ++ s.xs).length c2)] rfl (fun bs w hS => ?_)))))
  exact ⟨⟨A2, c2, [] ++ s.xs⟩, rfl, by simp, hS.kp, hS.out1⟩

theorem clone_Kept {B : Nat → Prop} (s : Sl DKept) (w : World) (hs : s.rd B w) (hb : s.n ≤ 1048576) : Calls Try.prog 93 #[.slice s.A s.n s.c] w fun e w' => ∃ y : Sl DKept, e = .returned y.val ∧ y.xs = s.xs ∧ Kp [] w w' ∧ Fresh w w' (rowA 84 y.A y.c y.xs) := by
 have oks := Sl.rd.ok hs
 have ncs := Sl.ok.nc oks
 have hns : s.n = s.xs.length := rfl
 refine calls_J0 8 Try.func93 rfl rfl [.slice s.A s.n s.c] rfl ?_
 refine Cs (Cg (Jq 1 [0] 0 ⟨[(0, .v s.val)], []⟩ (Ln (Qn (Cs (Cs (Cg (Jr 2 [(1, .val (.bool s.A.isNone))] [4, 0] 0 ⟨[(4, vB s.A.isNone), (0, .v s.val)], []⟩ [∀ w, (do eqGuard .eql 78 (.tmp 3) (.const (.slice none 0 0)) (.slice s.A s.n s.c) (.slice none 0 0); binOp .eql 78 (.slice s.A s.n s.c) (.slice none 0 0) : Sem Value).run Try.prog w = .ok (.bool s.A.isNone) w] [] (by kernel_rfl) (oc (eq_nil Try.underlying78) on) wn (Ln (Qn ?_))))))))))
 cases h1 : s.A.isNone with
 | true =>
  refine Ci true rfl (Cs (Cg (Jq 1 [2] 0 ⟨[(2, .v (.slice none 0 0))], []⟩ (Ln (Qn (Cr (Qr (Rt (.inl rfl) [.v (.slice none 0 0)] rfl (fun bs w hS => ?_)))))))))
  have hnil : s.xs = [] := Sl.ok.empty oks (by cases h : s.A <;> simp_all)
  exact ⟨Sl.nil, rfl, hnil.symm, hS.kp, rowA_nil 84 w⟩
 | false =>
  refine Ci false rfl (Ck (Qn (Cs (Cg (l_row0A (α := DKept) 84 Try.underlying78 (by kernel_rfl) (by kernel_rfl) (by kernel_rfl) rfl ?_)))))
  intro A1
  refine Jq 1 [6, 5] 0 ⟨[(6, .v s.val), (5, .v (.slice A1 ([] : List DKept).length 0))], []⟩ (l_appendA (α := DKept) 84 40 A1 0 ([]) (.v (.slice s.A s.n s.c)) (s.xs) Try.underlying78 (by kernel_rfl) rfl rfl rfl (fun bs w hS => ⟨_, _, rfl, Sl.rd.src (s := s) (Sl.rd.kp hs hS.kp)⟩) (by simp only [List.length_nil]; omega) (by simp only [List.length_nil]; omega) ?_)
  intro A2 c2
  refine Jq 1 [2] 0 ⟨[(2, .v (.slice A2 ([] ++ s.xs).length c2))], []⟩ (Ln (Qn (Cr (Rt (.inl rfl) [.v (.slice A2 ([] ++ s.xs).length c2)] rfl (fun bs w hS => ?_)))))
  exact ⟨⟨A2, c2, [] ++ s.xs⟩, rfl, by simp, hS.kp, hS.out1⟩

theorem lock_Copy {B : Nat → Prop} (s : Sl CLock) (w : World) (hs : s.rd B w) (hsm : Rds.small s) : Calls Try.prog 74 #[.slice s.A s.n s.c] w fun e w' => ∃ y : Sl CLock, e = .returned y.val ∧ y.xs.map CLock.abs = s.xs.map CLock.abs ∧ Kp [] w w' ∧ Fresh w w' (locksR 74 3 y) := by
 have oks := Sl.rd.ok hs
 have ncs := Sl.ok.nc oks
 refine calls_J0 22 Try.func74 rfl rfl [.slice s.A s.n s.c] rfl ?_
 refine Cs (Cg (Jq 1 [0] 0 ⟨[(0, .v s.val)], []⟩ (Ln (Qn (Cs (Cg (Jq 1 [3, 0] 0 ⟨[(3, .v (.slice none 0 0)), (0, .v s.val)], []⟩ (Ln (Qn (Cs (Cs (Cg (Jq 3 [8, 7, 6, 3] 0 ⟨[(8, vI 0), (7, vI ((s.n : Nat) : Int)), (6, .v s.val), (3, .v (.slice none 0 0))], []⟩ (Ln (Qn (Cb (c_rowA (α := CLock) 74 (c_nores (ownL (lineR 3) []) rfl (fun w x hx => by cases hx) (Cl (σ := Nat × Option Addr × Nat × List CLock) (fun ⟨i, A, c, L⟩ => i ≤ s.n ∧ L.length = i ∧ L.map CLock.abs = (s.xs.take i).map CLock.abs) (fun ⟨i, A, c, L⟩ => s.n - i) (fun ⟨i, A, c, L⟩ => [ownL (lineR 3) L, rowA 74 A c (L : List CLock)]) (fun ⟨i, A, c, L⟩ => ⟨[(8, vI (i : Int)), (7, vI ((s.n : Nat) : Int)), (6, .v s.val), (3, .v (.slice A L.length c))], []⟩) ⟨0, none, 0, []⟩ ⟨Nat.zero_le _, rfl, by simp⟩ (Ss [8, 7, 6, 3] 0 (by kernel_rfl) rfl) ?_)))))))))))))))))))
 rintro ⟨i, A, c, L⟩ ⟨hi, hL, hI⟩
 have hsn := hsm.1
 refine Cs (Cg (Jq 1 [9, 8, 7, 6, 3] 0 ⟨[(9, vB (decide ((i : Int) < ((s.n : Nat) : Int)))), (8, vI (i : Int)), (7, vI ((s.n : Nat) : Int)), (6, .v s.val), (3, .v (.slice A L.length c))], []⟩ (Ln (Qn (Cs ?_)))))
 cases h1 : decide ((i : Int) < ((s.n : Nat) : Int)) with
 | true =>
  have h1 := of_decide_eq_true h1
  refine Ci true rfl (Ck (Qn (Cs (Cb (Cs (Cg (Jr 4 [(0, .idx s.ad i), (1, .ext [.string (s.at i).name, .int .i64 (s.at i).holder, .int .i64 (s.at i).fence, .slice (s.at i).line.A (s.at i).line.n (s.at i).line.c])] [5, 8, 7, 6, 3] 1 ⟨[(5, .p 0 0), (8, vI (i : Int)), (7, vI ((s.n : Nat) : Int)), (6, .v s.val), (3, .v (.slice A L.length c))], [⟨74, (s.at i).cs⟩]⟩ [s.A = some s.ad, (i : Int) = (i : Int), i < s.n] [(s.ad.add (i * 4), [.string (s.at i).name, .int .i64 (s.at i).holder, .int .i64 (s.at i).fence, .slice (s.at i).line.A (s.at i).line.n (s.at i).line.c])] (by kernel_rfl) (oc (Sl.ok.own (s := s) (i := i) oks (by omega)) (oc rfl (oc (by omega) on))) (fun w hk hr => ⟨(Sl.rd.all (s := s) (i := i) (Sl.rd.kp hs hk) (by omega) rfl), trivial⟩) (Ln (Qn (Cs (Cg (Jq 2 [13, 5, 8, 7, 6, 3] 1 ⟨[(13, .v (s.at i).line.val), (5, .p 0 0), (8, vI (i : Int)), (7, vI ((s.n : Nat) : Int)), (6, .v s.val), (3, .v (.slice A L.length c))], [⟨74, (s.at i).cs⟩]⟩ (l_freshF (σ := Sl Int) 92 [] [.v (s.at i).line.val] (fun y1 => .slice y1.A y1.n y1.c) (fun y1 => y1.xs = (s.at i).line.xs) (fun y1 => rowA 3 y1.A y1.c (y1.xs : List Int)) Try.call92 rfl rfl rfl rfl (fun bs w hS => clone_Int (s.at i).line w (And.right (Sl.rd.sub (s := s) (i := i) (Sl.rd.kp hs hS.kp) (by omega))) (hsm.2 i (by omega)).1) ?_)))))))))))))
  rintro y1 hF1
  refine Jq 2 [5, 8, 7, 6, 3] 1 ⟨[(5, .p 0 0), (8, vI (i : Int)), (7, vI ((s.n : Nat) : Int)), (6, .v s.val), (3, .v (.slice A L.length c))], [⟨74, [vS (s.at i).name, vI (s.at i).holder, vI (s.at i).fence, .v y1.val]⟩]⟩ (Ln (Qn (Cg (Jq 3 [18, 16, 8, 7, 6] 2 ⟨[(18, .s 1 0 1 1), (16, .v (.slice A L.length c)), (8, vI (i : Int)), (7, vI ((s.n : Nat) : Int)), (6, .v s.val)], [⟨74, [vS (s.at i).name, vI (s.at i).holder, vI (s.at i).fence, .v y1.val]⟩, ⟨74, [vS (s.at i).name, vI (s.at i).holder, vI (s.at i).fence, .v y1.val]⟩]⟩ (Lm (R' := [rowA 74 A c (L : List CLock), rowA 3 y1.A y1.c (y1.xs : List Int), ownL (lineR 3) L]) (Pf 2 rfl) (l_appendA (α := CLock) 74 56 A c (L) (.s 1 0 1 1) ([(⟨(s.at i).name, (s.at i).holder, (s.at i).fence, y1⟩ : CLock)]) Try.underlying25 (by kernel_rfl) rfl rfl rfl (fun bs w hS => by obtain ⟨q1, q2, q3, q4⟩ := src_loc (i := 1) (off := 0) (k := 1) (c := 1) (q := 4) (vs := [.string (s.at i).name, .int .i64 (s.at i).holder, .int .i64 (s.at i).fence, .slice y1.A y1.n y1.c]) hS rfl rfl; exact ⟨some q1, q2, q3, q4⟩) (by first | omega | (simp only [List.length_nil, List.length_cons, List.length_append]; omega) | (have hq := (hsm.2 i (by omega)).1; simp only [Sl.n, List.length_nil] at hq ⊢; omega)) (by first | omega | (simp only [List.length_nil, List.length_cons, List.length_append]; omega) | (have hq := (hsm.2 i (by omega)).1; simp only [Sl.n, List.length_nil] at hq ⊢; omega)) ?_))))))
  intro A3 c3
  refine Jq 1 [3, 8, 7, 6] 0 ⟨[(3, .v (.slice A3 (L ++ [(⟨(s.at i).name, (s.at i).holder, (s.at i).fence, y1⟩ : CLock)]).length c3)), (8, vI (i : Int)), (7, vI ((s.n : Nat) : Int)), (6, .v s.val)], []⟩ (Ln (q_block_normal (Qn (Cg (Jr 2 [] [8, 3, 7, 6] 0 ⟨[(8, vI ((i : Int) + 1)), (3, .v (.slice A3 (L ++ [(⟨(s.at i).name, (s.at i).holder, (s.at i).fence, y1⟩ : CLock)]).length c3)), (7, vI ((s.n : Nat) : Int)), (6, .v s.val)], []⟩ [inR ((i : Int) + 1)] [] (by kernel_rfl) (oc (by unfold inR; omega) on) wn (Lm (R' := [rowA 3 y1.A y1.c (y1.xs : List Int), ownL (lineR 3) L, rowA 74 A3 c3 (L ++ [(⟨(s.at i).name, (s.at i).holder, (s.at i).fence, y1⟩ : CLock)] : List CLock)]) (by exact perm3 0 _ _ _) (l_join (ownL (lineR 3) (L ++ [(⟨(s.at i).name, (s.at i).holder, (s.at i).fence, y1⟩ : CLock)])) (ownL_app_fp (lineR 3) L (⟨(s.at i).name, (s.at i).holder, (s.at i).fence, y1⟩ : CLock)) (fun w => ownL_app_p (lineR 3) L (⟨(s.at i).name, (s.at i).holder, (s.at i).fence, y1⟩ : CLock) w) (Ln (q_loop (x := (⟨i, A, c, L⟩ : Nat × Option Addr × Nat × List CLock)) (⟨i + 1, A3, c3, L ++ [(⟨(s.at i).name, (s.at i).holder, (s.at i).fence, y1⟩ : CLock)]⟩ : Nat × Option Addr × Nat × List CLock) ⟨by omega, by rw [List.length_append]; simp [hL], map_take_snoc (by omega) hI (by first | simp [CLock.abs, hF1] | simp [CLock.abs])⟩ (by show s.n - (i + 1) < s.n - i; omega) (Ss [8, 7, 6, 3] 0 (by kernel_rfl) rfl))))))))))
 | false =>
  have h1 := of_decide_eq_false h1
  refine Ci false rfl (c_exit (Qe (Qe (Qh (Qn (Cs (Cg (Jq 2 [2] 0 ⟨[(2, .v (.slice A L.length c))], []⟩ (Ln (Qn (Cr (Rt (.inl rfl) [.v (.slice A L.length c)] rfl (fun bs w hS => ?_)))))))))))))
  have hn : L.length = s.n := by omega
  exact ⟨⟨A, c, L⟩, rfl, by rw [hI, take_all (by omega)], hS.kp, hS.out⟩
theorem lock_CopyS {B : Nat → Prop} (s : Sl CLock) (w : World) (hs : s.rd B w) (hsm : Rds.small s) : Calls Try.prog 74 #[.slice s.A s.n s.c] w fun e w' => ∃ y : Sl CLock, e = .returned y.val ∧ y.xs.map CLock.abs = s.xs.map CLock.abs ∧ FreshS w w' y :=
 (lock_Copy s w hs hsm).mono fun e w' ⟨y, h1, h2, h3, h4⟩ => ⟨y, h1, h2, h3, h4.sub fun hp => locksR_rd hp (locks_names hs h2)⟩

theorem session_Copy {B : Nat → Prop} (s : Sl CSession) (w : World) (hs : s.rd B w) (hsm : Rds.small s) : Calls Try.prog 76 #[.slice s.A s.n s.c] w fun e w' => ∃ y : Sl CSession, e = .returned y.val ∧ y.xs.map CSession.abs = s.xs.map CSession.abs ∧ Kp [] w w' ∧ Fresh w w' (sessR 80 84 y) := by
 have oks := Sl.rd.ok hs
 have ncs := Sl.ok.nc oks
 refine calls_J0 22 Try.func76 rfl rfl [.slice s.A s.n s.c] rfl ?_
 refine Cs (Cg (Jq 1 [0] 0 ⟨[(0, .v s.val)], []⟩ (Ln (Qn (Cs (Cg (Jq 1 [3, 0] 0 ⟨[(3, .v (.slice none 0 0)), (0, .v s.val)], []⟩ (Ln (Qn (Cs (Cs (Cg (Jq 3 [8, 7, 6, 3] 0 ⟨[(8, vI 0), (7, vI ((s.n : Nat) : Int)), (6, .v s.val), (3, .v (.slice none 0 0))], []⟩ (Ln (Qn (Cb (c_rowA (α := CSession) 80 (c_nores (ownL (keptR 84) []) rfl (fun w x hx => by cases hx) (Cl (σ := Nat × Option Addr × Nat × List CSession) (fun ⟨i, A, c, L⟩ => i ≤ s.n ∧ L.length = i ∧ L.map CSession.abs = (s.xs.take i).map CSession.abs) (fun ⟨i, A, c, L⟩ => s.n - i) (fun ⟨i, A, c, L⟩ => [ownL (keptR 84) L, rowA 80 A c (L : List CSession)]) (fun ⟨i, A, c, L⟩ => ⟨[(8, vI (i : Int)), (7, vI ((s.n : Nat) : Int)), (6, .v s.val), (3, .v (.slice A L.length c))], []⟩) ⟨0, none, 0, []⟩ ⟨Nat.zero_le _, rfl, by simp⟩ (Ss [8, 7, 6, 3] 0 (by kernel_rfl) rfl) ?_)))))))))))))))))))
 rintro ⟨i, A, c, L⟩ ⟨hi, hL, hI⟩
 have hsn := hsm.1
 refine Cs (Cg (Jq 1 [9, 8, 7, 6, 3] 0 ⟨[(9, vB (decide ((i : Int) < ((s.n : Nat) : Int)))), (8, vI (i : Int)), (7, vI ((s.n : Nat) : Int)), (6, .v s.val), (3, .v (.slice A L.length c))], []⟩ (Ln (Qn (Cs ?_)))))
 cases h1 : decide ((i : Int) < ((s.n : Nat) : Int)) with
 | true =>
  have h1 := of_decide_eq_true h1
  refine Ci true rfl (Ck (Qn (Cs (Cb (Cs (Cg (Jr 4 [(0, .idx s.ad i), (1, .ext [.int .i64 (s.at i).client, .int .i64 (s.at i).id, .int .i64 (s.at i).acked, .int .i64 (s.at i).last, .slice (s.at i).replies.A (s.at i).replies.n (s.at i).replies.c])] [5, 8, 7, 6, 3] 1 ⟨[(5, .p 0 0), (8, vI (i : Int)), (7, vI ((s.n : Nat) : Int)), (6, .v s.val), (3, .v (.slice A L.length c))], [⟨80, (s.at i).cs⟩]⟩ [s.A = some s.ad, (i : Int) = (i : Int), i < s.n] [(s.ad.add (i * 5), [.int .i64 (s.at i).client, .int .i64 (s.at i).id, .int .i64 (s.at i).acked, .int .i64 (s.at i).last, .slice (s.at i).replies.A (s.at i).replies.n (s.at i).replies.c])] (by kernel_rfl) (oc (Sl.ok.own (s := s) (i := i) oks (by omega)) (oc rfl (oc (by omega) on))) (fun w hk hr => ⟨(Sl.rd.all (s := s) (i := i) (Sl.rd.kp hs hk) (by omega) rfl), trivial⟩) (Ln (Qn (Cs (Cg (Jq 2 [13, 5, 8, 7, 6, 3] 1 ⟨[(13, .v (s.at i).replies.val), (5, .p 0 0), (8, vI (i : Int)), (7, vI ((s.n : Nat) : Int)), (6, .v s.val), (3, .v (.slice A L.length c))], [⟨80, (s.at i).cs⟩]⟩ (l_freshF (σ := Sl DKept) 93 [] [.v (s.at i).replies.val] (fun y1 => .slice y1.A y1.n y1.c) (fun y1 => y1.xs = (s.at i).replies.xs) (fun y1 => rowA 84 y1.A y1.c (y1.xs : List DKept)) Try.call93 rfl rfl rfl rfl (fun bs w hS => clone_Kept (s.at i).replies w (Sl.rd.sub (s := s) (i := i) (Sl.rd.kp hs hS.kp) (by omega)) (hsm.2 i (by omega)).1) ?_)))))))))))))
  rintro y1 hF1
  refine Jq 2 [5, 8, 7, 6, 3] 1 ⟨[(5, .p 0 0), (8, vI (i : Int)), (7, vI ((s.n : Nat) : Int)), (6, .v s.val), (3, .v (.slice A L.length c))], [⟨80, [vI (s.at i).client, vI (s.at i).id, vI (s.at i).acked, vI (s.at i).last, .v y1.val]⟩]⟩ (Ln (Qn (Cg (Jq 3 [18, 16, 8, 7, 6] 2 ⟨[(18, .s 1 0 1 1), (16, .v (.slice A L.length c)), (8, vI (i : Int)), (7, vI ((s.n : Nat) : Int)), (6, .v s.val)], [⟨80, [vI (s.at i).client, vI (s.at i).id, vI (s.at i).acked, vI (s.at i).last, .v y1.val]⟩, ⟨80, [vI (s.at i).client, vI (s.at i).id, vI (s.at i).acked, vI (s.at i).last, .v y1.val]⟩]⟩ (Lm (R' := [rowA 80 A c (L : List CSession), rowA 84 y1.A y1.c (y1.xs : List DKept), ownL (keptR 84) L]) (Pf 2 rfl) (l_appendA (α := CSession) 80 56 A c (L) (.s 1 0 1 1) ([(⟨(s.at i).client, (s.at i).id, (s.at i).acked, (s.at i).last, y1⟩ : CSession)]) Try.underlying27 (by kernel_rfl) rfl rfl rfl (fun bs w hS => by obtain ⟨q1, q2, q3, q4⟩ := src_loc (i := 1) (off := 0) (k := 1) (c := 1) (q := 5) (vs := [.int .i64 (s.at i).client, .int .i64 (s.at i).id, .int .i64 (s.at i).acked, .int .i64 (s.at i).last, .slice y1.A y1.n y1.c]) hS rfl rfl; exact ⟨some q1, q2, q3, q4⟩) (by first | omega | (simp only [List.length_nil, List.length_cons, List.length_append]; omega) | (have hq := (hsm.2 i (by omega)).1; simp only [Sl.n, List.length_nil] at hq ⊢; omega)) (by first | omega | (simp only [List.length_nil, List.length_cons, List.length_append]; omega) | (have hq := (hsm.2 i (by omega)).1; simp only [Sl.n, List.length_nil] at hq ⊢; omega)) ?_))))))
  intro A3 c3
  refine Jq 1 [3, 8, 7, 6] 0 ⟨[(3, .v (.slice A3 (L ++ [(⟨(s.at i).client, (s.at i).id, (s.at i).acked, (s.at i).last, y1⟩ : CSession)]).length c3)), (8, vI (i : Int)), (7, vI ((s.n : Nat) : Int)), (6, .v s.val)], []⟩ (Ln (q_block_normal (Qn (Cg (Jr 2 [] [8, 3, 7, 6] 0 ⟨[(8, vI ((i : Int) + 1)), (3, .v (.slice A3 (L ++ [(⟨(s.at i).client, (s.at i).id, (s.at i).acked, (s.at i).last, y1⟩ : CSession)]).length c3)), (7, vI ((s.n : Nat) : Int)), (6, .v s.val)], []⟩ [inR ((i : Int) + 1)] [] (by kernel_rfl) (oc (by unfold inR; omega) on) wn (Lm (R' := [rowA 84 y1.A y1.c (y1.xs : List DKept), ownL (keptR 84) L, rowA 80 A3 c3 (L ++ [(⟨(s.at i).client, (s.at i).id, (s.at i).acked, (s.at i).last, y1⟩ : CSession)] : List CSession)]) (by exact perm3 0 _ _ _) (l_join (ownL (keptR 84) (L ++ [(⟨(s.at i).client, (s.at i).id, (s.at i).acked, (s.at i).last, y1⟩ : CSession)])) (ownL_app_fp (keptR 84) L (⟨(s.at i).client, (s.at i).id, (s.at i).acked, (s.at i).last, y1⟩ : CSession)) (fun w => ownL_app_p (keptR 84) L (⟨(s.at i).client, (s.at i).id, (s.at i).acked, (s.at i).last, y1⟩ : CSession) w) (Ln (q_loop (x := (⟨i, A, c, L⟩ : Nat × Option Addr × Nat × List CSession)) (⟨i + 1, A3, c3, L ++ [(⟨(s.at i).client, (s.at i).id, (s.at i).acked, (s.at i).last, y1⟩ : CSession)]⟩ : Nat × Option Addr × Nat × List CSession) ⟨by omega, by rw [List.length_append]; simp [hL], map_take_snoc (by omega) hI (by first | simp [CSession.abs, hF1] | simp [CSession.abs])⟩ (by show s.n - (i + 1) < s.n - i; omega) (Ss [8, 7, 6, 3] 0 (by kernel_rfl) rfl))))))))))
 | false =>
  have h1 := of_decide_eq_false h1
  refine Ci false rfl (c_exit (Qe (Qe (Qh (Qn (Cs (Cg (Jq 2 [2] 0 ⟨[(2, .v (.slice A L.length c))], []⟩ (Ln (Qn (Cr (Rt (.inl rfl) [.v (.slice A L.length c)] rfl (fun bs w hS => ?_)))))))))))))
  have hn : L.length = s.n := by omega
  exact ⟨⟨A, c, L⟩, rfl, by rw [hI, take_all (by omega)], hS.kp, hS.out⟩
theorem session_CopyS {B : Nat → Prop} (s : Sl CSession) (w : World) (hs : s.rd B w) (hsm : Rds.small s) : Calls Try.prog 76 #[.slice s.A s.n s.c] w fun e w' => ∃ y : Sl CSession, e = .returned y.val ∧ y.xs.map CSession.abs = s.xs.map CSession.abs ∧ FreshS w w' y :=
 (session_Copy s w hs hsm).mono fun e w' ⟨y, h1, h2, h3, h4⟩ => ⟨y, h1, h2, h3, h4.sub fun hp => sessR_rd hp (sess_texts hs h2)⟩

theorem ref_SessionsCopy {B : Nat → Prop} (s : Sl CSession) (w : World) (hs : s.rd B w) (hsm : Rds.small s) : Calls Try.prog 32 #[.slice s.A s.n s.c] w fun e w' => ∃ y : Sl CSession, e = .returned y.val ∧ y.xs.map CSession.abs = s.xs.map CSession.abs ∧ Kp [] w w' ∧ Fresh w w' (sessR 80 84 y) := by
 have oks := Sl.rd.ok hs
 have ncs := Sl.ok.nc oks
 refine calls_J0 25 Try.func32 rfl rfl [.slice s.A s.n s.c] rfl ?_
 refine Cs (Cg (Jq 1 [0] 0 ⟨[(0, .v s.val)], []⟩ (Ln (Qn (Cs (Cg (Jq 1 [3, 0] 0 ⟨[(3, .v (.slice none 0 0)), (0, .v s.val)], []⟩ (Ln (Qn (Cs (Cs (Cg (Jq 1 [4, 3, 0] 0 ⟨[(4, vI 0), (3, .v (.slice none 0 0)), (0, .v s.val)], []⟩ (Ln (Qn (Cb (c_rowA (α := CSession) 80 (c_nores (ownL (keptR 84) []) rfl (fun w x hx => by cases hx) (Cl (σ := Nat × Option Addr × Nat × List CSession) (fun ⟨i, A, c, L⟩ => i ≤ s.n ∧ L.length = i ∧ L.map CSession.abs = (s.xs.take i).map CSession.abs) (fun ⟨i, A, c, L⟩ => s.n - i) (fun ⟨i, A, c, L⟩ => [ownL (keptR 84) L, rowA 80 A c (L : List CSession)]) (fun ⟨i, A, c, L⟩ => ⟨[(4, vI (i : Int)), (3, .v (.slice A L.length c)), (0, .v s.val)], []⟩) ⟨0, none, 0, []⟩ ⟨Nat.zero_le _, rfl, by simp⟩ (Ss [4, 3, 0] 0 (by kernel_rfl) rfl) ?_)))))))))))))))))))
 rintro ⟨i, A, c, L⟩ ⟨hi, hL, hI⟩
 have hsn := hsm.1
 refine Cs (Cs (Cg (Jq 4 [9, 4, 3, 0] 0 ⟨[(9, vB (decide ((i : Int) < ((s.n : Nat) : Int)))), (4, vI (i : Int)), (3, .v (.slice A L.length c)), (0, .v s.val)], []⟩ (Ln (Qn ?_)))))
 cases h1 : decide ((i : Int) < ((s.n : Nat) : Int)) with
 | true =>
  have h1 := of_decide_eq_true h1
  refine Ci true rfl (Ck (Qn (Cs (Cb (Cs (Cg (Jr 6 [(2, .idx s.ad i), (3, .ext [.int .i64 (s.at i).client, .int .i64 (s.at i).id, .int .i64 (s.at i).acked, .int .i64 (s.at i).last, .slice (s.at i).replies.A (s.at i).replies.n (s.at i).replies.c])] [5, 4, 3, 0] 1 ⟨[(5, .p 0 0), (4, vI (i : Int)), (3, .v (.slice A L.length c)), (0, .v s.val)], [⟨80, (s.at i).cs⟩]⟩ [s.A = some s.ad, (i : Int) = (i : Int), i < s.n] [(s.ad.add (i * 5), [.int .i64 (s.at i).client, .int .i64 (s.at i).id, .int .i64 (s.at i).acked, .int .i64 (s.at i).last, .slice (s.at i).replies.A (s.at i).replies.n (s.at i).replies.c])] (by kernel_rfl) (oc (Sl.ok.own (s := s) (i := i) oks (by omega)) (oc rfl (oc (by omega) on))) (fun w hk hr => ⟨(Sl.rd.all (s := s) (i := i) (Sl.rd.kp hs hk) (by omega) rfl), trivial⟩) (Ln (Qn (Cs (Cg (Jq 2 [17, 5, 4, 3, 0] 1 ⟨[(17, .v (s.at i).replies.val), (5, .p 0 0), (4, vI (i : Int)), (3, .v (.slice A L.length c)), (0, .v s.val)], [⟨80, (s.at i).cs⟩]⟩ (l_rowA (α := DKept) 84 (l_appendA (α := DKept) 84 40 none 0 ([]) (.v (s.at i).replies.val) ((s.at i).replies.xs) Try.underlying78 (by kernel_rfl) rfl rfl rfl (fun bs w hS => ⟨_, _, rfl, Sl.rd.src (s := (s.at i).replies) (Sl.rd.sub (s := s) (i := i) (Sl.rd.kp hs hS.kp) (by omega))⟩) (by first | omega | (simp only [List.length_nil, List.length_cons, List.length_append]; omega) | (have hq := (hsm.2 i (by omega)).1; simp only [Sl.n, List.length_nil] at hq ⊢; omega)) (by first | omega | (simp only [List.length_nil, List.length_cons, List.length_append]; omega) | (have hq := (hsm.2 i (by omega)).1; simp only [Sl.n, List.length_nil] at hq ⊢; omega)) ?_))))))))))))))
  intro A1 c1
  refine Jq 2 [5, 4, 3, 0] 1 ⟨[(5, .p 0 0), (4, vI (i : Int)), (3, .v (.slice A L.length c)), (0, .v s.val)], [⟨80, [vI (s.at i).client, vI (s.at i).id, vI (s.at i).acked, vI (s.at i).last, .v (.slice A1 ([] ++ (s.at i).replies.xs).length c1)]⟩]⟩ (Ln (Qn (Cg (Jq 3 [22, 20, 4, 0] 2 ⟨[(22, .s 1 0 1 1), (20, .v (.slice A L.length c)), (4, vI (i : Int)), (0, .v s.val)], [⟨80, [vI (s.at i).client, vI (s.at i).id, vI (s.at i).acked, vI (s.at i).last, .v (.slice A1 ([] ++ (s.at i).replies.xs).length c1)]⟩, ⟨80, [vI (s.at i).client, vI (s.at i).id, vI (s.at i).acked, vI (s.at i).last, .v (.slice A1 ([] ++ (s.at i).replies.xs).length c1)]⟩]⟩ (Lm (R' := [rowA 80 A c (L : List CSession), rowA 84 A1 c1 ([] ++ (s.at i).replies.xs : List DKept), ownL (keptR 84) L]) (Pf 2 rfl) (l_appendA (α := CSession) 80 56 A c (L) (.s 1 0 1 1) ([(⟨(s.at i).client, (s.at i).id, (s.at i).acked, (s.at i).last, ⟨A1, c1, [] ++ (s.at i).replies.xs⟩⟩ : CSession)]) Try.underlying27 (by kernel_rfl) rfl rfl rfl (fun bs w hS => by obtain ⟨q1, q2, q3, q4⟩ := src_loc (i := 1) (off := 0) (k := 1) (c := 1) (q := 5) (vs := [.int .i64 (s.at i).client, .int .i64 (s.at i).id, .int .i64 (s.at i).acked, .int .i64 (s.at i).last, .slice A1 ([] ++ (s.at i).replies.xs).length c1]) hS rfl rfl; exact ⟨some q1, q2, q3, q4⟩) (by first | omega | (simp only [List.length_nil, List.length_cons, List.length_append]; omega) | (have hq := (hsm.2 i (by omega)).1; simp only [Sl.n, List.length_nil] at hq ⊢; omega)) (by first | omega | (simp only [List.length_nil, List.length_cons, List.length_append]; omega) | (have hq := (hsm.2 i (by omega)).1; simp only [Sl.n, List.length_nil] at hq ⊢; omega)) ?_))))))
  intro A2 c2
  refine Jq 1 [3, 4, 0] 0 ⟨[(3, .v (.slice A2 (L ++ [(⟨(s.at i).client, (s.at i).id, (s.at i).acked, (s.at i).last, ⟨A1, c1, [] ++ (s.at i).replies.xs⟩⟩ : CSession)]).length c2)), (4, vI (i : Int)), (0, .v s.val)], []⟩ (Ln (q_block_normal (Qn (Cg (Jr 3 [] [4, 3, 0] 0 ⟨[(4, vI ((i : Int) + 1)), (3, .v (.slice A2 (L ++ [(⟨(s.at i).client, (s.at i).id, (s.at i).acked, (s.at i).last, ⟨A1, c1, [] ++ (s.at i).replies.xs⟩⟩ : CSession)]).length c2)), (0, .v s.val)], []⟩ [inR ((i : Int) + 1)] [] (by kernel_rfl) (oc (by unfold inR; omega) on) wn (Lm (R' := [rowA 84 A1 c1 ([] ++ (s.at i).replies.xs : List DKept), ownL (keptR 84) L, rowA 80 A2 c2 (L ++ [(⟨(s.at i).client, (s.at i).id, (s.at i).acked, (s.at i).last, ⟨A1, c1, [] ++ (s.at i).replies.xs⟩⟩ : CSession)] : List CSession)]) (by exact perm3 0 _ _ _) (l_join (ownL (keptR 84) (L ++ [(⟨(s.at i).client, (s.at i).id, (s.at i).acked, (s.at i).last, ⟨A1, c1, [] ++ (s.at i).replies.xs⟩⟩ : CSession)])) (ownL_app_fp (keptR 84) L (⟨(s.at i).client, (s.at i).id, (s.at i).acked, (s.at i).last, ⟨A1, c1, [] ++ (s.at i).replies.xs⟩⟩ : CSession)) (fun w => ownL_app_p (keptR 84) L (⟨(s.at i).client, (s.at i).id, (s.at i).acked, (s.at i).last, ⟨A1, c1, [] ++ (s.at i).replies.xs⟩⟩ : CSession) w) (Ln (q_loop (x := (⟨i, A, c, L⟩ : Nat × Option Addr × Nat × List CSession)) (⟨i + 1, A2, c2, L ++ [(⟨(s.at i).client, (s.at i).id, (s.at i).acked, (s.at i).last, ⟨A1, c1, [] ++ (s.at i).replies.xs⟩⟩ : CSession)]⟩ : Nat × Option Addr × Nat × List CSession) ⟨by omega, by rw [List.length_append]; simp [hL], map_take_snoc (by omega) hI (by first | simp [CSession.abs, hF1] | simp [CSession.abs])⟩ (by show s.n - (i + 1) < s.n - i; omega) (Ss [4, 3, 0] 0 (by kernel_rfl) rfl))))))))))
 | false =>
  have h1 := of_decide_eq_false h1
  refine Ci false rfl (c_exit (Qe (Qe (Qh (Qn (Cs (Cg (Jq 2 [2] 0 ⟨[(2, .v (.slice A L.length c))], []⟩ (Ln (Qn (Cr (Rt (.inl rfl) [.v (.slice A L.length c)] rfl (fun bs w hS => ?_)))))))))))))
  have hn : L.length = s.n := by omega
  exact ⟨⟨A, c, L⟩, rfl, by rw [hI, take_all (by omega)], hS.kp, hS.out⟩
theorem ref_SessionsCopyS {B : Nat → Prop} (s : Sl CSession) (w : World) (hs : s.rd B w) (hsm : Rds.small s) : Calls Try.prog 32 #[.slice s.A s.n s.c] w fun e w' => ∃ y : Sl CSession, e = .returned y.val ∧ y.xs.map CSession.abs = s.xs.map CSession.abs ∧ FreshS w w' y :=
 (ref_SessionsCopy s w hs hsm).mono fun e w' ⟨y, h1, h2, h3, h4⟩ => ⟨y, h1, h2, h3, h4.sub fun hp => sessR_rd hp (sess_texts hs h2)⟩

theorem ref_LocksCopy {B : Nat → Prop} (s : Sl CLock) (w : World) (hs : s.rd B w) (hsm : Rds.small s) : Calls Try.prog 31 #[.slice s.A s.n s.c] w fun e w' => ∃ y : Sl CLock, e = .returned y.val ∧ y.xs.map CLock.abs = s.xs.map CLock.abs ∧ Kp [] w w' ∧ Fresh w w' (locksR 74 3 y) := by
 have oks := Sl.rd.ok hs
 have ncs := Sl.ok.nc oks
 refine calls_J0 37 Try.func31 rfl rfl [.slice s.A s.n s.c] rfl ?_
 refine Cs (Cg (Jq 1 [0] 0 ⟨[(0, .v s.val)], []⟩ (Ln (Qn (Cs (Cg (Jq 1 [3, 0] 0 ⟨[(3, .v (.slice none 0 0)), (0, .v s.val)], []⟩ (Ln (Qn (Cs (Cs (Cg (Jq 1 [4, 3, 0] 0 ⟨[(4, vI 0), (3, .v (.slice none 0 0)), (0, .v s.val)], []⟩ (Ln (Qn (Cb (c_rowA (α := CLock) 74 (c_nores (ownL (lineR 3) []) rfl (fun w x hx => by cases hx) (Cl (σ := Nat × Option Addr × Nat × List CLock) (fun ⟨i, A, c, L⟩ => i ≤ s.n ∧ L.length = i ∧ L.map CLock.abs = (s.xs.take i).map CLock.abs) (fun ⟨i, A, c, L⟩ => s.n - i) (fun ⟨i, A, c, L⟩ => [ownL (lineR 3) L, rowA 74 A c (L : List CLock)]) (fun ⟨i, A, c, L⟩ => ⟨[(4, vI (i : Int)), (3, .v (.slice A L.length c)), (0, .v s.val)], []⟩) ⟨0, none, 0, []⟩ ⟨Nat.zero_le _, rfl, by simp⟩ (Ss [4, 3, 0] 0 (by kernel_rfl) rfl) ?_)))))))))))))))))))
 rintro ⟨i, A, c, L⟩ ⟨hi, hL, hI⟩
 have hsn := hsm.1
 refine Cs (Cs (Cg (Jq 4 [8, 4, 3, 0] 0 ⟨[(8, vB (decide ((i : Int) < ((s.n : Nat) : Int)))), (4, vI (i : Int)), (3, .v (.slice A L.length c)), (0, .v s.val)], []⟩ (Ln (Qn ?_)))))
 cases h1 : decide ((i : Int) < ((s.n : Nat) : Int)) with
 | true =>
  have h1 := of_decide_eq_true h1
  refine Ci true rfl (Ck (Qn (Cs (Cb (Cd 24 [] (.p 0 (.p 1 (.p 2 (.p 3 (.p 4 (.q 5 (.p 6 (.p 7 (.p 8 (.p 9 (.q 10 (.p 11 (.p 12 (.p 13 (.p 14 (.q 15 (.p 16 (.p 17 (.p 18 (.p 19 (.q 20 (.b 21 (.p 22 (.b 23 .nil .z)) .z)))))))))))))))))))))) [] [ownL (lineR 3) L, rowA 74 A c (L : List CLock)] Try_mixed (by kernel_rfl) (pq_block (pq_then (pq_then (pq_block (pq_then pq_body))))) (List.Sublist.refl _) (Hq [(3, .idx s.ad i), (5, .ext [.string (s.at i).name]), (8, .idx s.ad i), (10, .ext [.int .i64 (s.at i).holder]), (13, .idx s.ad i), (15, .ext [.int .i64 (s.at i).fence]), (18, .idx s.ad i), (20, .ext [.slice (s.at i).line.A (s.at i).line.n (s.at i).line.c])] [(0, true), (1, true), (2, true), (3, true), (4, true), (5, false), (6, true), (7, true), (8, true), (9, true), (10, false), (11, true), (12, true), (13, true), (14, true), (15, false), (16, true), (17, true), (18, true), (19, true), (20, false)] [(31, .v (s.at i).line.val), (30, .v (.pointer (some ((s.ad.add (i * 4)).add 3)))), (29, .v (.pointer (some (s.ad.add (i * 4))))), (28, vI (i : Int)), (27, .v s.val), (26, vI (s.at i).fence), (25, .v (.pointer (some ((s.ad.add (i * 4)).add 2)))), (24, .v (.pointer (some (s.ad.add (i * 4))))), (23, vI (i : Int)), (22, .v s.val), (21, vI (s.at i).holder), (20, .v (.pointer (some ((s.ad.add (i * 4)).add 1)))), (19, .v (.pointer (some (s.ad.add (i * 4))))), (18, vI (i : Int)), (17, .v s.val), (16, vS (s.at i).name), (15, .v (.pointer (some ((s.ad.add (i * 4)).add 0)))), (14, .v (.pointer (some (s.ad.add (i * 4))))), (13, vI (i : Int)), (12, .v s.val), (11, .v (.slice A L.length c)), (8, vB true), (4, vI (i : Int)), (3, .v (.slice A L.length c)), (0, .v s.val)] [s.A = some s.ad, (i : Int) = (i : Int), i < s.n, s.A = some s.ad, (i : Int) = (i : Int), i < s.n, s.A = some s.ad, (i : Int) = (i : Int), i < s.n, s.A = some s.ad, (i : Int) = (i : Int), i < s.n] [((s.ad.add (i * 4)).add 0, [.string (s.at i).name]), ((s.ad.add (i * 4)).add 1, [.int .i64 (s.at i).holder]), ((s.ad.add (i * 4)).add 2, [.int .i64 (s.at i).fence]), ((s.ad.add (i * 4)).add 3, [.slice (s.at i).line.A (s.at i).line.n (s.at i).line.c])] rfl (by kernel_rfl) (oc (Sl.ok.own (s := s) (i := i) oks (by omega)) (oc rfl (oc (by omega) (oc (Sl.ok.own (s := s) (i := i) oks (by omega)) (oc rfl (oc (by omega) (oc (Sl.ok.own (s := s) (i := i) oks (by omega)) (oc rfl (oc (by omega) (oc (Sl.ok.own (s := s) (i := i) oks (by omega)) (oc rfl (oc (by omega) on)))))))))))) (fun w hk hr => ⟨(Sl.rd.fld (s := s) (i := i) (Sl.rd.kp hs hk) (by omega) 0 1 rfl), ⟨(Sl.rd.fld (s := s) (i := i) (Sl.rd.kp hs hk) (by omega) 1 1 rfl), ⟨(Sl.rd.fld (s := s) (i := i) (Sl.rd.kp hs hk) (by omega) 2 1 rfl), ⟨(Sl.rd.fld (s := s) (i := i) (Sl.rd.kp hs hk) (by omega) 3 1 rfl), trivial⟩⟩⟩⟩) (h_rowA (α := Int) 3 (h_appendA (α := Int) 3 8 none 0 ([]) (.v (s.at i).line.val) ((s.at i).line.xs) rfl Try.underlying72 (by kernel_rfl) rfl rfl rfl rfl (fun bs w hS => ⟨_, _, rfl, Sl.rd.src (s := (s.at i).line) (And.right (Sl.rd.sub (s := s) (i := i) (Sl.rd.kp hs hS.kp) (by omega)))⟩) (by first | omega | (simp only [List.length_nil, List.length_cons, List.length_append]; omega) | (have hq := (hsm.2 i (by omega)).1; simp only [Sl.n, List.length_nil] at hq ⊢; omega)) (by first | omega | (simp only [List.length_nil, List.length_cons, List.length_append]; omega) | (have hq := (hsm.2 i (by omega)).1; simp only [Sl.n, List.length_nil] at hq ⊢; omega)) (fun bs0 bs A2 c2 w hp hl hS => hS.down hp hl rfl le_nil (.cons _ (List.Sublist.refl _))) ?_))))))))
  intro A1 c1
  refine Hq [] [(22, true)] [(33, .v (.agg #[.string (s.at i).name, .int .i64 (s.at i).holder, .int .i64 (s.at i).fence, .slice A1 ([] ++ (s.at i).line.xs).length c1])), (32, .v (.slice A1 ([] ++ (s.at i).line.xs).length c1)), (31, .v (s.at i).line.val), (30, .v (.pointer (some ((s.ad.add (i * 4)).add 3)))), (29, .v (.pointer (some (s.ad.add (i * 4))))), (28, vI (i : Int)), (27, .v s.val), (26, vI (s.at i).fence), (25, .v (.pointer (some ((s.ad.add (i * 4)).add 2)))), (24, .v (.pointer (some (s.ad.add (i * 4))))), (23, vI (i : Int)), (22, .v s.val), (21, vI (s.at i).holder), (20, .v (.pointer (some ((s.ad.add (i * 4)).add 1)))), (19, .v (.pointer (some (s.ad.add (i * 4))))), (18, vI (i : Int)), (17, .v s.val), (16, vS (s.at i).name), (15, .v (.pointer (some ((s.ad.add (i * 4)).add 0)))), (14, .v (.pointer (some (s.ad.add (i * 4))))), (13, vI (i : Int)), (12, .v s.val), (11, .v (.slice A L.length c)), (8, vB true), (4, vI (i : Int)), (3, .v (.slice A L.length c)), (0, .v s.val)] [] [] rfl (by kernel_rfl) on wn ?_
  refine Hl ⟨[(34, .s 0 0 1 1), (33, .v (.agg #[.string (s.at i).name, .int .i64 (s.at i).holder, .int .i64 (s.at i).fence, .slice A1 ([] ++ (s.at i).line.xs).length c1])), (32, .v (.slice A1 ([] ++ (s.at i).line.xs).length c1)), (31, .v (s.at i).line.val), (30, .v (.pointer (some ((s.ad.add (i * 4)).add 3)))), (29, .v (.pointer (some (s.ad.add (i * 4))))), (28, vI (i : Int)), (27, .v s.val), (26, vI (s.at i).fence), (25, .v (.pointer (some ((s.ad.add (i * 4)).add 2)))), (24, .v (.pointer (some (s.ad.add (i * 4))))), (23, vI (i : Int)), (22, .v s.val), (21, vI (s.at i).holder), (20, .v (.pointer (some ((s.ad.add (i * 4)).add 1)))), (19, .v (.pointer (some (s.ad.add (i * 4))))), (18, vI (i : Int)), (17, .v s.val), (16, vS (s.at i).name), (15, .v (.pointer (some ((s.ad.add (i * 4)).add 0)))), (14, .v (.pointer (some (s.ad.add (i * 4))))), (13, vI (i : Int)), (12, .v s.val), (11, .v (.slice A L.length c)), (8, vB true), (4, vI (i : Int)), (3, .v (.slice A L.length c)), (0, .v s.val)], [⟨74, [vS (s.at i).name, vI (s.at i).holder, vI (s.at i).fence, .v (.slice A1 ([] ++ (s.at i).line.xs).length c1)]⟩]⟩ (by kernel_rfl) (fun bs0 bs w hp hl hS => hS.down hp hl rfl le_nil (.cons _ (List.Sublist.refl _))) ?_
  refine Hn (Lm (R' := [rowA 74 A c (L : List CLock), rowA 3 A1 c1 ([] ++ (s.at i).line.xs : List Int), ownL (lineR 3) L]) (Pf 2 rfl) (l_appendA (α := CLock) 74 56 A c (L) (.s 0 0 1 1) ([(⟨(s.at i).name, (s.at i).holder, (s.at i).fence, ⟨A1, c1, [] ++ (s.at i).line.xs⟩⟩ : CLock)]) Try.underlying25 (by kernel_rfl) rfl rfl rfl (fun bs w hS => by obtain ⟨q1, q2, q3, q4⟩ := src_loc (i := 0) (off := 0) (k := 1) (c := 1) (q := 4) (vs := [.string (s.at i).name, .int .i64 (s.at i).holder, .int .i64 (s.at i).fence, .slice A1 ([] ++ (s.at i).line.xs).length c1]) hS rfl rfl; exact ⟨some q1, q2, q3, q4⟩) (by first | omega | (simp only [List.length_nil, List.length_cons, List.length_append]; omega) | (have hq := (hsm.2 i (by omega)).1; simp only [Sl.n, List.length_nil] at hq ⊢; omega)) (by first | omega | (simp only [List.length_nil, List.length_cons, List.length_append]; omega) | (have hq := (hsm.2 i (by omega)).1; simp only [Sl.n, List.length_nil] at hq ⊢; omega)) ?_))
  intro A2 c2
  refine Jq 1 [3, 4, 0] 0 ⟨[(3, .v (.slice A2 (L ++ [(⟨(s.at i).name, (s.at i).holder, (s.at i).fence, ⟨A1, c1, [] ++ (s.at i).line.xs⟩⟩ : CLock)]).length c2)), (4, vI (i : Int)), (0, .v s.val)], []⟩ (Ln (q_block_normal (Qn (Cg (Jr 3 [] [4, 3, 0] 0 ⟨[(4, vI ((i : Int) + 1)), (3, .v (.slice A2 (L ++ [(⟨(s.at i).name, (s.at i).holder, (s.at i).fence, ⟨A1, c1, [] ++ (s.at i).line.xs⟩⟩ : CLock)]).length c2)), (0, .v s.val)], []⟩ [inR ((i : Int) + 1)] [] (by kernel_rfl) (oc (by unfold inR; omega) on) wn (Lm (R' := [rowA 3 A1 c1 ([] ++ (s.at i).line.xs : List Int), ownL (lineR 3) L, rowA 74 A2 c2 (L ++ [(⟨(s.at i).name, (s.at i).holder, (s.at i).fence, ⟨A1, c1, [] ++ (s.at i).line.xs⟩⟩ : CLock)] : List CLock)]) (by exact perm3 0 _ _ _) (l_join (ownL (lineR 3) (L ++ [(⟨(s.at i).name, (s.at i).holder, (s.at i).fence, ⟨A1, c1, [] ++ (s.at i).line.xs⟩⟩ : CLock)])) (ownL_app_fp (lineR 3) L (⟨(s.at i).name, (s.at i).holder, (s.at i).fence, ⟨A1, c1, [] ++ (s.at i).line.xs⟩⟩ : CLock)) (fun w => ownL_app_p (lineR 3) L (⟨(s.at i).name, (s.at i).holder, (s.at i).fence, ⟨A1, c1, [] ++ (s.at i).line.xs⟩⟩ : CLock) w) (Ln (q_loop (x := (⟨i, A, c, L⟩ : Nat × Option Addr × Nat × List CLock)) (⟨i + 1, A2, c2, L ++ [(⟨(s.at i).name, (s.at i).holder, (s.at i).fence, ⟨A1, c1, [] ++ (s.at i).line.xs⟩⟩ : CLock)]⟩ : Nat × Option Addr × Nat × List CLock) ⟨by omega, by rw [List.length_append]; simp [hL], map_take_snoc (by omega) hI (by first | simp [CLock.abs, hF1] | simp [CLock.abs])⟩ (by show s.n - (i + 1) < s.n - i; omega) (Ss [4, 3, 0] 0 (by kernel_rfl) rfl))))))))))
 | false =>
  have h1 := of_decide_eq_false h1
  refine Ci false rfl (c_exit (Qe (Qe (Qh (Qn (Cs (Cg (Jq 2 [2] 0 ⟨[(2, .v (.slice A L.length c))], []⟩ (Ln (Qn (Cr (Rt (.inl rfl) [.v (.slice A L.length c)] rfl (fun bs w hS => ?_)))))))))))))
  have hn : L.length = s.n := by omega
  exact ⟨⟨A, c, L⟩, rfl, by rw [hI, take_all (by omega)], hS.kp, hS.out⟩
theorem ref_LocksCopyS {B : Nat → Prop} (s : Sl CLock) (w : World) (hs : s.rd B w) (hsm : Rds.small s) : Calls Try.prog 31 #[.slice s.A s.n s.c] w fun e w' => ∃ y : Sl CLock, e = .returned y.val ∧ y.xs.map CLock.abs = s.xs.map CLock.abs ∧ FreshS w w' y :=
 (ref_LocksCopy s w hs hsm).mono fun e w' ⟨y, h1, h2, h3, h4⟩ => ⟨y, h1, h2, h3, h4.sub fun hp => locksR_rd hp (locks_names hs h2)⟩

theorem same_ints {B B' : Nat → Prop} (a b : Sl Int) (w : World) (ha : a.rd B w) (hb : b.rd B' w) (he : a.xs = b.xs) : Calls Try.prog 71 #[.slice a.A a.n a.c, .slice b.A b.n b.c] w fun e w' => e = .returned (.bool true) ∧ Kp [] w w' := by
 have oka := Sl.rd.ok ha
 have okb := Sl.rd.ok hb
 have hn := xs_n he
 have nca := Sl.ok.nc oka
 refine calls_J0 26 Try.func71 rfl rfl [.slice a.A a.n a.c, .slice b.A b.n b.c] rfl ?_
 refine Cs (Cg (Jq 1 [0, 1] 0 ⟨[(0, .v a.val), (1, .v b.val)], []⟩ (Ln (Qn (Cs (Cs (Cg (Jq 5 [10, 0, 1] 0 ⟨[(10, vB (!(decide (((a.n : Nat) : Int) = ((b.n : Nat) : Int))))), (0, .v a.val), (1, .v b.val)], []⟩ (Ln (Qn ?_))))))))))
 cases h1 : decide (((a.n : Nat) : Int) = ((b.n : Nat) : Int)) with
 | true =>
  have h1 := of_decide_eq_true h1
  refine Ci false rfl (Ck (Qn (Cs (Cs (Cg (Jq 1 [5, 0, 1] 0 ⟨[(5, vI 0), (0, .v a.val), (1, .v b.val)], []⟩ (Ln (Qn (Cb (Cl (σ := Nat) (fun i => True) (fun i => a.n - i) (fun i => []) (fun i => ⟨[(5, vI (i : Int)), (0, .v a.val), (1, .v b.val)], []⟩) 0 trivial (Ss [5, 0, 1] 0 (by kernel_rfl) rfl) ?_))))))))))
  rintro i _
  have hat := xs_at he i
  refine Cs (Cs (Cg (Jq 4 [14, 5, 0, 1] 0 ⟨[(14, vB (decide ((i : Int) < ((a.n : Nat) : Int)))), (5, vI (i : Int)), (0, .v a.val), (1, .v b.val)], []⟩ (Ln (Qn ?_)))))
  cases h2 : decide ((i : Int) < ((a.n : Nat) : Int)) with
  | true =>
   have h2 := of_decide_eq_true h2
   refine Ci true rfl (Ck (Qn (Cs (Cb (Cs (Cd 9 [] (.p 0 (.p 1 (.p 2 (.q 3 (.p 4 (.p 5 (.p 6 (.q 7 (.p 8 .nil))))))))) [] [] Try_mixed (by kernel_rfl) (pq_then (pq_block (pq_then (pq_then (pq_block (pq_then pq_body)))))) .slnil (Hq [(2, .idx a.ad i), (3, .ext [.int .i64 (a.at i)]), (6, .idx b.ad i), (7, .ext [.int .i64 (b.at i)])] [(0, true), (1, true), (2, true), (3, false), (4, true), (5, true), (6, true), (7, false), (8, true)] [(25, vB (!(decide ((a.at i) = (b.at i))))), (24, vI (b.at i)), (23, .v (.pointer (some (b.ad.add (i * 1))))), (22, vI (i : Int)), (21, .v b.val), (20, vI (a.at i)), (19, .v (.pointer (some (a.ad.add (i * 1))))), (18, vI (i : Int)), (17, .v a.val), (14, vB true), (5, vI (i : Int)), (0, .v a.val), (1, .v b.val)] [a.A = some a.ad, (i : Int) = (i : Int), i < a.n, b.A = some b.ad, (i : Int) = (i : Int), i < b.n] [(a.ad.add (i * 1), [.int .i64 (a.at i)]), (b.ad.add (i * 1), [.int .i64 (b.at i)])] rfl (by kernel_rfl) (oc (Sl.ok.own (s := a) (i := i) oka (by omega)) (oc rfl (oc (by omega) (oc (Sl.ok.own (s := b) (i := i) okb (by omega)) (oc rfl (oc (by omega) on)))))) (fun w hk hr => ⟨(Sl.rd.all (s := a) (i := i) (Sl.rd.kp ha hk) (by omega) rfl), ⟨(Sl.rd.all (s := b) (i := i) (Sl.rd.kp hb hk) (by omega) rfl), trivial⟩⟩) (Hn (Ln (Qn ?_))))))))))
   cases h3 : decide ((a.at i) = (b.at i)) with
   | true =>
    have h3 := of_decide_eq_true h3
    refine Ci false rfl (Ck (q_block_normal (Qn (Cg (Jr 3 [] [5, 0, 1] 0 ⟨[(5, vI ((i : Int) + 1)), (0, .v a.val), (1, .v b.val)], []⟩ [inR ((i : Int) + 1)] [] (by kernel_rfl) (oc (by unfold inR; omega) on) wn (Ln (q_loop (x := (i : Nat)) ((i + 1) : Nat) trivial (by omega) (Ss [5, 0, 1] 0 (by kernel_rfl) rfl))))))))
   | false =>
    have h3 := of_decide_eq_false h3
    exfalso; first | omega | exact h3 (xs_at he i)
  | false =>
   have h2 := of_decide_eq_false h2
   refine Ci false rfl (c_exit (Qe (Qe (Qh (Qn (Cs (Cg (Jq 1 [4] 0 ⟨[(4, vB true)], []⟩ (Ln (Qn (Cr (Rt (.inl rfl) [vB true] rfl (fun bs w hS => ?_)))))))))))))
   exact ⟨rfl, hS.kp⟩
 | false =>
  have h1 := of_decide_eq_false h1
  exfalso; first | omega | exact h1 (xs_at he i)

theorem same_locks {B B' : Nat → Prop} (a b : Sl CLock) (w : World) (ha : a.rd B w) (hb : b.rd B' w) (he : a.xs.map CLock.abs = b.xs.map CLock.abs) : Calls Try.prog 47 #[.slice a.A a.n a.c, .slice b.A b.n b.c] w fun e w' => e = .returned (.bool true) ∧ Kp [] w w' := by
 have oka := Sl.rd.ok ha
 have okb := Sl.rd.ok hb
 have hn := map_n he
 have nca := Sl.ok.nc oka
 refine calls_J0 68 Try.func47 rfl rfl [.slice a.A a.n a.c, .slice b.A b.n b.c] rfl ?_
 refine Cs (Cg (Jq 1 [0, 1] 0 ⟨[(0, .v a.val), (1, .v b.val)], []⟩ (Ln (Qn (Cs (Cs (Cg (Jq 5 [10, 0, 1] 0 ⟨[(10, vB (!(decide (((a.n : Nat) : Int) = ((b.n : Nat) : Int))))), (0, .v a.val), (1, .v b.val)], []⟩ (Ln (Qn ?_))))))))))
 cases h1 : decide (((a.n : Nat) : Int) = ((b.n : Nat) : Int)) with
 | true =>
  have h1 := of_decide_eq_true h1
  refine Ci false rfl (Ck (Qn (Cs (Cs (Cg (Jq 1 [5, 0, 1] 0 ⟨[(5, vI 0), (0, .v a.val), (1, .v b.val)], []⟩ (Ln (Qn (Cb (Cl (σ := Nat) (fun i => True) (fun i => a.n - i) (fun i => []) (fun i => ⟨[(5, vI (i : Int)), (0, .v a.val), (1, .v b.val)], []⟩) 0 trivial (Ss [5, 0, 1] 0 (by kernel_rfl) rfl) ?_))))))))))
  rintro i _
  have hat := map_at (f := CLock.abs) (g := CLock.abs) rfl he i
  have q1 : (a.at i).name = (b.at i).name := congrArg DLock.name hat
  have q2 : (a.at i).holder = (b.at i).holder := congrArg DLock.holder hat
  have q3 : (a.at i).fence = (b.at i).fence := congrArg DLock.fence hat
  have q4 : (a.at i).line.xs = (b.at i).line.xs := congrArg DLock.line hat
  refine Cs (Cs (Cg (Jq 4 [14, 5, 0, 1] 0 ⟨[(14, vB (decide ((i : Int) < ((a.n : Nat) : Int)))), (5, vI (i : Int)), (0, .v a.val), (1, .v b.val)], []⟩ (Ln (Qn ?_)))))
  cases h2 : decide ((i : Int) < ((a.n : Nat) : Int)) with
  | true =>
   have h2 := of_decide_eq_true h2
   refine Ci true rfl (Ck (Qn (Cs (Cb (Cs (Cd 51 [] (.p 0 (.p 1 (.p 2 (.p 3 (.q 4 (.p 5 (.p 6 (.p 7 (.p 8 (.q 9 (.p 10 (.p 11 (.p 12 (.p 13 (.p 14 (.p 15 (.q 16 (.p 17 (.p 18 (.p 19 (.p 20 (.q 21 (.p 22 (.p 23 (.p 24 (.p 25 (.p 26 (.p 27 (.p 28 (.q 29 (.p 30 (.p 31 (.p 32 (.p 33 (.q 34 (.p 35 (.p 36 (.p 37 (.p 38 (.p 39 (.p 40 (.p 41 (.q 42 (.p 43 (.p 44 (.p 45 (.p 46 (.q 47 (.b 48 (.p 49 (.p 50 .nil)) .z))))))))))))))))))))))))))))))))))))))))))))))))) [] [] Try_mixed (by kernel_rfl) (pq_then (pq_block (pq_then (pq_then (pq_block (pq_then pq_body)))))) .slnil (Hq [(2, .idx a.ad i), (4, .ext [.string (a.at i).name]), (7, .idx b.ad i), (9, .ext [.string (b.at i).name])] [(0, true), (1, true), (2, true), (3, true), (4, false), (5, true), (6, true), (7, true), (8, true), (9, false), (10, true), (11, true)] [(28, vB (!(decide ((a.at i).name = (b.at i).name)))), (27, vB (!(decide ((a.at i).name = (b.at i).name)))), (26, vS (b.at i).name), (25, .v (.pointer (some ((b.ad.add (i * 4)).add 0)))), (24, .v (.pointer (some (b.ad.add (i * 4))))), (23, vI (i : Int)), (22, .v b.val), (21, vS (a.at i).name), (20, .v (.pointer (some ((a.ad.add (i * 4)).add 0)))), (19, .v (.pointer (some (a.ad.add (i * 4))))), (18, vI (i : Int)), (17, .v a.val), (14, vB true), (5, vI (i : Int)), (0, .v a.val), (1, .v b.val)] [a.A = some a.ad, (i : Int) = (i : Int), i < a.n, b.A = some b.ad, (i : Int) = (i : Int), i < b.n] [((a.ad.add (i * 4)).add 0, [.string (a.at i).name]), ((b.ad.add (i * 4)).add 0, [.string (b.at i).name])] rfl (by kernel_rfl) (oc (Sl.ok.own (s := a) (i := i) oka (by omega)) (oc rfl (oc (by omega) (oc (Sl.ok.own (s := b) (i := i) okb (by omega)) (oc rfl (oc (by omega) on)))))) (fun w hk hr => ⟨(Sl.rd.fld (s := a) (i := i) (Sl.rd.kp ha hk) (by omega) 0 1 rfl), ⟨(Sl.rd.fld (s := b) (i := i) (Sl.rd.kp hb hk) (by omega) 0 1 rfl), trivial⟩⟩) ?_)))))))
   cases h3 : decide ((a.at i).name = (b.at i).name) with
   | true =>
    have h3 := of_decide_eq_true h3
    refine Hq [(14, .idx a.ad i), (16, .ext [.int .i64 (a.at i).holder]), (19, .idx b.ad i), (21, .ext [.int .i64 (b.at i).holder])] [(12, true), (13, true), (14, true), (15, true), (16, false), (17, true), (18, true), (19, true), (20, true), (21, false), (22, true), (23, true), (24, true)] [(41, vB (!(decide ((a.at i).holder = (b.at i).holder)))), (40, vB (!(decide ((a.at i).holder = (b.at i).holder)))), (39, vB (!(decide ((a.at i).holder = (b.at i).holder)))), (38, vI (b.at i).holder), (37, .v (.pointer (some ((b.ad.add (i * 4)).add 1)))), (36, .v (.pointer (some (b.ad.add (i * 4))))), (35, vI (i : Int)), (34, .v b.val), (33, vI (a.at i).holder), (32, .v (.pointer (some ((a.ad.add (i * 4)).add 1)))), (31, .v (.pointer (some (a.ad.add (i * 4))))), (30, vI (i : Int)), (29, .v a.val), (28, vB false), (27, vB false), (26, vS (b.at i).name), (25, .v (.pointer (some ((b.ad.add (i * 4)).add 0)))), (24, .v (.pointer (some (b.ad.add (i * 4))))), (23, vI (i : Int)), (22, .v b.val), (21, vS (a.at i).name), (20, .v (.pointer (some ((a.ad.add (i * 4)).add 0)))), (19, .v (.pointer (some (a.ad.add (i * 4))))), (18, vI (i : Int)), (17, .v a.val), (14, vB true), (5, vI (i : Int)), (0, .v a.val), (1, .v b.val)] [a.A = some a.ad, (i : Int) = (i : Int), i < a.n, b.A = some b.ad, (i : Int) = (i : Int), i < b.n] [((a.ad.add (i * 4)).add 1, [.int .i64 (a.at i).holder]), ((b.ad.add (i * 4)).add 1, [.int .i64 (b.at i).holder])] rfl (by kernel_rfl) (oc (Sl.ok.own (s := a) (i := i) oka (by omega)) (oc rfl (oc (by omega) (oc (Sl.ok.own (s := b) (i := i) okb (by omega)) (oc rfl (oc (by omega) on)))))) (fun w hk hr => ⟨(Sl.rd.fld (s := a) (i := i) (Sl.rd.kp ha hk) (by omega) 1 1 rfl), ⟨(Sl.rd.fld (s := b) (i := i) (Sl.rd.kp hb hk) (by omega) 1 1 rfl), trivial⟩⟩) ?_
    cases h4 : decide ((a.at i).holder = (b.at i).holder) with
    | true =>
     have h4 := of_decide_eq_true h4
     refine Hq [(27, .idx a.ad i), (29, .ext [.int .i64 (a.at i).fence]), (32, .idx b.ad i), (34, .ext [.int .i64 (b.at i).fence])] [(25, true), (26, true), (27, true), (28, true), (29, false), (30, true), (31, true), (32, true), (33, true), (34, false), (35, true), (36, true), (37, true)] [(54, vB (!(decide ((a.at i).fence = (b.at i).fence)))), (53, vB (!(decide ((a.at i).fence = (b.at i).fence)))), (52, vB (!(decide ((a.at i).fence = (b.at i).fence)))), (51, vI (b.at i).fence), (50, .v (.pointer (some ((b.ad.add (i * 4)).add 2)))), (49, .v (.pointer (some (b.ad.add (i * 4))))), (48, vI (i : Int)), (47, .v b.val), (46, vI (a.at i).fence), (45, .v (.pointer (some ((a.ad.add (i * 4)).add 2)))), (44, .v (.pointer (some (a.ad.add (i * 4))))), (43, vI (i : Int)), (42, .v a.val), (41, vB false), (40, vB false), (39, vB false), (38, vI (b.at i).holder), (37, .v (.pointer (some ((b.ad.add (i * 4)).add 1)))), (36, .v (.pointer (some (b.ad.add (i * 4))))), (35, vI (i : Int)), (34, .v b.val), (33, vI (a.at i).holder), (32, .v (.pointer (some ((a.ad.add (i * 4)).add 1)))), (31, .v (.pointer (some (a.ad.add (i * 4))))), (30, vI (i : Int)), (29, .v a.val), (28, vB false), (27, vB false), (26, vS (b.at i).name), (25, .v (.pointer (some ((b.ad.add (i * 4)).add 0)))), (24, .v (.pointer (some (b.ad.add (i * 4))))), (23, vI (i : Int)), (22, .v b.val), (21, vS (a.at i).name), (20, .v (.pointer (some ((a.ad.add (i * 4)).add 0)))), (19, .v (.pointer (some (a.ad.add (i * 4))))), (18, vI (i : Int)), (17, .v a.val), (14, vB true), (5, vI (i : Int)), (0, .v a.val), (1, .v b.val)] [a.A = some a.ad, (i : Int) = (i : Int), i < a.n, b.A = some b.ad, (i : Int) = (i : Int), i < b.n] [((a.ad.add (i * 4)).add 2, [.int .i64 (a.at i).fence]), ((b.ad.add (i * 4)).add 2, [.int .i64 (b.at i).fence])] rfl (by kernel_rfl) (oc (Sl.ok.own (s := a) (i := i) oka (by omega)) (oc rfl (oc (by omega) (oc (Sl.ok.own (s := b) (i := i) okb (by omega)) (oc rfl (oc (by omega) on)))))) (fun w hk hr => ⟨(Sl.rd.fld (s := a) (i := i) (Sl.rd.kp ha hk) (by omega) 2 1 rfl), ⟨(Sl.rd.fld (s := b) (i := i) (Sl.rd.kp hb hk) (by omega) 2 1 rfl), trivial⟩⟩) ?_
     cases h5 : decide ((a.at i).fence = (b.at i).fence) with
     | true =>
      have h5 := of_decide_eq_true h5
      refine Hq [(40, .idx a.ad i), (42, .ext [.slice (a.at i).line.A (a.at i).line.n (a.at i).line.c]), (45, .idx b.ad i), (47, .ext [.slice (b.at i).line.A (b.at i).line.n (b.at i).line.c])] [(38, true), (39, true), (40, true), (41, true), (42, false), (43, true), (44, true), (45, true), (46, true), (47, false)] [(64, .v (b.at i).line.val), (63, .v (.pointer (some ((b.ad.add (i * 4)).add 3)))), (62, .v (.pointer (some (b.ad.add (i * 4))))), (61, vI (i : Int)), (60, .v b.val), (59, .v (a.at i).line.val), (58, .v (.pointer (some ((a.ad.add (i * 4)).add 3)))), (57, .v (.pointer (some (a.ad.add (i * 4))))), (56, vI (i : Int)), (55, .v a.val), (54, vB false), (53, vB false), (52, vB false), (51, vI (b.at i).fence), (50, .v (.pointer (some ((b.ad.add (i * 4)).add 2)))), (49, .v (.pointer (some (b.ad.add (i * 4))))), (48, vI (i : Int)), (47, .v b.val), (46, vI (a.at i).fence), (45, .v (.pointer (some ((a.ad.add (i * 4)).add 2)))), (44, .v (.pointer (some (a.ad.add (i * 4))))), (43, vI (i : Int)), (42, .v a.val), (41, vB false), (40, vB false), (39, vB false), (38, vI (b.at i).holder), (37, .v (.pointer (some ((b.ad.add (i * 4)).add 1)))), (36, .v (.pointer (some (b.ad.add (i * 4))))), (35, vI (i : Int)), (34, .v b.val), (33, vI (a.at i).holder), (32, .v (.pointer (some ((a.ad.add (i * 4)).add 1)))), (31, .v (.pointer (some (a.ad.add (i * 4))))), (30, vI (i : Int)), (29, .v a.val), (28, vB false), (27, vB false), (26, vS (b.at i).name), (25, .v (.pointer (some ((b.ad.add (i * 4)).add 0)))), (24, .v (.pointer (some (b.ad.add (i * 4))))), (23, vI (i : Int)), (22, .v b.val), (21, vS (a.at i).name), (20, .v (.pointer (some ((a.ad.add (i * 4)).add 0)))), (19, .v (.pointer (some (a.ad.add (i * 4))))), (18, vI (i : Int)), (17, .v a.val), (14, vB true), (5, vI (i : Int)), (0, .v a.val), (1, .v b.val)] [a.A = some a.ad, (i : Int) = (i : Int), i < a.n, b.A = some b.ad, (i : Int) = (i : Int), i < b.n] [((a.ad.add (i * 4)).add 3, [.slice (a.at i).line.A (a.at i).line.n (a.at i).line.c]), ((b.ad.add (i * 4)).add 3, [.slice (b.at i).line.A (b.at i).line.n (b.at i).line.c])] rfl (by kernel_rfl) (oc (Sl.ok.own (s := a) (i := i) oka (by omega)) (oc rfl (oc (by omega) (oc (Sl.ok.own (s := b) (i := i) okb (by omega)) (oc rfl (oc (by omega) on)))))) (fun w hk hr => ⟨(Sl.rd.fld (s := a) (i := i) (Sl.rd.kp ha hk) (by omega) 3 1 rfl), ⟨(Sl.rd.fld (s := b) (i := i) (Sl.rd.kp hb hk) (by omega) 3 1 rfl), trivial⟩⟩) ?_
      refine h_pure 71 [] [.v (a.at i).line.val, .v (b.at i).line.val] (.bool true) rfl Try.call71 rfl rfl rfl rfl (fun bs w hS => same_ints _ _ w (And.right (Sl.rd.sub (s := a) (i := i) (Sl.rd.kp ha hS.kp) (by omega))) (And.right (Sl.rd.sub (s := b) (i := i) (Sl.rd.kp hb hS.kp) (by omega))) q4) (fun bs0 bs w hp hl hS => hS.down hp hl rfl le_nil .slnil) ?_
      refine Hq [] [(49, true), (50, true)] [(67, vB false), (66, vB false), (65, vB true), (64, .v (b.at i).line.val), (63, .v (.pointer (some ((b.ad.add (i * 4)).add 3)))), (62, .v (.pointer (some (b.ad.add (i * 4))))), (61, vI (i : Int)), (60, .v b.val), (59, .v (a.at i).line.val), (58, .v (.pointer (some ((a.ad.add (i * 4)).add 3)))), (57, .v (.pointer (some (a.ad.add (i * 4))))), (56, vI (i : Int)), (55, .v a.val), (54, vB false), (53, vB false), (52, vB false), (51, vI (b.at i).fence), (50, .v (.pointer (some ((b.ad.add (i * 4)).add 2)))), (49, .v (.pointer (some (b.ad.add (i * 4))))), (48, vI (i : Int)), (47, .v b.val), (46, vI (a.at i).fence), (45, .v (.pointer (some ((a.ad.add (i * 4)).add 2)))), (44, .v (.pointer (some (a.ad.add (i * 4))))), (43, vI (i : Int)), (42, .v a.val), (41, vB false), (40, vB false), (39, vB false), (38, vI (b.at i).holder), (37, .v (.pointer (some ((b.ad.add (i * 4)).add 1)))), (36, .v (.pointer (some (b.ad.add (i * 4))))), (35, vI (i : Int)), (34, .v b.val), (33, vI (a.at i).holder), (32, .v (.pointer (some ((a.ad.add (i * 4)).add 1)))), (31, .v (.pointer (some (a.ad.add (i * 4))))), (30, vI (i : Int)), (29, .v a.val), (28, vB false), (27, vB false), (26, vS (b.at i).name), (25, .v (.pointer (some ((b.ad.add (i * 4)).add 0)))), (24, .v (.pointer (some (b.ad.add (i * 4))))), (23, vI (i : Int)), (22, .v b.val), (21, vS (a.at i).name), (20, .v (.pointer (some ((a.ad.add (i * 4)).add 0)))), (19, .v (.pointer (some (a.ad.add (i * 4))))), (18, vI (i : Int)), (17, .v a.val), (14, vB true), (5, vI (i : Int)), (0, .v a.val), (1, .v b.val)] [] [] rfl (by kernel_rfl) on wn ?_
      refine Hn (Ln (Qn (Ci false rfl (Ck (q_block_normal (Qn (Cg (Jr 3 [] [5, 0, 1] 0 ⟨[(5, vI ((i : Int) + 1)), (0, .v a.val), (1, .v b.val)], []⟩ [inR ((i : Int) + 1)] [] (by kernel_rfl) (oc (by unfold inR; omega) on) wn (Ln (q_loop (x := (i : Nat)) ((i + 1) : Nat) trivial (by omega) (Ss [5, 0, 1] 0 (by kernel_rfl) rfl)))))))))))
     | false =>
      have h5 := of_decide_eq_false h5
      exfalso; first | omega | exact h5 q1
    | false =>
     have h4 := of_decide_eq_false h4
     exfalso; first | omega | exact h4 q1
   | false =>
    have h3 := of_decide_eq_false h3
    exfalso; first | omega | exact h3 q1
  | false =>
   have h2 := of_decide_eq_false h2
   refine Ci false rfl (c_exit (Qe (Qe (Qh (Qn (Cs (Cg (Jq 1 [4] 0 ⟨[(4, vB true)], []⟩ (Ln (Qn (Cr (Rt (.inl rfl) [vB true] rfl (fun bs w hS => ?_)))))))))))))
   exact ⟨rfl, hS.kp⟩
 | false =>
  have h1 := of_decide_eq_false h1
  exfalso; first | omega | exact h1 q1

theorem same_sessions {B B' : Nat → Prop} (a b : Sl CSession) (w : World) (ha : a.rd B w) (hb : b.rd B' w) (he : a.xs.map CSession.abs = b.xs.map CSession.abs) : Calls Try.prog 49 #[.slice a.A a.n a.c, .slice b.A b.n b.c] w fun e w' => e = .returned (.bool true) ∧ Kp [] w w' := by
 have oka := Sl.rd.ok ha
 have okb := Sl.rd.ok hb
 have hn := map_n he
 have nca := Sl.ok.nc oka
 refine calls_J0 81 Try.func49 rfl rfl [.slice a.A a.n a.c, .slice b.A b.n b.c] rfl ?_
 refine Cs (Cg (Jq 1 [0, 1] 0 ⟨[(0, .v a.val), (1, .v b.val)], []⟩ (Ln (Qn (Cs (Cs (Cg (Jq 5 [13, 0, 1] 0 ⟨[(13, vB (!(decide (((a.n : Nat) : Int) = ((b.n : Nat) : Int))))), (0, .v a.val), (1, .v b.val)], []⟩ (Ln (Qn ?_))))))))))
 cases h1 : decide (((a.n : Nat) : Int) = ((b.n : Nat) : Int)) with
 | true =>
  have h1 := of_decide_eq_true h1
  refine Ci false rfl (Ck (Qn (Cs (Cs (Cg (Jq 1 [5, 0, 1] 0 ⟨[(5, vI 0), (0, .v a.val), (1, .v b.val)], []⟩ (Ln (Qn (Cb (Cl (σ := Nat) (fun i => True) (fun i => a.n - i) (fun i => []) (fun i => ⟨[(5, vI (i : Int)), (0, .v a.val), (1, .v b.val)], []⟩) 0 trivial (Ss [5, 0, 1] 0 (by kernel_rfl) rfl) ?_))))))))))
  rintro i _
  have hat := map_at (f := CSession.abs) (g := CSession.abs) rfl he i
  have q0 : (a.at i).client = (b.at i).client := congrArg DSession.client hat
  have q1 : (a.at i).id = (b.at i).id := congrArg DSession.id hat
  have q2 : (a.at i).acked = (b.at i).acked := congrArg DSession.acked hat
  have q3 : (a.at i).last = (b.at i).last := congrArg DSession.last hat
  have q4 : (a.at i).replies.xs = (b.at i).replies.xs := congrArg DSession.replies hat
  have q5 := xs_n q4
  refine Cs (Cs (Cg (Jq 4 [17, 5, 0, 1] 0 ⟨[(17, vB (decide ((i : Int) < ((a.n : Nat) : Int)))), (5, vI (i : Int)), (0, .v a.val), (1, .v b.val)], []⟩ (Ln (Qn ?_)))))
  cases h2 : decide ((i : Int) < ((a.n : Nat) : Int)) with
  | true =>
   have h2 := of_decide_eq_true h2
   refine Ci true rfl (Ck (Qn (Cs (Cb (Cs (Cg (Jr 6 [(2, .idx a.ad i), (3, .ext [.int .i64 (a.at i).client, .int .i64 (a.at i).id, .int .i64 (a.at i).acked, .int .i64 (a.at i).last, .slice (a.at i).replies.A (a.at i).replies.n (a.at i).replies.c])] [6, 5, 0, 1] 1 ⟨[(6, .p 0 0), (5, vI (i : Int)), (0, .v a.val), (1, .v b.val)], [⟨80, (a.at i).cs⟩]⟩ [a.A = some a.ad, (i : Int) = (i : Int), i < a.n] [(a.ad.add (i * 5), [.int .i64 (a.at i).client, .int .i64 (a.at i).id, .int .i64 (a.at i).acked, .int .i64 (a.at i).last, .slice (a.at i).replies.A (a.at i).replies.n (a.at i).replies.c])] (by kernel_rfl) (oc (Sl.ok.own (s := a) (i := i) oka (by omega)) (oc rfl (oc (by omega) on))) (fun w hk hr => ⟨(Sl.rd.all (s := a) (i := i) (Sl.rd.kp ha hk) (by omega) rfl), trivial⟩) (Ln (Qn (Cs (Cg (Jr 6 [(2, .idx b.ad i), (3, .ext [.int .i64 (b.at i).client, .int .i64 (b.at i).id, .int .i64 (b.at i).acked, .int .i64 (b.at i).last, .slice (b.at i).replies.A (b.at i).replies.n (b.at i).replies.c])] [7, 6, 5, 0, 1] 2 ⟨[(7, .p 1 0), (6, .p 0 0), (5, vI (i : Int)), (0, .v a.val), (1, .v b.val)], [⟨80, (a.at i).cs⟩, ⟨80, (b.at i).cs⟩]⟩ [b.A = some b.ad, (i : Int) = (i : Int), i < b.n] [(b.ad.add (i * 5), [.int .i64 (b.at i).client, .int .i64 (b.at i).id, .int .i64 (b.at i).acked, .int .i64 (b.at i).last, .slice (b.at i).replies.A (b.at i).replies.n (b.at i).replies.c])] (by kernel_rfl) (oc (Sl.ok.own (s := b) (i := i) okb (by omega)) (oc rfl (oc (by omega) on))) (fun w hk hr => ⟨(Sl.rd.all (s := b) (i := i) (Sl.rd.kp hb hk) (by omega) rfl), trivial⟩) (Ln (Qn (Cs (Cs (Cg (Jq 6 [33, 7, 6, 5, 0, 1] 2 ⟨[(33, vB (!(decide ((a.at i).client = (b.at i).client)))), (7, .p 1 0), (6, .p 0 0), (5, vI (i : Int)), (0, .v a.val), (1, .v b.val)], [⟨80, (a.at i).cs⟩, ⟨80, (b.at i).cs⟩]⟩ ?_))))))))))))))))))
   cases h3 : decide ((a.at i).client = (b.at i).client) with
   | true =>
    have h3 := of_decide_eq_true h3
    refine Jq 7 [40, 7, 6, 5, 0, 1] 2 ⟨[(40, vB (!(decide ((a.at i).id = (b.at i).id)))), (7, .p 1 0), (6, .p 0 0), (5, vI (i : Int)), (0, .v a.val), (1, .v b.val)], [⟨80, (a.at i).cs⟩, ⟨80, (b.at i).cs⟩]⟩ ?_
    cases h4 : decide ((a.at i).id = (b.at i).id) with
    | true =>
     have h4 := of_decide_eq_true h4
     refine Jq 7 [47, 7, 6, 5, 0, 1] 2 ⟨[(47, vB (!(decide ((a.at i).acked = (b.at i).acked)))), (7, .p 1 0), (6, .p 0 0), (5, vI (i : Int)), (0, .v a.val), (1, .v b.val)], [⟨80, (a.at i).cs⟩, ⟨80, (b.at i).cs⟩]⟩ ?_
     cases h5 : decide ((a.at i).acked = (b.at i).acked) with
     | true =>
      have h5 := of_decide_eq_true h5
      refine Jq 7 [54, 7, 6, 5, 0, 1] 2 ⟨[(54, vB (!(decide ((a.at i).last = (b.at i).last)))), (7, .p 1 0), (6, .p 0 0), (5, vI (i : Int)), (0, .v a.val), (1, .v b.val)], [⟨80, (a.at i).cs⟩, ⟨80, (b.at i).cs⟩]⟩ ?_
      cases h6 : decide ((a.at i).last = (b.at i).last) with
      | true =>
       have h6 := of_decide_eq_true h6
       refine Jq 8 [62, 7, 6, 5, 0, 1] 2 ⟨[(62, vB (!(decide ((((a.at i).replies.n : Nat) : Int) = (((b.at i).replies.n : Nat) : Int))))), (7, .p 1 0), (6, .p 0 0), (5, vI (i : Int)), (0, .v a.val), (1, .v b.val)], [⟨80, (a.at i).cs⟩, ⟨80, (b.at i).cs⟩]⟩ (Ln (Qn ?_))
       cases h7 : decide ((((a.at i).replies.n : Nat) : Int) = (((b.at i).replies.n : Nat) : Int)) with
       | true =>
        have h7 := of_decide_eq_true h7
        refine Ci false rfl (Ck (Qn (Cs (Cg (Jq 1 [8, 7, 6, 5, 0, 1] 2 ⟨[(8, vI 0), (7, .p 1 0), (6, .p 0 0), (5, vI (i : Int)), (0, .v a.val), (1, .v b.val)], [⟨80, (a.at i).cs⟩, ⟨80, (b.at i).cs⟩]⟩ (Ln (Qn (Cb (Cl (σ := Nat) (fun j => True) (fun j => (a.at i).replies.n - j) (fun j => []) (fun j => ⟨[(8, vI (j : Int)), (7, .p 1 0), (6, .p 0 0), (5, vI (i : Int)), (0, .v a.val), (1, .v b.val)], [⟨80, (a.at i).cs⟩, ⟨80, (b.at i).cs⟩]⟩) 0 trivial (Ss [8, 7, 6, 5, 0, 1] 2 (by kernel_rfl) rfl) ?_)))))))))
        rintro j _
        have hbt := xs_at q4 j
        have ncr := Sl.ok.nc (Sl.ok.at oka (show i < a.n by omega))
        refine Cs (Cs (Cg (Jq 5 [67, 8, 7, 6, 5, 0, 1] 2 ⟨[(67, vB (decide ((j : Int) < (((a.at i).replies.n : Nat) : Int)))), (8, vI (j : Int)), (7, .p 1 0), (6, .p 0 0), (5, vI (i : Int)), (0, .v a.val), (1, .v b.val)], [⟨80, (a.at i).cs⟩, ⟨80, (b.at i).cs⟩]⟩ (Ln (Qn ?_)))))
        cases h8 : decide ((j : Int) < (((a.at i).replies.n : Nat) : Int)) with
        | true =>
         have h8 := of_decide_eq_true h8
         refine Ci true rfl (Ck (Qn (Cs (Cb (Cs (Cd 11 [] (.p 0 (.q 1 (.p 2 (.p 3 (.q 4 (.p 5 (.q 6 (.p 7 (.p 8 (.q 9 (.p 10 .nil))))))))))) [] [] Try_mixed (by kernel_rfl) (pq_then (pq_block (pq_then (pq_then (pq_block (pq_block (pq_then (pq_then (pq_block (pq_then pq_body)))))))))) .slnil (Hq [(3, .idx (a.at i).replies.ad j), (4, .ext [.int .i64 ((a.at i).replies.at j).seq, .int .i64 ((a.at i).replies.at j).reply.code, .int .i64 ((a.at i).replies.at j).reply.n, .string ((a.at i).replies.at j).reply.text]), (8, .idx (b.at i).replies.ad j), (9, .ext [.int .i64 ((b.at i).replies.at j).seq, .int .i64 ((b.at i).replies.at j).reply.code, .int .i64 ((b.at i).replies.at j).reply.n, .string ((b.at i).replies.at j).reply.text]), (10, .val (.bool (!((decide (((a.at i).replies.at j).seq = ((b.at i).replies.at j).seq)) && (((decide (((a.at i).replies.at j).reply.code = ((b.at i).replies.at j).reply.code)) && ((decide (((a.at i).replies.at j).reply.n = ((b.at i).replies.at j).reply.n)) && ((decide (((a.at i).replies.at j).reply.text = ((b.at i).replies.at j).reply.text)) && true))) && true)))))] [(0, true), (1, false), (2, true), (3, true), (4, false), (5, true), (6, false), (7, true), (8, true), (9, false), (10, true)] [(80, vB (!((decide (((a.at i).replies.at j).seq = ((b.at i).replies.at j).seq)) && (((decide (((a.at i).replies.at j).reply.code = ((b.at i).replies.at j).reply.code)) && ((decide (((a.at i).replies.at j).reply.n = ((b.at i).replies.at j).reply.n)) && ((decide (((a.at i).replies.at j).reply.text = ((b.at i).replies.at j).reply.text)) && true))) && true)))), (79, .v ((b.at i).replies.at j).val), (78, .v (.pointer (some ((b.at i).replies.ad.add (j * 4))))), (77, vI (j : Int)), (76, .v (b.at i).replies.val), (75, .p 1 4), (74, .v ((a.at i).replies.at j).val), (73, .v (.pointer (some ((a.at i).replies.ad.add (j * 4))))), (72, vI (j : Int)), (71, .v (a.at i).replies.val), (70, .p 0 4), (67, vB true), (8, vI (j : Int)), (7, .p 1 0), (6, .p 0 0), (5, vI (i : Int)), (0, .v a.val), (1, .v b.val)] [(a.at i).replies.A = some (a.at i).replies.ad, (j : Int) = (j : Int), j < (a.at i).replies.n, (b.at i).replies.A = some (b.at i).replies.ad, (j : Int) = (j : Int), j < (b.at i).replies.n, ∀ w, (do eqGuard .neq 84 (.tmp 74) (.tmp 79) ((a.at i).replies.at j).val ((b.at i).replies.at j).val; binOp .neq 84 ((a.at i).replies.at j).val ((b.at i).replies.at j).val : Sem Value).run Try.prog w = .ok (.bool (!((decide (((a.at i).replies.at j).seq = ((b.at i).replies.at j).seq)) && (((decide (((a.at i).replies.at j).reply.code = ((b.at i).replies.at j).reply.code)) && ((decide (((a.at i).replies.at j).reply.n = ((b.at i).replies.at j).reply.n)) && ((decide (((a.at i).replies.at j).reply.text = ((b.at i).replies.at j).reply.text)) && true))) && true)))) w] [((a.at i).replies.ad.add (j * 4), [.int .i64 ((a.at i).replies.at j).seq, .int .i64 ((a.at i).replies.at j).reply.code, .int .i64 ((a.at i).replies.at j).reply.n, .string ((a.at i).replies.at j).reply.text]), ((b.at i).replies.ad.add (j * 4), [.int .i64 ((b.at i).replies.at j).seq, .int .i64 ((b.at i).replies.at j).reply.code, .int .i64 ((b.at i).replies.at j).reply.n, .string ((b.at i).replies.at j).reply.text])] rfl (by kernel_rfl) (oc (Sl.ok.own (s := (a.at i).replies) (i := j) (Sl.ok.at (s := a) (i := i) oka (by omega)) (by omega)) (oc rfl (oc (by omega) (oc (Sl.ok.own (s := (b.at i).replies) (i := j) (Sl.ok.at (s := b) (i := i) okb (by omega)) (by omega)) (oc rfl (oc (by omega) (oc (neq_agg (by kernel_rfl) (by kernel_rfl)) on))))))) (fun w hk hr => ⟨(Sl.rd.all (s := (a.at i).replies) (i := j) (Sl.rd.sub (s := a) (i := i) (Sl.rd.kp ha hk) (by omega)) (by omega) rfl), ⟨(Sl.rd.all (s := (b.at i).replies) (i := j) (Sl.rd.sub (s := b) (i := i) (Sl.rd.kp hb hk) (by omega)) (by omega) rfl), trivial⟩⟩) ?_)))))))
         refine Hn (Ln (Qn ?_))
         cases h9 : (decide (((a.at i).replies.at j).seq = ((b.at i).replies.at j).seq)) && (((decide (((a.at i).replies.at j).reply.code = ((b.at i).replies.at j).reply.code)) && ((decide (((a.at i).replies.at j).reply.n = ((b.at i).replies.at j).reply.n)) && ((decide (((a.at i).replies.at j).reply.text = ((b.at i).replies.at j).reply.text)) && true))) && true) with
         | true =>
          refine Ci false rfl (Ck (q_block_normal (Qn (Cg (Jr 3 [] [8, 7, 6, 5, 0, 1] 2 ⟨[(8, vI ((j : Int) + 1)), (7, .p 1 0), (6, .p 0 0), (5, vI (i : Int)), (0, .v a.val), (1, .v b.val)], [⟨80, (a.at i).cs⟩, ⟨80, (b.at i).cs⟩]⟩ [inR ((j : Int) + 1)] [] (by kernel_rfl) (oc (by unfold inR; omega) on) wn (Ln (q_loop (x := (j : Nat)) ((j + 1) : Nat) trivial (by omega) (Ss [8, 7, 6, 5, 0, 1] 2 (by kernel_rfl) rfl))))))))
         | false =>
          exfalso; first | omega | (rw [hbt] at h9; simp at h9)
        | false =>
         have h8 := of_decide_eq_false h8
         refine Ci false rfl (c_exit (Qe (Qe (Qh (q_block_normal (Qn (Cg (Jr 3 [] [5, 0, 1] 0 ⟨[(5, vI ((i : Int) + 1)), (0, .v a.val), (1, .v b.val)], []⟩ [inR ((i : Int) + 1)] [] (by kernel_rfl) (oc (by unfold inR; omega) on) wn (Ln (q_loop (x := (i : Nat)) ((i + 1) : Nat) trivial (by omega) (Ss [5, 0, 1] 0 (by kernel_rfl) rfl)))))))))))
       | false =>
        have h7 := of_decide_eq_false h7
        exfalso; first | omega | (rw [hbt] at h7; simp at h7)
      | false =>
       have h6 := of_decide_eq_false h6
       exfalso; first | omega | (rw [hbt] at h6; simp at h6)
     | false =>
      have h5 := of_decide_eq_false h5
      exfalso; first | omega | (rw [hbt] at h5; simp at h5)
    | false =>
     have h4 := of_decide_eq_false h4
     exfalso; first | omega | (rw [hbt] at h4; simp at h4)
   | false =>
    have h3 := of_decide_eq_false h3
    exfalso; first | omega | (rw [hbt] at h3; simp at h3)
  | false =>
   have h2 := of_decide_eq_false h2
   refine Ci false rfl (c_exit (Qe (Qe (Qh (Qn (Cs (Cg (Jq 1 [4] 0 ⟨[(4, vB true)], []⟩ (Ln (Qn (Cr (Rt (.inl rfl) [vB true] rfl (fun bs w hS => ?_)))))))))))))
   exact ⟨rfl, hS.kp⟩
 | false =>
  have h1 := of_decide_eq_false h1
  exfalso; first | omega | (rw [hbt] at h1; simp at h1)

theorem log_CopyR {B : Nat → Prop} (x : CLog) (w : World) (hx : Rds.sub B w x) (hb : x.entries.n ≤ 1048576) : Calls Try.prog 50 #[.agg #[.int .i64 x.base, .slice x.entries.A x.entries.n x.entries.c]] w fun e w' => ∃ y : Sl ByteArray, e = .returned (.agg #[.int .i64 x.base, .slice y.A y.n y.c]) ∧ y.xs = x.entries.xs ∧ Kp [] w w' ∧ Fresh w w' (rowA 9 y.A y.c y.xs) := by
 have okx := Rds.okof hx
 have ncx := Sl.ok.nc okx
 have hnx : x.entries.n = x.entries.xs.length := rfl
 have hla : mLast x.abs = x.base + (x.entries.n : Int) := rfl
 have q1 : x.abs.base = x.base := rfl
 have q2 : x.abs.entries = x.entries.xs := rfl
 have hat : ∀ q, x.entries.xs.getD q default = x.entries.at q := fun _ => rfl
 refine calls_J0 9 Try.func50 rfl rfl [.agg #[.int .i64 x.base, .slice x.entries.A x.entries.n x.entries.c]] rfl ?_
 refine Cs (Cg (Jq 2 [2, 1] 2 ⟨[(2, .p 1 0), (1, .p 0 0)], [⟨24, x.cs⟩, ⟨24, [vI 0, .v (.slice none 0 0)]⟩]⟩ (Ln (Qn (Cs (Cd 6 [] (.p 0 (.q 1 (.p 2 (.q 3 (.b 4 (.p 5 .nil) .z))))) [] [] Try_mixed (by kernel_rfl) (pq_then pq_body) .slnil (Hq [] [(0, true), (1, false), (2, true), (3, false)] [(6, .v x.entries.val), (5, .p 0 1), (4, vI x.base), (3, .p 0 0), (2, .p 1 0), (1, .p 0 0)] [] [] rfl (by kernel_rfl) on wn (h_freshF (σ := Sl ByteArray) 38 [] [.v x.entries.val] (fun y1 => .slice y1.A y1.n y1.c) (fun y1 => y1.xs = x.entries.xs) (fun y1 => rowA 9 y1.A y1.c (y1.xs : List ByteArray)) rfl Try.call38 rfl rfl rfl rfl (fun bs w hS => clone_ByteArray x.entries w (Rds.kp hx hS.kp) hb) (fun bs0 bs y w hp hl hS => hS.down hp hl rfl (le_same (le_same le_nil)) (.cons _ .slnil)) ?_))))))))
 rintro y1 hF1
 refine Hq [] [(5, true)] [(8, .v (.agg #[.int .i64 x.base, .slice y1.A y1.n y1.c])), (7, .v y1.val), (6, .v x.entries.val), (5, .p 0 1), (4, vI x.base), (3, .p 0 0), (2, .p 1 0), (1, .p 0 0)] [] [] rfl (by kernel_rfl) on wn ?_
 refine Hn (Jq 1 [2] 2 ⟨[(2, .p 1 0)], [⟨24, x.cs⟩, ⟨24, [vI x.base, .v y1.val]⟩]⟩ (Ln (Qn (Cr (Rt (.inl rfl) [.v (.agg #[.int .i64 x.base, .slice y1.A y1.n y1.c])] rfl (fun bs w hS => ?_))))))
 exact ⟨y1, rfl, hF1, hS.kp, hS.out1⟩
theorem log_Copy {B : Nat → Prop} (x : CLog) (w : World) (hx : Rds.sub B w x) (hsm : Rds.small x) : Calls Try.prog 50 #[.agg #[.int .i64 x.base, .slice x.entries.A x.entries.n x.entries.c]] w fun e w' => ∃ y : CLog, e = .returned (y.val) ∧ y.abs = x.abs ∧ FreshS w w' y :=
 (log_CopyR x w hx hsm.1).mono fun e w' ⟨y, h1, h2, h3, h4⟩ => ⟨⟨x.base, y⟩, h1, by simp [CLog.abs, h2], h3, h4.sub fun hp => rowA_rd hp (fun b hb => hb) fun z hz => Sl.rd.mem (s := x.entries) hx z (h2 ▸ hz)⟩

theorem ref_LogCopyR {B : Nat → Prop} (x : CLog) (w : World) (hx : Rds.sub B w x) (hb : x.entries.n ≤ 1048576) : Calls Try.prog 14 #[.agg #[.int .i64 x.base, .slice x.entries.A x.entries.n x.entries.c]] w fun e w' => ∃ y : Sl ByteArray, e = .returned (.agg #[.int .i64 x.base, .slice y.A y.n y.c]) ∧ y.xs = x.entries.xs ∧ Kp [] w w' ∧ Fresh w w' (rowA 9 y.A y.c y.xs) := by
 have okx := Rds.okof hx
 have ncx := Sl.ok.nc okx
 have hnx : x.entries.n = x.entries.xs.length := rfl
 have hla : mLast x.abs = x.base + (x.entries.n : Int) := rfl
 have q1 : x.abs.base = x.base := rfl
 have q2 : x.abs.entries = x.entries.xs := rfl
 have hat : ∀ q, x.entries.xs.getD q default = x.entries.at q := fun _ => rfl
 refine calls_J0 9 Try.func14 rfl rfl [.agg #[.int .i64 x.base, .slice x.entries.A x.entries.n x.entries.c]] rfl ?_
 refine Cs (Cg (Jq 2 [2, 1] 2 ⟨[(2, .p 1 0), (1, .p 0 0)], [⟨24, x.cs⟩, ⟨24, [vI 0, .v (.slice none 0 0)]⟩]⟩ (Ln (Qn (Cs (Cd 6 [] (.p 0 (.q 1 (.p 2 (.q 3 (.b 4 (.p 5 .nil) .z))))) [] [] Try_mixed (by kernel_rfl) (pq_then pq_body) .slnil (Hq [] [(0, true), (1, false), (2, true), (3, false)] [(6, .v x.entries.val), (5, .p 0 1), (4, vI x.base), (3, .p 0 0), (2, .p 1 0), (1, .p 0 0)] [] [] rfl (by kernel_rfl) on wn (h_rowA (α := ByteArray) 9 (h_appendA (α := ByteArray) 9 16 none 0 ([]) (.v (.slice x.entries.A x.entries.n x.entries.c)) (x.entries.xs) rfl Try.underlying22 (by kernel_rfl) rfl rfl rfl rfl (fun bs w hS => ⟨_, _, rfl, Sl.rd.src (s := x.entries) (Rds.kp hx hS.kp)⟩) (by simp only [List.length_nil]; omega) (by simp only [List.length_nil]; omega) (fun bs0 bs A2 c2 w hp hl hS => hS.down hp hl rfl (le_same (le_same le_nil)) (.cons _ .slnil)) ?_)))))))))
 intro A1 c1
 refine Hq [] [(5, true)] [(8, .v (.agg #[.int .i64 x.base, .slice A1 ([] ++ x.entries.xs).length c1])), (7, .v (.slice A1 ([] ++ x.entries.xs).length c1)), (6, .v x.entries.val), (5, .p 0 1), (4, vI x.base), (3, .p 0 0), (2, .p 1 0), (1, .p 0 0)] [] [] rfl (by kernel_rfl) on wn ?_
 refine Hn (Jq 1 [2] 2 ⟨[(2, .p 1 0)], [⟨24, x.cs⟩, ⟨24, [vI x.base, .v (.slice A1 ([] ++ x.entries.xs).length c1)]⟩]⟩ (Ln (Qn (Cr (Rt (.inl rfl) [.v (.agg #[.int .i64 x.base, .slice A1 ([] ++ x.entries.xs).length c1])] rfl (fun bs w hS => ?_))))))
 exact ⟨⟨A1, c1, [] ++ x.entries.xs⟩, rfl, by simp, hS.kp, hS.out1⟩
theorem ref_LogCopy {B : Nat → Prop} (x : CLog) (w : World) (hx : Rds.sub B w x) (hsm : Rds.small x) : Calls Try.prog 14 #[.agg #[.int .i64 x.base, .slice x.entries.A x.entries.n x.entries.c]] w fun e w' => ∃ y : CLog, e = .returned (y.val) ∧ y.abs = x.abs ∧ FreshS w w' y :=
 (ref_LogCopyR x w hx hsm.1).mono fun e w' ⟨y, h1, h2, h3, h4⟩ => ⟨⟨x.base, y⟩, h1, by simp [CLog.abs, h2], h3, h4.sub fun hp => rowA_rd hp (fun b hb => hb) fun z hz => Sl.rd.mem (s := x.entries) hx z (h2 ▸ hz)⟩

theorem snap_number (q : RQ) (b : Nat) (w : World) (hb : (blkR b 63 [.string q.1, .int .i64 q.2]).p w) (hz : q.1.size ≤ 9223372036854775807) : Calls Try.prog 61 #[.pointer (some (⟨b, 0, none⟩ : Addr))] w fun e w' => ∃ _ : Unit, e = .returned (.int .i64 (rNum q).1) ∧ True ∧ Kp [b] w w' ∧ (blkR b 63 [.string (rNum q).2.1, .int .i64 (rNum q).2.2]).p w' := by
 have hbm := mRead_bd q.1
 refine calls_J 29 (blkR b 63 [.string q.1, .int .i64 q.2]).fp Try.func61 rfl rfl [] [] [blkR b 63 [.string q.1, .int .i64 q.2]] [.v (.pointer (some (⟨b, 0, none⟩ : Addr)))] [.pointer (some (⟨b, 0, none⟩ : Addr))] rfl rfl (WS.start1 w _ hb (by simp [blkR]) (blkR_lt hb)) ?_
 refine Cs (Cg (Jq 1 [0] 0 ⟨[(0, .v (.pointer (some (⟨b, 0, none⟩ : Addr))))], []⟩ (Ln (Qn (Cs (Cs (Cg (Jr 5 [(3, .ext [.int .i64 q.2])] [10, 0] 0 ⟨[(10, vB (!(decide (q.2 = 0)))), (0, .v (.pointer (some (⟨b, 0, none⟩ : Addr))))], []⟩ [] [((⟨b, 0, none⟩ : Addr).add 1, [.int .i64 q.2])] (by kernel_rfl) on (fun w hk hr => ⟨(blkR_fld (hr _ (.head _)) 1 1 rfl), trivial⟩) (Ln (Qn ?_))))))))))
 cases h1 : decide (q.2 = 0) with
 | true =>
  have h1 := of_decide_eq_true h1
  refine Ci false rfl (Ck (Qn (Cs (Cg (Jr 4 [(3, .ext [.string q.1])] [15, 0] 0 ⟨[(15, vS q.1), (0, .v (.pointer (some (⟨b, 0, none⟩ : Addr))))], []⟩ [] [((⟨b, 0, none⟩ : Addr).add 0, [.string q.1])] (by kernel_rfl) on (fun w hk hr => ⟨(blkR_fld (hr _ (.head _)) 0 1 rfl), trivial⟩) (Lp 86 [] [vS q.1] (.tuple #[.int .i64 (mRead q.1).1, .string (mRead q.1).2.1, .int .i64 (mRead q.1).2.2]) Try.call86 rfl rfl rfl rfl (fun bs w hS => codec_ReadNumber _ w hz) (Jq 7 [5, 4, 3, 0] 0 ⟨[(5, vI (mRead q.1).2.2), (4, vS (mRead q.1).2.1), (3, vI (mRead q.1).1), (0, .v (.pointer (some (⟨b, 0, none⟩ : Addr))))], []⟩ (Ln (Qn (Cs (Cg (Jq 6 [25, 23, 22, 21, 3] 0 ⟨[(25, .v (.pointer (some ((⟨b, 0, none⟩ : Addr).add 0)))), (23, vI (mRead q.1).2.2), (22, vS (mRead q.1).2.1), (21, .v (.pointer (some (⟨b, 0, none⟩ : Addr)))), (3, vI (mRead q.1).1)], []⟩ (l_storeB b 63 [.string q.1, .int .i64 q.2] 0 ((⟨b, 0, none⟩ : Addr).add 0) (vS (mRead q.1).2.1) [vS (mRead q.1).2.1] [.string (mRead q.1).2.1] [.string (mRead q.1).2.1, .int .i64 q.2] rfl rfl rfl rfl rfl (by kernel_rfl) (by kernel_rfl) rfl (by kernel_rfl) rfl rfl rfl (Jq 2 [27, 23, 3] 0 ⟨[(27, .v (.pointer (some ((⟨b, 0, none⟩ : Addr).add 1)))), (23, vI (mRead q.1).2.2), (3, vI (mRead q.1).1)], []⟩ (l_storeB b 63 [.string (mRead q.1).2.1, .int .i64 q.2] 1 ((⟨b, 0, none⟩ : Addr).add 1) (vI (mRead q.1).2.2) [vI (mRead q.1).2.2] [.int .i64 (mRead q.1).2.2] [.string (mRead q.1).2.1, .int .i64 (mRead q.1).2.2] rfl rfl rfl rfl rfl (by kernel_rfl) (by kernel_rfl) rfl (by kernel_rfl) rfl rfl rfl (Ln (Qn (Cs (Cg (Jq 2 [2] 0 ⟨[(2, vI (mRead q.1).1)], []⟩ (Ln (Qn (Cr (Rt (.inl rfl) [vI (mRead q.1).1] rfl (fun bs w hS => ?_)))))))))))))))))))))))))
  have hm : rNum q = ((mRead q.1).1, ((mRead q.1).2.1, (mRead q.1).2.2)) := by unfold rNum; rw [if_pos (by assumption)]
  rw [hm]
  exact ⟨(), rfl, trivial, hS.kp, hS.res _ (.head _)⟩
 | false =>
  have h1 := of_decide_eq_false h1
  refine Ci true rfl (Cs (Cg (Jq 1 [2] 0 ⟨[(2, vI 0)], []⟩ (Ln (Qn (Cr (Qr (Rt (.inl rfl) [vI 0] rfl (fun bs w hS => ?_)))))))))
  have hm : rNum q = (0, q) := by unfold rNum; rw [if_neg (by assumption)]
  rw [hm]
  exact ⟨(), rfl, trivial, hS.kp, hS.res _ (.head _)⟩

theorem snap_text_ (q : RQ) (b : Nat) (w : World) (hb : (blkR b 63 [.string q.1, .int .i64 q.2]).p w) (hz : q.1.size ≤ 9223372036854775807) : Calls Try.prog 64 #[.pointer (some (⟨b, 0, none⟩ : Addr))] w fun e w' => ∃ _ : Unit, e = .returned (.string (rTxt q).1) ∧ True ∧ Kp [b] w w' ∧ (blkR b 63 [.string (rTxt q).2.1, .int .i64 (rTxt q).2.2]).p w' := by
 refine calls_J 29 (blkR b 63 [.string q.1, .int .i64 q.2]).fp Try.func64 rfl rfl [] [] [blkR b 63 [.string q.1, .int .i64 q.2]] [.v (.pointer (some (⟨b, 0, none⟩ : Addr)))] [.pointer (some (⟨b, 0, none⟩ : Addr))] rfl rfl (WS.start1 w _ hb (by simp [blkR]) (blkR_lt hb)) ?_
 refine Cs (Cg (Jq 1 [0] 0 ⟨[(0, .v (.pointer (some (⟨b, 0, none⟩ : Addr))))], []⟩ (Ln (Qn (Cs (Cs (Cg (Jr 5 [(3, .ext [.int .i64 q.2])] [10, 0] 0 ⟨[(10, vB (!(decide (q.2 = 0)))), (0, .v (.pointer (some (⟨b, 0, none⟩ : Addr))))], []⟩ [] [((⟨b, 0, none⟩ : Addr).add 1, [.int .i64 q.2])] (by kernel_rfl) on (fun w hk hr => ⟨(blkR_fld (hr _ (.head _)) 1 1 rfl), trivial⟩) (Ln (Qn ?_))))))))))
 cases h1 : decide (q.2 = 0) with
 | true =>
  have h1 := of_decide_eq_true h1
  refine Ci false rfl (Ck (Qn (Cs (Cg (Jr 4 [(3, .ext [.string q.1])] [15, 0] 0 ⟨[(15, vS q.1), (0, .v (.pointer (some (⟨b, 0, none⟩ : Addr))))], []⟩ [] [((⟨b, 0, none⟩ : Addr).add 0, [.string q.1])] (by kernel_rfl) on (fun w hk hr => ⟨(blkR_fld (hr _ (.head _)) 0 1 rfl), trivial⟩) (Lp 87 [] [vS q.1] (.tuple #[.string (mTell q.1).1, .string (mTell q.1).2.1, .int .i64 (mTell q.1).2.2]) Try.call87 rfl rfl rfl rfl (fun bs w hS => codec_ReadText _ w hz) (Jq 7 [5, 4, 3, 0] 0 ⟨[(5, vI (mTell q.1).2.2), (4, vS (mTell q.1).2.1), (3, vS (mTell q.1).1), (0, .v (.pointer (some (⟨b, 0, none⟩ : Addr))))], []⟩ (Ln (Qn (Cs (Cg (Jq 6 [25, 23, 22, 21, 3] 0 ⟨[(25, .v (.pointer (some ((⟨b, 0, none⟩ : Addr).add 0)))), (23, vI (mTell q.1).2.2), (22, vS (mTell q.1).2.1), (21, .v (.pointer (some (⟨b, 0, none⟩ : Addr)))), (3, vS (mTell q.1).1)], []⟩ (l_storeB b 63 [.string q.1, .int .i64 q.2] 0 ((⟨b, 0, none⟩ : Addr).add 0) (vS (mTell q.1).2.1) [vS (mTell q.1).2.1] [.string (mTell q.1).2.1] [.string (mTell q.1).2.1, .int .i64 q.2] rfl rfl rfl rfl rfl (by kernel_rfl) (by kernel_rfl) rfl (by kernel_rfl) rfl rfl rfl (Jq 2 [27, 23, 3] 0 ⟨[(27, .v (.pointer (some ((⟨b, 0, none⟩ : Addr).add 1)))), (23, vI (mTell q.1).2.2), (3, vS (mTell q.1).1)], []⟩ (l_storeB b 63 [.string (mTell q.1).2.1, .int .i64 q.2] 1 ((⟨b, 0, none⟩ : Addr).add 1) (vI (mTell q.1).2.2) [vI (mTell q.1).2.2] [.int .i64 (mTell q.1).2.2] [.string (mTell q.1).2.1, .int .i64 (mTell q.1).2.2] rfl rfl rfl rfl rfl (by kernel_rfl) (by kernel_rfl) rfl (by kernel_rfl) rfl rfl rfl (Ln (Qn (Cs (Cg (Jq 2 [2] 0 ⟨[(2, vS (mTell q.1).1)], []⟩ (Ln (Qn (Cr (Rt (.inl rfl) [vS (mTell q.1).1] rfl (fun bs w hS => ?_)))))))))))))))))))))))))
  have hm : rTxt q = ((mTell q.1).1, ((mTell q.1).2.1, (mTell q.1).2.2)) := by unfold rTxt; rw [if_pos (by assumption)]
  rw [hm]
  exact ⟨(), rfl, trivial, hS.kp, hS.res _ (.head _)⟩
 | false =>
  have h1 := of_decide_eq_false h1
  refine Ci true rfl (Cs (Cg (Jq 1 [2] 0 ⟨[(2, vS emp)], []⟩ (Ln (Qn (Cr (Qr (Rt (.inl rfl) [vS emp] rfl (fun bs w hS => ?_)))))))))
  have hm : rTxt q = (emp, q) := by unfold rTxt; rw [if_neg (by assumption)]
  rw [hm]
  exact ⟨(), rfl, trivial, hS.kp, hS.res _ (.head _)⟩

theorem snap_count (q : RQ) (m : Int) (b : Nat) (w : World) (hb : (blkR b 63 [.string q.1, .int .i64 q.2]).p w) (hz : q.1.size ≤ 9223372036854775807) : Calls Try.prog 62 #[.pointer (some (⟨b, 0, none⟩ : Addr)), .int .i64 m] w fun e w' => ∃ _ : Unit, e = .returned (.int .i64 (rMany m q).1) ∧ True ∧ Kp [b] w w' ∧ (blkR b 63 [.string (rMany m q).2.1, .int .i64 (rMany m q).2.2]).p w' := by
 refine calls_J 27 (blkR b 63 [.string q.1, .int .i64 q.2]).fp Try.func62 rfl rfl [] [] [blkR b 63 [.string q.1, .int .i64 q.2]] [.v (.pointer (some (⟨b, 0, none⟩ : Addr))), vI m] [.pointer (some (⟨b, 0, none⟩ : Addr)), .int .i64 m] rfl rfl (WS.start1 w _ hb (by simp [blkR]) (blkR_lt hb)) ?_
 refine Cs (Cg (Jq 1 [0, 1] 0 ⟨[(0, .v (.pointer (some (⟨b, 0, none⟩ : Addr)))), (1, vI m)], []⟩ (Ln (Qn (Cs (Cg (Jq 1 [6, 0, 1] 0 ⟨[(6, .v (.pointer (some (⟨b, 0, none⟩ : Addr)))), (0, .v (.pointer (some (⟨b, 0, none⟩ : Addr)))), (1, vI m)], []⟩ (l_turn (σ := Unit) 61 [] [.v (.pointer (some (⟨b, 0, none⟩ : Addr)))] (fun _ => .int .i64 (rNum q).1) (fun _ => True) (fun _ => blkR b 63 [.string (rNum q).2.1, .int .i64 (rNum q).2.2]) Try.call61 rfl rfl rfl rfl (fun bs w hS => (snap_number q b w (hS.res _ (.head _)) hz).mono (fun e w' ⟨y, h1, h2, h3, h4⟩ => ⟨y, h1, h2, h3, h4, (by simp [blkR]), fun x hx => .inl hx⟩)) ?_))))))))
 rintro y _
 refine Jq 1 [5, 0, 1] 0 ⟨[(5, vI (rNum q).1), (0, .v (.pointer (some (⟨b, 0, none⟩ : Addr)))), (1, vI m)], []⟩ (Ln (Qn (Cs (Cs (Cg (Jr 6 [(3, .ext [.int .i64 (rNum q).2.2])] [13, 5, 0, 1] 0 ⟨[(13, vB (decide ((rNum q).2.2 = 0))), (5, vI (rNum q).1), (0, .v (.pointer (some (⟨b, 0, none⟩ : Addr)))), (1, vI m)], []⟩ [] [((⟨b, 0, none⟩ : Addr).add 1, [.int .i64 (rNum q).2.2])] (by kernel_rfl) on (fun w hk hr => ⟨(blkR_fld (hr _ (.head _)) 1 1 rfl), trivial⟩) ?_))))))
 cases h1 : decide ((rNum q).2.2 = 0) with
 | true =>
  have h1 := of_decide_eq_true h1
  refine Jq 4 [17, 5, 0] 0 ⟨[(17, vB (decide (m < (rNum q).1))), (5, vI (rNum q).1), (0, .v (.pointer (some (⟨b, 0, none⟩ : Addr))))], []⟩ (Ln (Qn ?_))
  cases h2 : decide (m < (rNum q).1) with
  | true =>
   have h2 := of_decide_eq_true h2
   refine Ci true rfl (Cg (Jq 3 [20, 5, 0] 0 ⟨[(20, .v (.pointer (some ((⟨b, 0, none⟩ : Addr).add 1)))), (5, vI (rNum q).1), (0, .v (.pointer (some (⟨b, 0, none⟩ : Addr))))], []⟩ (l_storeB b 63 [.string (rNum q).2.1, .int .i64 (rNum q).2.2] 1 ((⟨b, 0, none⟩ : Addr).add 1) (vI 1) [vI 1] [.int .i64 1] [.string (rNum q).2.1, .int .i64 1] rfl rfl rfl rfl rfl (by kernel_rfl) (by kernel_rfl) rfl (by kernel_rfl) rfl rfl rfl (Ln (Qn (Cs (Cs (Cg (Jr 5 [(3, .ext [.int .i64 1])] [25, 5] 0 ⟨[(25, vB true), (5, vI (rNum q).1)], []⟩ [] [((⟨b, 0, none⟩ : Addr).add 1, [.int .i64 1])] (by kernel_rfl) on (fun w hk hr => ⟨(blkR_fld (hr _ (.head _)) 1 1 rfl), trivial⟩) (Ln (Qn (Ci true rfl (Cs (Cg (Jq 1 [4] 0 ⟨[(4, vI 0)], []⟩ (Ln (Qn (Cr (Qr (Rt (.inl rfl) [vI 0] rfl (fun bs w hS => ?_)))))))))))))))))))))
   have hm : rMany m q = (0, ((rNum q).2.1, 1)) := by unfold rMany; rw [if_pos (by assumption), if_pos (by assumption)]
   rw [hm]
   exact ⟨(), rfl, trivial, hS.kp, hS.res _ (.head _)⟩
  | false =>
   have h2 := of_decide_eq_false h2
   refine Ci false rfl (Ck (Qn (Cs (Cs (Cg (Jr 5 [(3, .ext [.int .i64 (rNum q).2.2])] [25, 5] 0 ⟨[(25, vB (!(decide ((rNum q).2.2 = 0)))), (5, vI (rNum q).1)], []⟩ [] [((⟨b, 0, none⟩ : Addr).add 1, [.int .i64 (rNum q).2.2])] (by kernel_rfl) on (fun w hk hr => ⟨(blkR_fld (hr _ (.head _)) 1 1 rfl), trivial⟩) (Ln (Qn ?_))))))))
   cases h3 : decide ((rNum q).2.2 = 0) with
   | true =>
    have h3 := of_decide_eq_true h3
    refine Ci false rfl (Ck (Qn (Cs (Cg (Jq 2 [4] 0 ⟨[(4, vI (rNum q).1)], []⟩ (Ln (Qn (Cr (Rt (.inl rfl) [vI (rNum q).1] rfl (fun bs w hS => ?_))))))))))
    have hm : rMany m q = rNum q := by unfold rMany; rw [if_pos (by assumption), if_neg (by assumption)]
    rw [hm]
    exact ⟨(), rfl, trivial, hS.kp, hS.res _ (.head _)⟩
   | false =>
    have h3 := of_decide_eq_false h3
    exact absurd h1 h3
 | false =>
  have h1 := of_decide_eq_false h1
  refine Jq 4 [17, 5, 0] 0 ⟨[(17, vB false), (5, vI (rNum q).1), (0, .v (.pointer (some (⟨b, 0, none⟩ : Addr))))], []⟩ (Ln (Qn (Ci false rfl (Ck (Qn (Cs (Cs (Cg (Jr 5 [(3, .ext [.int .i64 (rNum q).2.2])] [25, 5] 0 ⟨[(25, vB (!(decide ((rNum q).2.2 = 0)))), (5, vI (rNum q).1)], []⟩ [] [((⟨b, 0, none⟩ : Addr).add 1, [.int .i64 (rNum q).2.2])] (by kernel_rfl) on (fun w hk hr => ⟨(blkR_fld (hr _ (.head _)) 1 1 rfl), trivial⟩) (Ln (Qn ?_)))))))))))
  cases h4 : decide ((rNum q).2.2 = 0) with
  | true =>
   have h4 := of_decide_eq_true h4
   exact absurd h4 h1
  | false =>
   have h4 := of_decide_eq_false h4
   refine Ci true rfl (Cs (Cg (Jq 1 [4] 0 ⟨[(4, vI 0)], []⟩ (Ln (Qn (Cr (Qr (Rt (.inl rfl) [vI 0] rfl (fun bs w hS => ?_)))))))))
   have hm : rMany m q = (0, (rNum q).2) := by unfold rMany; rw [if_neg (by assumption)]
   rw [hm]
   exact ⟨(), rfl, trivial, hS.kp, hS.res _ (.head _)⟩

theorem ear_num (q : RQ) (b : Nat) (w : World) (hb : (blkR b 69 [.string q.1, .int .i64 q.2]).p w) (hz : q.1.size ≤ 9223372036854775807) : Calls Try.prog 43 #[.pointer (some (⟨b, 0, none⟩ : Addr))] w fun e w' => ∃ _ : Unit, e = .returned (.int .i64 (rNum q).1) ∧ True ∧ Kp [b] w w' ∧ (blkR b 69 [.string (rNum q).2.1, .int .i64 (rNum q).2.2]).p w' := by
 have hbm := mRead_bd q.1
 refine calls_J 29 (blkR b 69 [.string q.1, .int .i64 q.2]).fp Try.func43 rfl rfl [] [] [blkR b 69 [.string q.1, .int .i64 q.2]] [.v (.pointer (some (⟨b, 0, none⟩ : Addr)))] [.pointer (some (⟨b, 0, none⟩ : Addr))] rfl rfl (WS.start1 w _ hb (by simp [blkR]) (blkR_lt hb)) ?_
 refine Cs (Cg (Jq 1 [0] 0 ⟨[(0, .v (.pointer (some (⟨b, 0, none⟩ : Addr))))], []⟩ (Ln (Qn (Cs (Cs (Cg (Jr 5 [(3, .ext [.int .i64 q.2])] [10, 0] 0 ⟨[(10, vB (!(decide (q.2 = 0)))), (0, .v (.pointer (some (⟨b, 0, none⟩ : Addr))))], []⟩ [] [((⟨b, 0, none⟩ : Addr).add 1, [.int .i64 q.2])] (by kernel_rfl) on (fun w hk hr => ⟨(blkR_fld (hr _ (.head _)) 1 1 rfl), trivial⟩) (Ln (Qn ?_))))))))))
 cases h1 : decide (q.2 = 0) with
 | true =>
  have h1 := of_decide_eq_true h1
  refine Ci false rfl (Ck (Qn (Cs (Cg (Jr 4 [(3, .ext [.string q.1])] [15, 0] 0 ⟨[(15, vS q.1), (0, .v (.pointer (some (⟨b, 0, none⟩ : Addr))))], []⟩ [] [((⟨b, 0, none⟩ : Addr).add 0, [.string q.1])] (by kernel_rfl) on (fun w hk hr => ⟨(blkR_fld (hr _ (.head _)) 0 1 rfl), trivial⟩) (Lp 69 [] [vS q.1] (.tuple #[.int .i64 (mRead q.1).1, .string (mRead q.1).2.1, .int .i64 (mRead q.1).2.2]) Try.call69 rfl rfl rfl rfl (fun bs w hS => ref_NumberOf _ w hz) (Jq 7 [5, 4, 3, 0] 0 ⟨[(5, vI (mRead q.1).2.2), (4, vS (mRead q.1).2.1), (3, vI (mRead q.1).1), (0, .v (.pointer (some (⟨b, 0, none⟩ : Addr))))], []⟩ (Ln (Qn (Cs (Cg (Jq 4 [23, 21, 5, 3, 0] 0 ⟨[(23, .v (.pointer (some ((⟨b, 0, none⟩ : Addr).add 0)))), (21, vS (mRead q.1).2.1), (5, vI (mRead q.1).2.2), (3, vI (mRead q.1).1), (0, .v (.pointer (some (⟨b, 0, none⟩ : Addr))))], []⟩ (l_storeB b 69 [.string q.1, .int .i64 q.2] 0 ((⟨b, 0, none⟩ : Addr).add 0) (vS (mRead q.1).2.1) [vS (mRead q.1).2.1] [.string (mRead q.1).2.1] [.string (mRead q.1).2.1, .int .i64 q.2] rfl rfl rfl rfl rfl (by kernel_rfl) (by kernel_rfl) rfl (by kernel_rfl) rfl rfl rfl (Ln (Qn (Cs (Cg (Jq 4 [27, 25, 3] 0 ⟨[(27, .v (.pointer (some ((⟨b, 0, none⟩ : Addr).add 1)))), (25, vI (mRead q.1).2.2), (3, vI (mRead q.1).1)], []⟩ (l_storeB b 69 [.string (mRead q.1).2.1, .int .i64 q.2] 1 ((⟨b, 0, none⟩ : Addr).add 1) (vI (mRead q.1).2.2) [vI (mRead q.1).2.2] [.int .i64 (mRead q.1).2.2] [.string (mRead q.1).2.1, .int .i64 (mRead q.1).2.2] rfl rfl rfl rfl rfl (by kernel_rfl) (by kernel_rfl) rfl (by kernel_rfl) rfl rfl rfl (Ln (Qn (Cs (Cg (Jq 2 [2] 0 ⟨[(2, vI (mRead q.1).1)], []⟩ (Ln (Qn (Cr (Rt (.inl rfl) [vI (mRead q.1).1] rfl (fun bs w hS => ?_)))))))))))))))))))))))))))))
  have hm : rNum q = ((mRead q.1).1, ((mRead q.1).2.1, (mRead q.1).2.2)) := by unfold rNum; rw [if_pos (by assumption)]
  rw [hm]
  exact ⟨(), rfl, trivial, hS.kp, hS.res _ (.head _)⟩
 | false =>
  have h1 := of_decide_eq_false h1
  refine Ci true rfl (Cs (Cg (Jq 1 [2] 0 ⟨[(2, vI 0)], []⟩ (Ln (Qn (Cr (Qr (Rt (.inl rfl) [vI 0] rfl (fun bs w hS => ?_)))))))))
  have hm : rNum q = (0, q) := by unfold rNum; rw [if_neg (by assumption)]
  rw [hm]
  exact ⟨(), rfl, trivial, hS.kp, hS.res _ (.head _)⟩

theorem ear_str (q : RQ) (b : Nat) (w : World) (hb : (blkR b 69 [.string q.1, .int .i64 q.2]).p w) (hz : q.1.size ≤ 9223372036854775807) : Calls Try.prog 45 #[.pointer (some (⟨b, 0, none⟩ : Addr))] w fun e w' => ∃ _ : Unit, e = .returned (.string (rTxt q).1) ∧ True ∧ Kp [b] w w' ∧ (blkR b 69 [.string (rTxt q).2.1, .int .i64 (rTxt q).2.2]).p w' := by
 refine calls_J 29 (blkR b 69 [.string q.1, .int .i64 q.2]).fp Try.func45 rfl rfl [] [] [blkR b 69 [.string q.1, .int .i64 q.2]] [.v (.pointer (some (⟨b, 0, none⟩ : Addr)))] [.pointer (some (⟨b, 0, none⟩ : Addr))] rfl rfl (WS.start1 w _ hb (by simp [blkR]) (blkR_lt hb)) ?_
 refine Cs (Cg (Jq 1 [0] 0 ⟨[(0, .v (.pointer (some (⟨b, 0, none⟩ : Addr))))], []⟩ (Ln (Qn (Cs (Cs (Cg (Jr 5 [(3, .ext [.int .i64 q.2])] [10, 0] 0 ⟨[(10, vB (!(decide (q.2 = 0)))), (0, .v (.pointer (some (⟨b, 0, none⟩ : Addr))))], []⟩ [] [((⟨b, 0, none⟩ : Addr).add 1, [.int .i64 q.2])] (by kernel_rfl) on (fun w hk hr => ⟨(blkR_fld (hr _ (.head _)) 1 1 rfl), trivial⟩) (Ln (Qn ?_))))))))))
 cases h1 : decide (q.2 = 0) with
 | true =>
  have h1 := of_decide_eq_true h1
  refine Ci false rfl (Ck (Qn (Cs (Cg (Jr 4 [(3, .ext [.string q.1])] [15, 0] 0 ⟨[(15, vS q.1), (0, .v (.pointer (some (⟨b, 0, none⟩ : Addr))))], []⟩ [] [((⟨b, 0, none⟩ : Addr).add 0, [.string q.1])] (by kernel_rfl) on (fun w hk hr => ⟨(blkR_fld (hr _ (.head _)) 0 1 rfl), trivial⟩) (Lp 70 [] [vS q.1] (.tuple #[.string (mTell q.1).1, .string (mTell q.1).2.1, .int .i64 (mTell q.1).2.2]) Try.call70 rfl rfl rfl rfl (fun bs w hS => ref_TextOf _ w hz) (Jq 7 [5, 4, 3, 0] 0 ⟨[(5, vI (mTell q.1).2.2), (4, vS (mTell q.1).2.1), (3, vS (mTell q.1).1), (0, .v (.pointer (some (⟨b, 0, none⟩ : Addr))))], []⟩ (Ln (Qn (Cs (Cg (Jq 4 [23, 21, 5, 3, 0] 0 ⟨[(23, .v (.pointer (some ((⟨b, 0, none⟩ : Addr).add 0)))), (21, vS (mTell q.1).2.1), (5, vI (mTell q.1).2.2), (3, vS (mTell q.1).1), (0, .v (.pointer (some (⟨b, 0, none⟩ : Addr))))], []⟩ (l_storeB b 69 [.string q.1, .int .i64 q.2] 0 ((⟨b, 0, none⟩ : Addr).add 0) (vS (mTell q.1).2.1) [vS (mTell q.1).2.1] [.string (mTell q.1).2.1] [.string (mTell q.1).2.1, .int .i64 q.2] rfl rfl rfl rfl rfl (by kernel_rfl) (by kernel_rfl) rfl (by kernel_rfl) rfl rfl rfl (Ln (Qn (Cs (Cg (Jq 4 [27, 25, 3] 0 ⟨[(27, .v (.pointer (some ((⟨b, 0, none⟩ : Addr).add 1)))), (25, vI (mTell q.1).2.2), (3, vS (mTell q.1).1)], []⟩ (l_storeB b 69 [.string (mTell q.1).2.1, .int .i64 q.2] 1 ((⟨b, 0, none⟩ : Addr).add 1) (vI (mTell q.1).2.2) [vI (mTell q.1).2.2] [.int .i64 (mTell q.1).2.2] [.string (mTell q.1).2.1, .int .i64 (mTell q.1).2.2] rfl rfl rfl rfl rfl (by kernel_rfl) (by kernel_rfl) rfl (by kernel_rfl) rfl rfl rfl (Ln (Qn (Cs (Cg (Jq 2 [2] 0 ⟨[(2, vS (mTell q.1).1)], []⟩ (Ln (Qn (Cr (Rt (.inl rfl) [vS (mTell q.1).1] rfl (fun bs w hS => ?_)))))))))))))))))))))))))))))
  have hm : rTxt q = ((mTell q.1).1, ((mTell q.1).2.1, (mTell q.1).2.2)) := by unfold rTxt; rw [if_pos (by assumption)]
  rw [hm]
  exact ⟨(), rfl, trivial, hS.kp, hS.res _ (.head _)⟩
 | false =>
  have h1 := of_decide_eq_false h1
  refine Ci true rfl (Cs (Cg (Jq 1 [2] 0 ⟨[(2, vS emp)], []⟩ (Ln (Qn (Cr (Qr (Rt (.inl rfl) [vS emp] rfl (fun bs w hS => ?_)))))))))
  have hm : rTxt q = (emp, q) := by unfold rTxt; rw [if_neg (by assumption)]
  rw [hm]
  exact ⟨(), rfl, trivial, hS.kp, hS.res _ (.head _)⟩

theorem ear_many (q : RQ) (m : Int) (b : Nat) (w : World) (hb : (blkR b 69 [.string q.1, .int .i64 q.2]).p w) (hz : q.1.size ≤ 9223372036854775807) : Calls Try.prog 44 #[.pointer (some (⟨b, 0, none⟩ : Addr)), .int .i64 m] w fun e w' => ∃ _ : Unit, e = .returned (.int .i64 (rMany m q).1) ∧ True ∧ Kp [b] w w' ∧ (blkR b 69 [.string (rMany m q).2.1, .int .i64 (rMany m q).2.2]).p w' := by
 refine calls_J 27 (blkR b 69 [.string q.1, .int .i64 q.2]).fp Try.func44 rfl rfl [] [] [blkR b 69 [.string q.1, .int .i64 q.2]] [.v (.pointer (some (⟨b, 0, none⟩ : Addr))), vI m] [.pointer (some (⟨b, 0, none⟩ : Addr)), .int .i64 m] rfl rfl (WS.start1 w _ hb (by simp [blkR]) (blkR_lt hb)) ?_
 refine Cs (Cg (Jq 1 [0, 1] 0 ⟨[(0, .v (.pointer (some (⟨b, 0, none⟩ : Addr)))), (1, vI m)], []⟩ (Ln (Qn (Cs (Cg (Jq 1 [6, 0, 1] 0 ⟨[(6, .v (.pointer (some (⟨b, 0, none⟩ : Addr)))), (0, .v (.pointer (some (⟨b, 0, none⟩ : Addr)))), (1, vI m)], []⟩ (l_turn (σ := Unit) 43 [] [.v (.pointer (some (⟨b, 0, none⟩ : Addr)))] (fun _ => .int .i64 (rNum q).1) (fun _ => True) (fun _ => blkR b 69 [.string (rNum q).2.1, .int .i64 (rNum q).2.2]) Try.call43 rfl rfl rfl rfl (fun bs w hS => (ear_num q b w (hS.res _ (.head _)) hz).mono (fun e w' ⟨y, h1, h2, h3, h4⟩ => ⟨y, h1, h2, h3, h4, (by simp [blkR]), fun x hx => .inl hx⟩)) ?_))))))))
 rintro y _
 refine Jq 1 [5, 0, 1] 0 ⟨[(5, vI (rNum q).1), (0, .v (.pointer (some (⟨b, 0, none⟩ : Addr)))), (1, vI m)], []⟩ (Ln (Qn (Cs (Cs (Cg (Jr 6 [(3, .ext [.int .i64 (rNum q).2.2])] [13, 5, 0, 1] 0 ⟨[(13, vB (decide ((rNum q).2.2 = 0))), (5, vI (rNum q).1), (0, .v (.pointer (some (⟨b, 0, none⟩ : Addr)))), (1, vI m)], []⟩ [] [((⟨b, 0, none⟩ : Addr).add 1, [.int .i64 (rNum q).2.2])] (by kernel_rfl) on (fun w hk hr => ⟨(blkR_fld (hr _ (.head _)) 1 1 rfl), trivial⟩) ?_))))))
 cases h1 : decide ((rNum q).2.2 = 0) with
 | true =>
  have h1 := of_decide_eq_true h1
  refine Jq 4 [17, 5, 0] 0 ⟨[(17, vB (decide (m < (rNum q).1))), (5, vI (rNum q).1), (0, .v (.pointer (some (⟨b, 0, none⟩ : Addr))))], []⟩ (Ln (Qn ?_))
  cases h2 : decide (m < (rNum q).1) with
  | true =>
   have h2 := of_decide_eq_true h2
   refine Ci true rfl (Cg (Jq 3 [20, 5, 0] 0 ⟨[(20, .v (.pointer (some ((⟨b, 0, none⟩ : Addr).add 1)))), (5, vI (rNum q).1), (0, .v (.pointer (some (⟨b, 0, none⟩ : Addr))))], []⟩ (l_storeB b 69 [.string (rNum q).2.1, .int .i64 (rNum q).2.2] 1 ((⟨b, 0, none⟩ : Addr).add 1) (vI 1) [vI 1] [.int .i64 1] [.string (rNum q).2.1, .int .i64 1] rfl rfl rfl rfl rfl (by kernel_rfl) (by kernel_rfl) rfl (by kernel_rfl) rfl rfl rfl (Ln (Qn (Cs (Cs (Cg (Jr 5 [(3, .ext [.int .i64 1])] [25, 5] 0 ⟨[(25, vB true), (5, vI (rNum q).1)], []⟩ [] [((⟨b, 0, none⟩ : Addr).add 1, [.int .i64 1])] (by kernel_rfl) on (fun w hk hr => ⟨(blkR_fld (hr _ (.head _)) 1 1 rfl), trivial⟩) (Ln (Qn (Ci true rfl (Cs (Cg (Jq 1 [4] 0 ⟨[(4, vI 0)], []⟩ (Ln (Qn (Cr (Qr (Rt (.inl rfl) [vI 0] rfl (fun bs w hS => ?_)))))))))))))))))))))
   have hm : rMany m q = (0, ((rNum q).2.1, 1)) := by unfold rMany; rw [if_pos (by assumption), if_pos (by assumption)]
   rw [hm]
   exact ⟨(), rfl, trivial, hS.kp, hS.res _ (.head _)⟩
  | false =>
   have h2 := of_decide_eq_false h2
   refine Ci false rfl (Ck (Qn (Cs (Cs (Cg (Jr 5 [(3, .ext [.int .i64 (rNum q).2.2])] [25, 5] 0 ⟨[(25, vB (!(decide ((rNum q).2.2 = 0)))), (5, vI (rNum q).1)], []⟩ [] [((⟨b, 0, none⟩ : Addr).add 1, [.int .i64 (rNum q).2.2])] (by kernel_rfl) on (fun w hk hr => ⟨(blkR_fld (hr _ (.head _)) 1 1 rfl), trivial⟩) (Ln (Qn ?_))))))))
   cases h3 : decide ((rNum q).2.2 = 0) with
   | true =>
    have h3 := of_decide_eq_true h3
    refine Ci false rfl (Ck (Qn (Cs (Cg (Jq 2 [4] 0 ⟨[(4, vI (rNum q).1)], []⟩ (Ln (Qn (Cr (Rt (.inl rfl) [vI (rNum q).1] rfl (fun bs w hS => ?_))))))))))
    have hm : rMany m q = rNum q := by unfold rMany; rw [if_pos (by assumption), if_neg (by assumption)]
    rw [hm]
    exact ⟨(), rfl, trivial, hS.kp, hS.res _ (.head _)⟩
   | false =>
    have h3 := of_decide_eq_false h3
    exact absurd h1 h3
 | false =>
  have h1 := of_decide_eq_false h1
  refine Jq 4 [17, 5, 0] 0 ⟨[(17, vB false), (5, vI (rNum q).1), (0, .v (.pointer (some (⟨b, 0, none⟩ : Addr))))], []⟩ (Ln (Qn (Ci false rfl (Ck (Qn (Cs (Cs (Cg (Jr 5 [(3, .ext [.int .i64 (rNum q).2.2])] [25, 5] 0 ⟨[(25, vB (!(decide ((rNum q).2.2 = 0)))), (5, vI (rNum q).1)], []⟩ [] [((⟨b, 0, none⟩ : Addr).add 1, [.int .i64 (rNum q).2.2])] (by kernel_rfl) on (fun w hk hr => ⟨(blkR_fld (hr _ (.head _)) 1 1 rfl), trivial⟩) (Ln (Qn ?_)))))))))))
  cases h4 : decide ((rNum q).2.2 = 0) with
  | true =>
   have h4 := of_decide_eq_true h4
   exact absurd h4 h1
  | false =>
   have h4 := of_decide_eq_false h4
   refine Ci true rfl (Cs (Cg (Jq 1 [4] 0 ⟨[(4, vI 0)], []⟩ (Ln (Qn (Cr (Qr (Rt (.inl rfl) [vI 0] rfl (fun bs w hS => ?_)))))))))
   have hm : rMany m q = (0, (rNum q).2) := by unfold rMany; rw [if_neg (by assumption)]
   rw [hm]
   exact ⟨(), rfl, trivial, hS.kp, hS.res _ (.head _)⟩

end Go.Proofs.Ytececkgjacccmae.W
