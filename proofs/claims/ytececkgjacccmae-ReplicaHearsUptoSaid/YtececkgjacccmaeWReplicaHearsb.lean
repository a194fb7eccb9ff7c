/-
  The functions that the law ReplicaHears reaches, walked: each returns what its model says.
  Conditions: those that each theorem states.
-/
import Derived.Test.YtececkgjacccmaeWReplicaHearsa
set_option linter.unusedVariables false
set_option linter.unusedSimpArgs false
set_option maxRecDepth 100000
namespace Go.Proofs.Ytececkgjacccmae.W
open Go.Proofs.Ytececkgjacccmae.Fw Go.RowKit

theorem idx_ints {B : Nat → Prop} (s : Sl Int) (k : Nat) (n : Int) (w : World) (hs : s.rd B w) (hk : k ≤ s.n) : Calls Try.prog 99 #[.slice s.A k s.c, .int .i64 n] w fun e w' => e = .returned (.int .i64 (mIdx (fun z => decide (z = n)) (s.xs.take k))) ∧ Kp [] w w' := by
 have oks := Sl.rd.ok hs
 have ncs := Sl.ok.nc oks
 have hns : s.n = s.xs.length := rfl
 refine calls_J0 19 Try.func99 rfl rfl [.slice s.A k s.c, .int .i64 n] rfl ?_
 refine Cs (Cg (Jq 1 [0, 1] 0 ⟨[(0, .v (.slice s.A k s.c)), (1, vI n)], []⟩ (Ln (Qn (Cs (Cs (Cg (Jq 3 [8, 7, 0, 1] 0 ⟨[(8, vI 0), (7, vI (k : Int)), (0, .v (.slice s.A k s.c)), (1, vI n)], []⟩ (Ln (Qn (Cb (Cl (σ := Nat) (fun i => i ≤ k ∧ ∀ j, j < i → decide (s.at j = n) = false) (fun i => k - i) (fun i => []) (fun i => ⟨[(8, vI (i : Int)), (7, vI (k : Int)), (0, .v (.slice s.A k s.c)), (1, vI n)], []⟩) 0 ⟨Nat.zero_le _, fun j hj => absurd hj (Nat.not_lt_zero _)⟩ (Ss [8, 7, 0, 1] 0 (by kernel_rfl) rfl) ?_))))))))))))
 rintro i ⟨hi, hI⟩
 refine Cs (Cg (Jq 1 [9, 8, 7, 0, 1] 0 ⟨[(9, vB (decide ((i : Int) < (k : Int)))), (8, vI (i : Int)), (7, vI (k : Int)), (0, .v (.slice s.A k s.c)), (1, vI n)], []⟩ (Ln (Qn (Cs ?_)))))
 cases h1 : decide ((i : Int) < (k : Int)) with
 | true =>
  have h1 := of_decide_eq_true h1
  refine Ci true rfl (Ck (Qn (Cs (Cb (Cs (Cg (Jq 2 [5, 8, 7, 0, 1] 0 ⟨[(5, vI (i : Int)), (8, vI (i : Int)), (7, vI (k : Int)), (0, .v (.slice s.A k s.c)), (1, vI n)], []⟩ (Ln (Qn (Cs (Cg (Jr 6 [(3, .idx s.ad i), (4, .ext [.int .i64 (s.at i)])] [16, 5, 8, 7, 0, 1] 0 ⟨[(16, vB (decide (n = (s.at i)))), (5, vI (i : Int)), (8, vI (i : Int)), (7, vI (k : Int)), (0, .v (.slice s.A k s.c)), (1, vI n)], []⟩ [s.A = some s.ad, (i : Int) = (i : Int), i < k] [(s.ad.add (i * 1), [.int .i64 (s.at i)])] (by kernel_rfl) (oc (Sl.ok.own (s := s) (i := i) oks (by omega)) (oc rfl (oc (by omega) on))) (fun w hk hr => ⟨(Sl.rd.all (s := s) (i := i) (Sl.rd.kp hs hk) (by omega) rfl), trivial⟩) (Ln (Qn ?_))))))))))))))
  cases h2 : decide (n = (s.at i)) with
  | true =>
   have h2 := of_decide_eq_true h2
   refine Ci true rfl (Cs (Cg (Jq 2 [4] 0 ⟨[(4, vI (i : Int))], []⟩ (Ln (Qn (Cr (Qb (Qr (Qr (Qb (Qr (Rt (.inl rfl) [vI (i : Int)] rfl (fun bs w hS => (⟨?_, hS.kp⟩))))))))))))))
   rw [mIdxT_here (i := i) hk (by omega) (decide_eq_true (by omega)) hI]
   rfl
  | false =>
   have h2 := of_decide_eq_false h2
   refine Ci false rfl (Ck (q_block_normal (Qn (Cg (Jr 2 [] [8, 7, 0, 1] 0 ⟨[(8, vI ((i : Int) + 1)), (7, vI (k : Int)), (0, .v (.slice s.A k s.c)), (1, vI n)], []⟩ [inR ((i : Int) + 1)] [] (by kernel_rfl) (oc (by unfold inR; omega) on) wn (Ln (Ql (x := (i : Nat)) ((i + 1) : Nat) ⟨by omega, fun j hj => by rcases Nat.lt_succ_iff_lt_or_eq.1 hj with h | h; exact hI j h; subst h; exact decide_eq_false (fun e => by omega)⟩ (by omega) (Ss [8, 7, 0, 1] 0 (by kernel_rfl) rfl))))))))
 | false =>
  have h1 := of_decide_eq_false h1
  refine Ci false rfl (c_exit (Qe (Qe (Qh (Qn (Cs (Cg (Jq 1 [4] 0 ⟨[(4, vI (-1))], []⟩ (Ln (Qn (Cr (Rt (.inl rfl) [vI (-1)] rfl (fun bs w hS => (⟨?_, hS.kp⟩))))))))))))))
  rw [mIdxT_none hk fun j hj => hI j (by omega)]
  rfl

theorem has_ints {B : Nat → Prop} (s : Sl Int) (k : Nat) (n : Int) (w : World) (hs : s.rd B w) (hk : k ≤ s.n) : Calls Try.prog 97 #[.slice s.A k s.c, .int .i64 n] w fun e w' => e = .returned (.bool ((s.xs.take k).any fun z => decide (z = n))) ∧ Kp [] w w' := by
 have oks := Sl.rd.ok hs
 have ncs := Sl.ok.nc oks
 have hns : s.n = s.xs.length := rfl
 refine calls_J0 9 Try.func97 rfl rfl [.slice s.A k s.c, .int .i64 n] rfl ?_
 refine Cs (Cg (Jq 1 [0, 1] 0 ⟨[(0, .v (.slice s.A k s.c)), (1, vI n)], []⟩ (Ln (Qn (Cs (Cg (Jq 2 [6, 5] 0 ⟨[(6, vI n), (5, .v (.slice s.A k s.c))], []⟩ (Lp 99 [] [.v (.slice s.A k s.c), vI n] (.int .i64 (mIdx (fun z => decide (z = n)) (s.xs.take k))) Try.call99 rfl rfl rfl rfl (fun bs w hS => idx_ints s k n w (Sl.rd.kp hs hS.kp) (by omega)) (Jq 2 [4] 0 ⟨[(4, vB (decide ((0 : Int) ≤ mIdx (fun z => decide (z = n)) (s.xs.take k))))], []⟩ (Ln (Qn (Cr (Rt (.inl rfl) [vB (decide ((0 : Int) ≤ mIdx (fun z => decide (z = n)) (s.xs.take k)))] rfl (fun bs w hS => (⟨?_, hS.kp⟩)))))))))))))))
 simp only [retOf, den, List.map_cons, List.map_nil, mIdx_nonneg]

theorem ref_has {B : Nat → Prop} (s : Sl Int) (k : Nat) (n : Int) (w : World) (hs : s.rd B w) (hk : k ≤ s.n) : Calls Try.prog 90 #[.slice s.A k s.c, .int .i64 n] w fun e w' => e = .returned (.bool ((s.xs.take k).any fun z => decide (z = n))) ∧ Kp [] w w' := by
 have oks := Sl.rd.ok hs
 have ncs := Sl.ok.nc oks
 have hns : s.n = s.xs.length := rfl
 refine calls_J0 18 Try.func90 rfl rfl [.slice s.A k s.c, .int .i64 n] rfl ?_
 refine Cs (Cg (Jq 1 [0, 1] 0 ⟨[(0, .v (.slice s.A k s.c)), (1, vI n)], []⟩ (Ln (Qn (Cs (Cs (Cg (Jq 1 [5, 0, 1] 0 ⟨[(5, vI 0), (0, .v (.slice s.A k s.c)), (1, vI n)], []⟩ (Ln (Qn (Cb (Cl (σ := Nat) (fun i => i ≤ k ∧ ∀ j, j < i → ¬ s.at j = n) (fun i => k - i) (fun i => []) (fun i => ⟨[(5, vI (i : Int)), (0, .v (.slice s.A k s.c)), (1, vI n)], []⟩) 0 ⟨Nat.zero_le _, fun j hj => absurd hj (Nat.not_lt_zero _)⟩ (Ss [5, 0, 1] 0 (by kernel_rfl) rfl) ?_))))))))))))
 rintro i ⟨hi, hI⟩
 refine Cs (Cs (Cg (Jq 4 [9, 5, 0, 1] 0 ⟨[(9, vB (decide ((i : Int) < (k : Int)))), (5, vI (i : Int)), (0, .v (.slice s.A k s.c)), (1, vI n)], []⟩ (Ln (Qn ?_)))))
 cases h1 : decide ((i : Int) < (k : Int)) with
 | true =>
  have h1 := of_decide_eq_true h1
  refine Ci true rfl (Ck (Qn (Cs (Cb (Cs (Cg (Jr 6 [(2, .idx s.ad i), (3, .ext [.int .i64 (s.at i)])] [17, 5, 0, 1] 0 ⟨[(17, vB (decide ((s.at i) = n))), (5, vI (i : Int)), (0, .v (.slice s.A k s.c)), (1, vI n)], []⟩ [s.A = some s.ad, (i : Int) = (i : Int), i < k] [(s.ad.add (i * 1), [.int .i64 (s.at i)])] (by kernel_rfl) (oc (Sl.ok.own (s := s) (i := i) oks (by omega)) (oc rfl (oc (by omega) on))) (fun w hk hr => ⟨(Sl.rd.all (s := s) (i := i) (Sl.rd.kp hs hk) (by omega) rfl), trivial⟩) (Ln (Qn ?_)))))))))
  cases h2 : decide ((s.at i) = n) with
  | true =>
   have h2 := of_decide_eq_true h2
   refine Ci true rfl (Cs (Cg (Jq 1 [4] 0 ⟨[(4, vB true)], []⟩ (Ln (Qn (Cr (Qb (Qr (Qr (Qb (Qr (Rt (.inl rfl) [vB true] rfl (fun bs w hS => (⟨?_, hS.kp⟩))))))))))))))
   rw [any_here (j := i) hk (by omega) (by assumption)]
   rfl
  | false =>
   have h2 := of_decide_eq_false h2
   refine Ci false rfl (Ck (q_block_normal (Qn (Cg (Jr 3 [] [5, 0, 1] 0 ⟨[(5, vI ((i : Int) + 1)), (0, .v (.slice s.A k s.c)), (1, vI n)], []⟩ [inR ((i : Int) + 1)] [] (by kernel_rfl) (oc (by unfold inR; omega) on) wn (Ln (Ql (x := (i : Nat)) ((i + 1) : Nat) ⟨by omega, fun j hj => by rcases Nat.lt_succ_iff_lt_or_eq.1 hj with h | h; exact hI j h; subst h; assumption⟩ (by omega) (Ss [5, 0, 1] 0 (by kernel_rfl) rfl))))))))
 | false =>
  have h1 := of_decide_eq_false h1
  refine Ci false rfl (c_exit (Qe (Qe (Qh (Qn (Cs (Cg (Jq 1 [4] 0 ⟨[(4, vB false)], []⟩ (Ln (Qn (Cr (Rt (.inl rfl) [vB false] rfl (fun bs w hS => (⟨?_, hS.kp⟩))))))))))))))
  rw [any_none hk fun j hj => hI j (by omega)]
  rfl

theorem lock_line {B : Nat → Prop} (x : CLock) (w : World) (hx : Rds.sub B w x) : Calls Try.prog 85 #[.agg #[.string x.name, .int .i64 x.holder, .int .i64 x.fence, .slice x.line.A x.line.n x.line.c]] w fun e w' => e = .returned (.bool (lineOk x.abs)) ∧ Kp [] w w' := by
 have okx := Rds.okof hx
 have ncx := Sl.ok.nc okx.2
 have hnx : x.line.n = x.line.xs.length := rfl
 have hll : x.abs.line.length = x.line.n := rfl
 have hho : x.abs.holder = x.holder := rfl
 have hp : ∀ q, posOk x.abs q = (inB (x.line.at q) 1 9 && (!decide (x.line.at q = x.holder) && !((x.line.xs.take q).any fun z => decide (z = x.line.at q)))) := fun _ => rfl
 refine calls_J0 46 Try.func85 rfl rfl [.agg #[.string x.name, .int .i64 x.holder, .int .i64 x.fence, .slice x.line.A x.line.n x.line.c]] rfl ?_
 refine Cs (Cg (Jq 2 [1] 1 ⟨[(1, .p 0 0)], [⟨74, x.cs⟩]⟩ (Ln (Qn (Cs (Cs (Cg (Jq 4 [8, 7, 6, 1] 1 ⟨[(8, vI 0), (7, vI (x.line.n : Int)), (6, .v x.line.val), (1, .p 0 0)], [⟨74, x.cs⟩]⟩ (Ln (Qn (Cb (Cl (σ := Nat) (fun i => i ≤ x.line.n ∧ allTo (posOk x.abs) i = true) (fun i => x.line.n - i) (fun i => []) (fun i => ⟨[(8, vI (i : Int)), (7, vI (x.line.n : Int)), (6, .v x.line.val), (1, .p 0 0)], [⟨74, x.cs⟩]⟩) 0 ⟨Nat.zero_le _, rfl⟩ (Ss [8, 7, 6, 1] 1 (by kernel_rfl) rfl) ?_))))))))))))
 rintro i ⟨hi, hI⟩
 refine Cs (Cg (Jq 1 [9, 8, 7, 6, 1] 1 ⟨[(9, vB (decide ((i : Int) < (x.line.n : Int)))), (8, vI (i : Int)), (7, vI (x.line.n : Int)), (6, .v x.line.val), (1, .p 0 0)], [⟨74, x.cs⟩]⟩ (Ln (Qn (Cs ?_)))))
 cases h1 : decide ((i : Int) < (x.line.n : Int)) with
 | true =>
  have h1 := of_decide_eq_true h1
  refine Ci true rfl (Ck (Qn (Cs (Cb (Cs (Cg (Jr 5 [(1, .idx x.line.ad i), (2, .ext [.int .i64 (x.line.at i)])] [4, 3, 8, 7, 6, 1] 1 ⟨[(4, vI (x.line.at i)), (3, vI (i : Int)), (8, vI (i : Int)), (7, vI (x.line.n : Int)), (6, .v x.line.val), (1, .p 0 0)], [⟨74, x.cs⟩]⟩ [x.line.A = some x.line.ad, (i : Int) = (i : Int), i < x.line.n] [(x.line.ad.add (i * 1), [.int .i64 (x.line.at i)])] (by kernel_rfl) (oc (Sl.ok.own (s := x.line) (i := i) (And.right okx) (by omega)) (oc rfl (oc (by omega) on))) (fun w hk hr => ⟨(Sl.rd.all (s := x.line) (i := i) (And.right (Rds.kp hx hk)) (by omega) rfl), trivial⟩) (Ln (Qn (Cs (Cg (Jq 1 [13, 4, 3, 8, 7, 6, 1] 1 ⟨[(13, vI (x.line.at i)), (4, vI (x.line.at i)), (3, vI (i : Int)), (8, vI (i : Int)), (7, vI (x.line.n : Int)), (6, .v x.line.val), (1, .p 0 0)], [⟨74, x.cs⟩]⟩ (Lp 84 [] [vI (x.line.at i)] (.bool (inB (x.line.at i) 1 9)) Try.call84 rfl rfl rfl rfl (fun bs w hS => lock_client (x.line.at i) w) (Jq 2 [16, 4, 3, 8, 7, 6, 1] 1 ⟨[(16, vB (!(inB (x.line.at i) 1 9))), (4, vI (x.line.at i)), (3, vI (i : Int)), (8, vI (i : Int)), (7, vI (x.line.n : Int)), (6, .v x.line.val), (1, .p 0 0)], [⟨74, x.cs⟩]⟩ ?_))))))))))))))
  cases h2 : inB (x.line.at i) 1 9 with
  | true =>
   refine Jq 6 [22, 4, 3, 8, 7, 6, 1] 1 ⟨[(22, vB (decide ((x.line.at i) = x.holder))), (4, vI (x.line.at i)), (3, vI (i : Int)), (8, vI (i : Int)), (7, vI (x.line.n : Int)), (6, .v x.line.val), (1, .p 0 0)], [⟨74, x.cs⟩]⟩ ?_
   cases h3 : decide ((x.line.at i) = x.holder) with
   | true =>
    have h3 := of_decide_eq_true h3
    refine Jq 7 [29, 8, 7, 6, 1] 1 ⟨[(29, vB true), (8, vI (i : Int)), (7, vI (x.line.n : Int)), (6, .v x.line.val), (1, .p 0 0)], [⟨74, x.cs⟩]⟩ (Ln (Qn (Ci true rfl (Cs (Cg (Jq 1 [2] 0 ⟨[(2, vB false)], []⟩ (Ln (Qn (Cr (Qb (Qr (Qr (Qb (Qr (Rt (.inl rfl) [vB false] rfl (fun bs w hS => (⟨?_, hS.kp⟩)))))))))))))))))
    have hb : posOk x.abs i = false := by rw [hp]; simp [h1, h2, h3]
    have hm : lineOk x.abs = false := by unfold lineOk; rw [allTo_bad hb (show i < x.abs.line.length by rw [hll]; omega)]; rfl
    rw [hm]
    rfl
   | false =>
    have h3 := of_decide_eq_false h3
    refine Jr 5 [(3, .sl 0 i)] [27, 26, 22, 8, 7, 6, 1] 1 ⟨[(27, vI (x.line.at i)), (26, .v (.slice x.line.A i x.line.c)), (22, vB false), (8, vI (i : Int)), (7, vI (x.line.n : Int)), (6, .v x.line.val), (1, .p 0 0)], [⟨74, x.cs⟩]⟩ [0 = 0, (i : Int) = (i : Int), i ≤ x.line.c] [] (by kernel_rfl) (oc rfl (oc rfl (oc (by omega) on))) wn ?_
    refine Lp 97 [] [.v (.slice x.line.A i x.line.c), vI (x.line.at i)] (.bool ((x.line.xs.take i).any fun z => decide (z = (x.line.at i)))) Try.call97 rfl rfl rfl rfl (fun bs w hS => has_ints x.line i (x.line.at i) w (And.right (Rds.kp hx hS.kp)) (by omega)) ?_
    refine Jq 1 [29, 8, 7, 6, 1] 1 ⟨[(29, vB ((x.line.xs.take i).any fun z => decide (z = (x.line.at i)))), (8, vI (i : Int)), (7, vI (x.line.n : Int)), (6, .v x.line.val), (1, .p 0 0)], [⟨74, x.cs⟩]⟩ (Ln (Qn ?_))
    cases h4 : (x.line.xs.take i).any fun z => decide (z = (x.line.at i)) with
    | true =>
     refine Ci true rfl (Cs (Cg (Jq 1 [2] 0 ⟨[(2, vB false)], []⟩ (Ln (Qn (Cr (Qb (Qr (Qr (Qb (Qr (Rt (.inl rfl) [vB false] rfl (fun bs w hS => (⟨?_, hS.kp⟩))))))))))))))
     have hb : posOk x.abs i = false := by rw [hp]; simp [h1, h2, h3, h4]
     have hm : lineOk x.abs = false := by unfold lineOk; rw [allTo_bad hb (show i < x.abs.line.length by rw [hll]; omega)]; rfl
     rw [hm]
     rfl
    | false =>
     refine Ci false rfl (Ck (q_block_normal (Qn (Cg (Jr 2 [] [8, 7, 6, 1] 1 ⟨[(8, vI ((i : Int) + 1)), (7, vI (x.line.n : Int)), (6, .v x.line.val), (1, .p 0 0)], [⟨74, x.cs⟩]⟩ [inR ((i : Int) + 1)] [] (by kernel_rfl) (oc (by unfold inR; omega) on) wn (Ln (Ql (x := (i : Nat)) ((i + 1) : Nat) ⟨by omega, by show (allTo _ i && posOk x.abs i) = true; rw [hI, hp]; simp [*]⟩ (by omega) (Ss [8, 7, 6, 1] 1 (by kernel_rfl) rfl))))))))
  | false =>
   refine Jq 13 [29, 8, 7, 6, 1] 1 ⟨[(29, vB true), (8, vI (i : Int)), (7, vI (x.line.n : Int)), (6, .v x.line.val), (1, .p 0 0)], [⟨74, x.cs⟩]⟩ (Ln (Qn (Ci true rfl (Cs (Cg (Jq 1 [2] 0 ⟨[(2, vB false)], []⟩ (Ln (Qn (Cr (Qb (Qr (Qr (Qb (Qr (Rt (.inl rfl) [vB false] rfl (fun bs w hS => (⟨?_, hS.kp⟩)))))))))))))))))
   have hb : posOk x.abs i = false := by rw [hp]; simp [h1, h2]
   have hm : lineOk x.abs = false := by unfold lineOk; rw [allTo_bad hb (show i < x.abs.line.length by rw [hll]; omega)]; rfl
   rw [hm]
   rfl
 | false =>
  have h1 := of_decide_eq_false h1
  refine Ci false rfl (c_exit (Qe (Qe (Qh (Qn (Cs (Cg (Jq 5 [35, 1] 1 ⟨[(35, vB (decide ((x.line.n : Int) ≤ 3))), (1, .p 0 0)], [⟨74, x.cs⟩]⟩ ?_))))))))
  cases h5 : decide ((x.line.n : Int) ≤ 3) with
  | true =>
   have h5 := of_decide_eq_true h5
   refine Jq 4 [39, 35, 1] 1 ⟨[(39, vB (!(decide (x.holder = 0)))), (35, vB true), (1, .p 0 0)], [⟨74, x.cs⟩]⟩ ?_
   cases h6 : decide (x.holder = 0) with
   | true =>
    have h6 := of_decide_eq_true h6
    refine Jq 7 [2] 0 ⟨[(2, vB (decide ((x.line.n : Int) = 0)))], []⟩ (Ln (Qn (Cr (Rt (.inl rfl) [vB (decide ((x.line.n : Int) = 0))] rfl (fun bs w hS => (⟨?_, hS.kp⟩))))))
    have hall : allTo (posOk x.abs) x.line.n = true := by rw [show x.line.n = i by omega]; exact hI
    have hm : lineOk x.abs = (decide ((x.line.n : Int) = 0)) := by
     rw [Bool.eq_iff_iff]
     simp only [lineOk, hll, hho, hall, Bool.true_and, Bool.and_eq_true, Bool.or_eq_true, Bool.not_eq_true', decide_eq_true_eq, decide_eq_false_iff_not, Bool.false_eq_true, iff_true, iff_false]
     omega
    rw [hm]
    rfl
   | false =>
    have h6 := of_decide_eq_false h6
    refine Jq 7 [2] 0 ⟨[(2, vB true)], []⟩ (Ln (Qn (Cr (Rt (.inl rfl) [vB true] rfl (fun bs w hS => (⟨?_, hS.kp⟩))))))
    have hall : allTo (posOk x.abs) x.line.n = true := by rw [show x.line.n = i by omega]; exact hI
    have hm : lineOk x.abs = (true) := by
     rw [Bool.eq_iff_iff]
     simp only [lineOk, hll, hho, hall, Bool.true_and, Bool.and_eq_true, Bool.or_eq_true, Bool.not_eq_true', decide_eq_true_eq, decide_eq_false_iff_not, Bool.false_eq_true, iff_true, iff_false]
     omega
    rw [hm]
    rfl
  | false =>
   have h5 := of_decide_eq_false h5
   refine Jq 11 [2] 0 ⟨[(2, vB false)], []⟩ (Ln (Qn (Cr (Rt (.inl rfl) [vB false] rfl (fun bs w hS => (⟨?_, hS.kp⟩))))))
   have hall : allTo (posOk x.abs) x.line.n = true := by rw [show x.line.n = i by omega]; exact hI
   have hm : lineOk x.abs = (false) := by
    rw [Bool.eq_iff_iff]
    simp only [lineOk, hll, hho, hall, Bool.true_and, Bool.and_eq_true, Bool.or_eq_true, Bool.not_eq_true', decide_eq_true_eq, decide_eq_false_iff_not, Bool.false_eq_true, iff_true, iff_false]
    omega
   rw [hm]
   rfl

theorem lock_Check {B : Nat → Prop} (s : Sl CLock) (w : World) (hs : s.rd B w) : Calls Try.prog 59 #[.slice s.A s.n s.c] w fun e w' => e = .returned (.int .i64 (mLocks (s.xs.map CLock.abs))) ∧ Kp [] w w' := by
 have oks := Sl.rd.ok hs
 have ncs := Sl.ok.nc oks
 have hns : s.n = s.xs.length := rfl
 have hat : ∀ q, (s.xs.map CLock.abs).getD q default = (s.at q).abs := fun q => abs_at q
 have hq1 : ∀ q, (s.at q).abs.name = (s.at q).name := fun _ => rfl
 have hq2 : ∀ q, (s.at q).abs.holder = (s.at q).holder := fun _ => rfl
 have hq3 : ∀ q, (s.at q).abs.fence = (s.at q).fence := fun _ => rfl
 have hml : (s.xs.map CLock.abs).length = s.n := by simp
 refine calls_J0 57 Try.func59 rfl rfl [.slice s.A s.n s.c] rfl ?_
 refine Cs (Cg (Jq 1 [0] 0 ⟨[(0, .v s.val)], []⟩ (Ln (Qn (Cs (Cs (Cg (Jq 3 [7, 0] 0 ⟨[(7, vB (decide ((5 : Int) < (s.n : Int)))), (0, .v s.val)], []⟩ (Ln (Qn ?_))))))))))
 cases h1 : decide ((5 : Int) < (s.n : Int)) with
 | true =>
  have h1 := of_decide_eq_true h1
  refine Ci true rfl (Cs (Cg (Jq 1 [2] 0 ⟨[(2, vI 1)], []⟩ (Ln (Qn (Cr (Qr (Rt (.inl rfl) [vI 1] rfl (fun bs w hS => (⟨?_, hS.kp⟩))))))))))
  simp only [retOf, den, List.map_cons, List.map_nil]
  have hm : mLocks (s.xs.map CLock.abs) = 1 := by
   unfold mLocks; rw [hml, if_pos (by omega)]
  rw [hm]
 | false =>
  have h1 := of_decide_eq_false h1
  refine Ci false rfl (Ck (Qn (Cs (Cs (Cg (Jq 3 [10, 9, 8, 0] 0 ⟨[(10, vI 0), (9, vI (s.n : Int)), (8, .v s.val), (0, .v s.val)], []⟩ (Ln (Qn (Cb (Cl (σ := Nat) (fun i => i ≤ s.n ∧ mLocks (s.xs.map CLock.abs) = firstF (lockF (s.xs.map CLock.abs)) (s.n - i) i) (fun i => s.n - i) (fun i => []) (fun i => ⟨[(10, vI (i : Int)), (9, vI (s.n : Int)), (8, .v s.val), (0, .v s.val)], []⟩) 0 ⟨Nat.zero_le _, by unfold mLocks; rw [hml, if_neg (by omega)]⟩ (Ss [10, 9, 8, 0] 0 (by kernel_rfl) rfl) ?_))))))))))
  rintro i ⟨hi, hI⟩
  refine Cs (Cg (Jq 1 [11, 10, 9, 8, 0] 0 ⟨[(11, vB (decide ((i : Int) < (s.n : Int)))), (10, vI (i : Int)), (9, vI (s.n : Int)), (8, .v s.val), (0, .v s.val)], []⟩ (Ln (Qn (Cs ?_)))))
  cases h2 : decide ((i : Int) < (s.n : Int)) with
  | true =>
   have h2 := of_decide_eq_true h2
   refine Ci true rfl (Ck (Qn (Cs (Cb (Cs (Cg (Jr 6 [(1, .idx s.ad i), (2, .ext [.string (s.at i).name, .int .i64 (s.at i).holder, .int .i64 (s.at i).fence, .slice (s.at i).line.A (s.at i).line.n (s.at i).line.c])] [3, 4, 10, 9, 8, 0] 1 ⟨[(3, vI (i : Int)), (4, .p 0 0), (10, vI (i : Int)), (9, vI (s.n : Int)), (8, .v s.val), (0, .v s.val)], [⟨74, (s.at i).cs⟩]⟩ [s.A = some s.ad, (i : Int) = (i : Int), i < s.n] [(s.ad.add (i * 4), [.string (s.at i).name, .int .i64 (s.at i).holder, .int .i64 (s.at i).fence, .slice (s.at i).line.A (s.at i).line.n (s.at i).line.c])] (by kernel_rfl) (oc (Sl.ok.own (s := s) (i := i) oks (by omega)) (oc rfl (oc (by omega) on))) (fun w hk hr => ⟨(Sl.rd.all (s := s) (i := i) (Sl.rd.kp hs hk) (by omega) rfl), trivial⟩) (Ln (Qn (Cs (Cs (Cg (Jq 2 [16, 3, 4, 10, 9, 8, 0] 1 ⟨[(16, vS (s.at i).name), (3, vI (i : Int)), (4, .p 0 0), (10, vI (i : Int)), (9, vI (s.n : Int)), (8, .v s.val), (0, .v s.val)], [⟨74, (s.at i).cs⟩]⟩ (Lp 83 [] [vS (s.at i).name] (.bool (mName (s.at i).name)) Try.call83 rfl rfl rfl rfl (fun bs w hS => lock_Name _ w (And.left (Sl.ok.at (s := s) (i := i) oks (by omega)))) (Jq 2 [19, 3, 4, 10, 9, 8, 0] 1 ⟨[(19, vB (!(mName (s.at i).name))), (3, vI (i : Int)), (4, .p 0 0), (10, vI (i : Int)), (9, vI (s.n : Int)), (8, .v s.val), (0, .v s.val)], [⟨74, (s.at i).cs⟩]⟩ ?_)))))))))))))))
   cases h3 : mName (s.at i).name with
   | true =>
    refine Jq 4 [23, 19, 3, 4, 10, 9, 8, 0] 1 ⟨[(23, vB (!(decide ((s.at i).holder = 0)))), (19, vB false), (3, vI (i : Int)), (4, .p 0 0), (10, vI (i : Int)), (9, vI (s.n : Int)), (8, .v s.val), (0, .v s.val)], [⟨74, (s.at i).cs⟩]⟩ ?_
    cases h4 : decide ((s.at i).holder = 0) with
    | true =>
     have h4 := of_decide_eq_true h4
     refine Jq 8 [31, 30, 3, 4, 10, 9, 8, 0] 1 ⟨[(31, .v (s.at i).val), (30, vB false), (3, vI (i : Int)), (4, .p 0 0), (10, vI (i : Int)), (9, vI (s.n : Int)), (8, .v s.val), (0, .v s.val)], [⟨74, (s.at i).cs⟩]⟩ (Lp 85 [] [.v (s.at i).val] (.bool (lineOk (s.at i).abs)) Try.call85 rfl rfl rfl rfl (fun bs w hS => lock_line (s.at i) w (Sl.rd.sub (s := s) (i := i) (Sl.rd.kp hs hS.kp) (by omega))) (Jq 2 [34, 3, 4, 10, 9, 8, 0] 1 ⟨[(34, vB (!(lineOk (s.at i).abs))), (3, vI (i : Int)), (4, .p 0 0), (10, vI (i : Int)), (9, vI (s.n : Int)), (8, .v s.val), (0, .v s.val)], [⟨74, (s.at i).cs⟩]⟩ (Ln (Qn ?_))))
     cases h5 : lineOk (s.at i).abs with
     | true =>
      refine Ci false rfl (Ck (Qn (Cs (Cs (Cg (Jq 4 [38, 3, 4, 10, 9, 8, 0] 1 ⟨[(38, vB (decide ((s.at i).fence < 1))), (3, vI (i : Int)), (4, .p 0 0), (10, vI (i : Int)), (9, vI (s.n : Int)), (8, .v s.val), (0, .v s.val)], [⟨74, (s.at i).cs⟩]⟩ ?_))))))
      cases h6 : decide ((s.at i).fence < 1) with
      | true =>
       have h6 := of_decide_eq_true h6
       refine Jq 4 [42, 3, 4, 10, 9, 8, 0] 1 ⟨[(42, vB true), (3, vI (i : Int)), (4, .p 0 0), (10, vI (i : Int)), (9, vI (s.n : Int)), (8, .v s.val), (0, .v s.val)], [⟨74, (s.at i).cs⟩]⟩ (Ln (Qn (Ci true rfl (Cs (Cg (Jq 1 [2] 0 ⟨[(2, vI 2)], []⟩ (Ln (Qn (Cr (Qr (Qb (Qr (Qr (Qb (Qr (Rt (.inl rfl) [vI 2] rfl (fun bs w hS => (⟨?_, hS.kp⟩))))))))))))))))))
       simp only [retOf, den, List.map_cons, List.map_nil]
       have hf : lockF (s.xs.map CLock.abs) i = 2 := by
        unfold lockF
        simp only [hat, hq1, hq2, hq3]
        try simp only [h1, h2, h3, h4, h5, h6, emp_size, ne_eq, not_true_eq_false, not_false_eq_true, true_or, or_true, false_or, or_false, and_true, true_and, and_false, false_and, and_self, or_self, if_true, if_false, Bool.true_eq_false, Bool.false_eq_true, reduceIte, Classical.not_not, Bool.and_eq_true, decide_eq_true_eq]
        repeat (first | rw [if_pos (by omega)] | rw [if_neg (by omega)])
        all_goals first | rfl | (exfalso; omega)
       rw [hI, firstF_here (by omega) hf (by omega)]
      | false =>
       have h6 := of_decide_eq_false h6
       refine Jq 4 [42, 3, 4, 10, 9, 8, 0] 1 ⟨[(42, vB (decide ((1073741824 : Int) < (s.at i).fence))), (3, vI (i : Int)), (4, .p 0 0), (10, vI (i : Int)), (9, vI (s.n : Int)), (8, .v s.val), (0, .v s.val)], [⟨74, (s.at i).cs⟩]⟩ (Ln (Qn ?_))
       cases h7 : decide ((1073741824 : Int) < (s.at i).fence) with
       | true =>
        have h7 := of_decide_eq_true h7
        refine Ci true rfl (Cs (Cg (Jq 1 [2] 0 ⟨[(2, vI 2)], []⟩ (Ln (Qn (Cr (Qr (Qb (Qr (Qr (Qb (Qr (Rt (.inl rfl) [vI 2] rfl (fun bs w hS => (⟨?_, hS.kp⟩)))))))))))))))
        simp only [retOf, den, List.map_cons, List.map_nil]
        have hf : lockF (s.xs.map CLock.abs) i = 2 := by
         unfold lockF
         simp only [hat, hq1, hq2, hq3]
         try simp only [h1, h2, h3, h4, h5, h6, h7, emp_size, ne_eq, not_true_eq_false, not_false_eq_true, true_or, or_true, false_or, or_false, and_true, true_and, and_false, false_and, and_self, or_self, if_true, if_false, Bool.true_eq_false, Bool.false_eq_true, reduceIte, Classical.not_not, Bool.and_eq_true, decide_eq_true_eq]
         repeat (first | rw [if_pos (by omega)] | rw [if_neg (by omega)])
         all_goals first | rfl | (exfalso; omega)
        rw [hI, firstF_here (by omega) hf (by omega)]
       | false =>
        have h7 := of_decide_eq_false h7
        refine Ci false rfl (Ck (Qn (Cs (Cd 13 [] (.p 0 (.p 1 (.p 2 (.p 3 (.p 4 (.p 5 (.p 6 (.p 7 (.q 8 (.p 9 (.q 10 (.p 11 (.p 12 .nil))))))))))))) [] [] Try_mixed (by kernel_rfl) (pq_then (pq_block (pq_then (pq_then (pq_block (pq_then pq_body)))))) .slnil (Hq [] [(0, true), (1, true), (2, true)] [(45, vB (decide ((0 : Int) < (i : Int)))), (44, vB (decide ((0 : Int) < (i : Int)))), (43, vI (i : Int)), (42, vB false), (3, vI (i : Int)), (4, .p 0 0), (10, vI (i : Int)), (9, vI (s.n : Int)), (8, .v s.val), (0, .v s.val)] [] [] rfl (by kernel_rfl) on wn ?_)))))
        cases h8 : decide ((0 : Int) < (i : Int)) with
        | true =>
         have h8 := of_decide_eq_true h8
         refine Hq [(6, .idx s.ad (i - 1)), (8, .ext [.string (s.at (i - 1)).name])] [(3, true), (4, true), (5, true), (6, true), (7, true), (8, false), (9, true), (10, false), (11, true), (12, true)] [(55, vB (!(Op.bytesLess ((s.at (i - 1)).name).toList ((s.at i).name).toList))), (54, vB (!(Op.bytesLess ((s.at (i - 1)).name).toList ((s.at i).name).toList))), (53, vS (s.at i).name), (52, .p 0 0), (51, vS (s.at (i - 1)).name), (50, .v (.pointer (some ((s.ad.add ((i - 1) * 4)).add 0)))), (49, .v (.pointer (some (s.ad.add ((i - 1) * 4))))), (48, vI ((i : Int) - 1)), (47, vI (i : Int)), (46, .v s.val), (45, vB true), (44, vB true), (43, vI (i : Int)), (42, vB false), (3, vI (i : Int)), (4, .p 0 0), (10, vI (i : Int)), (9, vI (s.n : Int)), (8, .v s.val), (0, .v s.val)] [inR ((i : Int) - 1), s.A = some s.ad, (i : Int) - 1 = (((i - 1) : Nat) : Int), (i - 1) < s.n] [((s.ad.add ((i - 1) * 4)).add 0, [.string (s.at (i - 1)).name])] rfl (by kernel_rfl) (oc (by unfold inR; omega) (oc (Sl.ok.own (s := s) (i := (i - 1)) oks (by omega)) (oc (by omega) (oc (by omega) on)))) (fun w hk hr => ⟨(Sl.rd.fld (s := s) (i := (i - 1)) (Sl.rd.kp hs hk) (by omega) 0 1 rfl), trivial⟩) ?_
         refine Hn (Ln (Qn ?_))
         cases h9 : Op.bytesLess ((s.at (i - 1)).name).toList ((s.at i).name).toList with
         | true =>
          refine Ci false rfl (Ck (q_block_normal (Qn (Cg (Jr 2 [] [10, 9, 8, 0] 0 ⟨[(10, vI ((i : Int) + 1)), (9, vI (s.n : Int)), (8, .v s.val), (0, .v s.val)], []⟩ [inR ((i : Int) + 1)] [] (by kernel_rfl) (oc (by unfold inR; omega) on) wn ?_)))))
          have hf0 : lockF (s.xs.map CLock.abs) i = 0 := by
           unfold lockF
           simp only [hat, hq1, hq2, hq3]
           try simp only [h1, h2, h3, h4, h5, h6, h7, h8, h9, emp_size, ne_eq, not_true_eq_false, not_false_eq_true, true_or, or_true, false_or, or_false, and_true, true_and, and_false, false_and, and_self, or_self, if_true, if_false, Bool.true_eq_false, Bool.false_eq_true, reduceIte, Classical.not_not, Bool.and_eq_true, decide_eq_true_eq]
           repeat (first | rw [if_pos (by omega)] | rw [if_neg (by omega)])
           all_goals first | rfl | (exfalso; omega)
          refine Ln (Ql (x := (i : Nat)) ((i + 1) : Nat) ⟨by omega, by rw [hI]; exact firstF_step (by omega) hf0⟩ (by omega) (Ss [10, 9, 8, 0] 0 (by kernel_rfl) rfl))
         | false =>
          refine Ci true rfl (Cs (Cg (Jq 1 [2] 0 ⟨[(2, vI 14)], []⟩ (Ln (Qn (Cr (Qb (Qr (Qr (Qb (Qr (Rt (.inl rfl) [vI 14] rfl (fun bs w hS => (⟨?_, hS.kp⟩))))))))))))))
          simp only [retOf, den, List.map_cons, List.map_nil]
          have hf : lockF (s.xs.map CLock.abs) i = 14 := by
           unfold lockF
           simp only [hat, hq1, hq2, hq3]
           try simp only [h1, h2, h3, h4, h5, h6, h7, h8, h9, emp_size, ne_eq, not_true_eq_false, not_false_eq_true, true_or, or_true, false_or, or_false, and_true, true_and, and_false, false_and, and_self, or_self, if_true, if_false, Bool.true_eq_false, Bool.false_eq_true, reduceIte, Classical.not_not, Bool.and_eq_true, decide_eq_true_eq]
           repeat (first | rw [if_pos (by omega)] | rw [if_neg (by omega)])
           all_goals first | rfl | (exfalso; omega)
          rw [hI, firstF_here (by omega) hf (by omega)]
        | false =>
         have h8 := of_decide_eq_false h8
         refine Hq [] [(3, true), (4, true), (5, true), (6, true), (7, true), (8, false), (9, true), (10, false), (11, true), (12, true)] [(55, vB false), (54, .v (undef)), (53, .v (undef)), (52, .v (undef)), (51, .v (undef)), (50, .v (undef)), (49, .v (undef)), (48, .v (undef)), (47, .v (undef)), (46, .v (undef)), (45, vB false), (44, vB false), (43, vI (i : Int)), (42, vB false), (3, vI (i : Int)), (4, .p 0 0), (10, vI (i : Int)), (9, vI (s.n : Int)), (8, .v s.val), (0, .v s.val)] [] [] rfl (by kernel_rfl) on wn ?_
         refine Hn (Ln (Qn (Ci false rfl (Ck (q_block_normal (Qn (Cg (Jr 2 [] [10, 9, 8, 0] 0 ⟨[(10, vI ((i : Int) + 1)), (9, vI (s.n : Int)), (8, .v s.val), (0, .v s.val)], []⟩ [inR ((i : Int) + 1)] [] (by kernel_rfl) (oc (by unfold inR; omega) on) wn ?_))))))))
         have hf0 : lockF (s.xs.map CLock.abs) i = 0 := by
          unfold lockF
          simp only [hat, hq1, hq2, hq3]
          try simp only [h1, h2, h3, h4, h5, h6, h7, h8, emp_size, ne_eq, not_true_eq_false, not_false_eq_true, true_or, or_true, false_or, or_false, and_true, true_and, and_false, false_and, and_self, or_self, if_true, if_false, Bool.true_eq_false, Bool.false_eq_true, reduceIte, Classical.not_not, Bool.and_eq_true, decide_eq_true_eq]
          repeat (first | rw [if_pos (by omega)] | rw [if_neg (by omega)])
          all_goals first | rfl | (exfalso; omega)
         refine Ln (Ql (x := (i : Nat)) ((i + 1) : Nat) ⟨by omega, by rw [hI]; exact firstF_step (by omega) hf0⟩ (by omega) (Ss [10, 9, 8, 0] 0 (by kernel_rfl) rfl))
     | false =>
      refine Ci true rfl (Cs (Cg (Jq 1 [2] 0 ⟨[(2, vI 4)], []⟩ (Ln (Qn (Cr (Qr (Qb (Qr (Qr (Qb (Qr (Rt (.inl rfl) [vI 4] rfl (fun bs w hS => (⟨?_, hS.kp⟩)))))))))))))))
      simp only [retOf, den, List.map_cons, List.map_nil]
      have hf : lockF (s.xs.map CLock.abs) i = 4 := by
       unfold lockF
       simp only [hat, hq1, hq2, hq3]
       try simp only [h1, h2, h3, h4, h5, emp_size, ne_eq, not_true_eq_false, not_false_eq_true, true_or, or_true, false_or, or_false, and_true, true_and, and_false, false_and, and_self, or_self, if_true, if_false, Bool.true_eq_false, Bool.false_eq_true, reduceIte, Classical.not_not, Bool.and_eq_true, decide_eq_true_eq]
       repeat (first | rw [if_pos (by omega)] | rw [if_neg (by omega)])
       all_goals first | rfl | (exfalso; omega)
      rw [hI, firstF_here (by omega) hf (by omega)]
    | false =>
     have h4 := of_decide_eq_false h4
     refine Jq 2 [25, 23, 19, 3, 4, 10, 9, 8, 0] 1 ⟨[(25, vI (s.at i).holder), (23, vB true), (19, vB false), (3, vI (i : Int)), (4, .p 0 0), (10, vI (i : Int)), (9, vI (s.n : Int)), (8, .v s.val), (0, .v s.val)], [⟨74, (s.at i).cs⟩]⟩ (Lp 84 [] [vI (s.at i).holder] (.bool (inB (s.at i).holder 1 9)) Try.call84 rfl rfl rfl rfl (fun bs w hS => lock_client (s.at i).holder w) (Jq 4 [30, 3, 4, 10, 9, 8, 0] 1 ⟨[(30, vB (!(inB (s.at i).holder 1 9))), (3, vI (i : Int)), (4, .p 0 0), (10, vI (i : Int)), (9, vI (s.n : Int)), (8, .v s.val), (0, .v s.val)], [⟨74, (s.at i).cs⟩]⟩ ?_))
     cases h10 : inB (s.at i).holder 1 9 with
     | true =>
      simp only [inB, Bool.and_eq_true, Bool.and_eq_false_iff, decide_eq_true_eq, decide_eq_false_iff_not] at h10
      refine Jq 1 [31, 30, 3, 4, 10, 9, 8, 0] 1 ⟨[(31, .v (s.at i).val), (30, vB false), (3, vI (i : Int)), (4, .p 0 0), (10, vI (i : Int)), (9, vI (s.n : Int)), (8, .v s.val), (0, .v s.val)], [⟨74, (s.at i).cs⟩]⟩ (Lp 85 [] [.v (s.at i).val] (.bool (lineOk (s.at i).abs)) Try.call85 rfl rfl rfl rfl (fun bs w hS => lock_line (s.at i) w (Sl.rd.sub (s := s) (i := i) (Sl.rd.kp hs hS.kp) (by omega))) (Jq 2 [34, 3, 4, 10, 9, 8, 0] 1 ⟨[(34, vB (!(lineOk (s.at i).abs))), (3, vI (i : Int)), (4, .p 0 0), (10, vI (i : Int)), (9, vI (s.n : Int)), (8, .v s.val), (0, .v s.val)], [⟨74, (s.at i).cs⟩]⟩ (Ln (Qn ?_))))
      cases h11 : lineOk (s.at i).abs with
      | true =>
       refine Ci false rfl (Ck (Qn (Cs (Cs (Cg (Jq 4 [38, 3, 4, 10, 9, 8, 0] 1 ⟨[(38, vB (decide ((s.at i).fence < 1))), (3, vI (i : Int)), (4, .p 0 0), (10, vI (i : Int)), (9, vI (s.n : Int)), (8, .v s.val), (0, .v s.val)], [⟨74, (s.at i).cs⟩]⟩ ?_))))))
       cases h12 : decide ((s.at i).fence < 1) with
       | true =>
        have h12 := of_decide_eq_true h12
        refine Jq 4 [42, 3, 4, 10, 9, 8, 0] 1 ⟨[(42, vB true), (3, vI (i : Int)), (4, .p 0 0), (10, vI (i : Int)), (9, vI (s.n : Int)), (8, .v s.val), (0, .v s.val)], [⟨74, (s.at i).cs⟩]⟩ (Ln (Qn (Ci true rfl (Cs (Cg (Jq 1 [2] 0 ⟨[(2, vI 2)], []⟩ (Ln (Qn (Cr (Qr (Qb (Qr (Qr (Qb (Qr (Rt (.inl rfl) [vI 2] rfl (fun bs w hS => (⟨?_, hS.kp⟩))))))))))))))))))
        simp only [retOf, den, List.map_cons, List.map_nil]
        have hf : lockF (s.xs.map CLock.abs) i = 2 := by
         unfold lockF
         simp only [hat, hq1, hq2, hq3]
         try simp only [h1, h2, h3, h4, h10, h11, h12, emp_size, ne_eq, not_true_eq_false, not_false_eq_true, true_or, or_true, false_or, or_false, and_true, true_and, and_false, false_and, and_self, or_self, if_true, if_false, Bool.true_eq_false, Bool.false_eq_true, reduceIte, Classical.not_not, Bool.and_eq_true, decide_eq_true_eq]
         repeat (first | rw [if_pos (by omega)] | rw [if_neg (by omega)])
         all_goals first | rfl | (exfalso; omega)
        rw [hI, firstF_here (by omega) hf (by omega)]
       | false =>
        have h12 := of_decide_eq_false h12
        refine Jq 4 [42, 3, 4, 10, 9, 8, 0] 1 ⟨[(42, vB (decide ((1073741824 : Int) < (s.at i).fence))), (3, vI (i : Int)), (4, .p 0 0), (10, vI (i : Int)), (9, vI (s.n : Int)), (8, .v s.val), (0, .v s.val)], [⟨74, (s.at i).cs⟩]⟩ (Ln (Qn ?_))
        cases h13 : decide ((1073741824 : Int) < (s.at i).fence) with
        | true =>
         have h13 := of_decide_eq_true h13
         refine Ci true rfl (Cs (Cg (Jq 1 [2] 0 ⟨[(2, vI 2)], []⟩ (Ln (Qn (Cr (Qr (Qb (Qr (Qr (Qb (Qr (Rt (.inl rfl) [vI 2] rfl (fun bs w hS => (⟨?_, hS.kp⟩)))))))))))))))
         simp only [retOf, den, List.map_cons, List.map_nil]
         have hf : lockF (s.xs.map CLock.abs) i = 2 := by
          unfold lockF
          simp only [hat, hq1, hq2, hq3]
          try simp only [h1, h2, h3, h4, h10, h11, h12, h13, emp_size, ne_eq, not_true_eq_false, not_false_eq_true, true_or, or_true, false_or, or_false, and_true, true_and, and_false, false_and, and_self, or_self, if_true, if_false, Bool.true_eq_false, Bool.false_eq_true, reduceIte, Classical.not_not, Bool.and_eq_true, decide_eq_true_eq]
          repeat (first | rw [if_pos (by omega)] | rw [if_neg (by omega)])
          all_goals first | rfl | (exfalso; omega)
         rw [hI, firstF_here (by omega) hf (by omega)]
        | false =>
         have h13 := of_decide_eq_false h13
         refine Ci false rfl (Ck (Qn (Cs (Cd 13 [] (.p 0 (.p 1 (.p 2 (.p 3 (.p 4 (.p 5 (.p 6 (.p 7 (.q 8 (.p 9 (.q 10 (.p 11 (.p 12 .nil))))))))))))) [] [] Try_mixed (by kernel_rfl) (pq_then (pq_block (pq_then (pq_then (pq_block (pq_then pq_body)))))) .slnil (Hq [] [(0, true), (1, true), (2, true)] [(45, vB (decide ((0 : Int) < (i : Int)))), (44, vB (decide ((0 : Int) < (i : Int)))), (43, vI (i : Int)), (42, vB false), (3, vI (i : Int)), (4, .p 0 0), (10, vI (i : Int)), (9, vI (s.n : Int)), (8, .v s.val), (0, .v s.val)] [] [] rfl (by kernel_rfl) on wn ?_)))))
         cases h14 : decide ((0 : Int) < (i : Int)) with
         | true =>
          have h14 := of_decide_eq_true h14
          refine Hq [(6, .idx s.ad (i - 1)), (8, .ext [.string (s.at (i - 1)).name])] [(3, true), (4, true), (5, true), (6, true), (7, true), (8, false), (9, true), (10, false), (11, true), (12, true)] [(55, vB (!(Op.bytesLess ((s.at (i - 1)).name).toList ((s.at i).name).toList))), (54, vB (!(Op.bytesLess ((s.at (i - 1)).name).toList ((s.at i).name).toList))), (53, vS (s.at i).name), (52, .p 0 0), (51, vS (s.at (i - 1)).name), (50, .v (.pointer (some ((s.ad.add ((i - 1) * 4)).add 0)))), (49, .v (.pointer (some (s.ad.add ((i - 1) * 4))))), (48, vI ((i : Int) - 1)), (47, vI (i : Int)), (46, .v s.val), (45, vB true), (44, vB true), (43, vI (i : Int)), (42, vB false), (3, vI (i : Int)), (4, .p 0 0), (10, vI (i : Int)), (9, vI (s.n : Int)), (8, .v s.val), (0, .v s.val)] [inR ((i : Int) - 1), s.A = some s.ad, (i : Int) - 1 = (((i - 1) : Nat) : Int), (i - 1) < s.n] [((s.ad.add ((i - 1) * 4)).add 0, [.string (s.at (i - 1)).name])] rfl (by kernel_rfl) (oc (by unfold inR; omega) (oc (Sl.ok.own (s := s) (i := (i - 1)) oks (by omega)) (oc (by omega) (oc (by omega) on)))) (fun w hk hr => ⟨(Sl.rd.fld (s := s) (i := (i - 1)) (Sl.rd.kp hs hk) (by omega) 0 1 rfl), trivial⟩) ?_
          refine Hn (Ln (Qn ?_))
          cases h15 : Op.bytesLess ((s.at (i - 1)).name).toList ((s.at i).name).toList with
          | true =>
           refine Ci false rfl (Ck (q_block_normal (Qn (Cg (Jr 2 [] [10, 9, 8, 0] 0 ⟨[(10, vI ((i : Int) + 1)), (9, vI (s.n : Int)), (8, .v s.val), (0, .v s.val)], []⟩ [inR ((i : Int) + 1)] [] (by kernel_rfl) (oc (by unfold inR; omega) on) wn ?_)))))
           have hf0 : lockF (s.xs.map CLock.abs) i = 0 := by
            unfold lockF
            simp only [hat, hq1, hq2, hq3]
            try simp only [h1, h2, h3, h4, h10, h11, h12, h13, h14, h15, emp_size, ne_eq, not_true_eq_false, not_false_eq_true, true_or, or_true, false_or, or_false, and_true, true_and, and_false, false_and, and_self, or_self, if_true, if_false, Bool.true_eq_false, Bool.false_eq_true, reduceIte, Classical.not_not, Bool.and_eq_true, decide_eq_true_eq]
            repeat (first | rw [if_pos (by omega)] | rw [if_neg (by omega)])
            all_goals first | rfl | (exfalso; omega)
           refine Ln (Ql (x := (i : Nat)) ((i + 1) : Nat) ⟨by omega, by rw [hI]; exact firstF_step (by omega) hf0⟩ (by omega) (Ss [10, 9, 8, 0] 0 (by kernel_rfl) rfl))
          | false =>
           refine Ci true rfl (Cs (Cg (Jq 1 [2] 0 ⟨[(2, vI 14)], []⟩ (Ln (Qn (Cr (Qb (Qr (Qr (Qb (Qr (Rt (.inl rfl) [vI 14] rfl (fun bs w hS => (⟨?_, hS.kp⟩))))))))))))))
           simp only [retOf, den, List.map_cons, List.map_nil]
           have hf : lockF (s.xs.map CLock.abs) i = 14 := by
            unfold lockF
            simp only [hat, hq1, hq2, hq3]
            try simp only [h1, h2, h3, h4, h10, h11, h12, h13, h14, h15, emp_size, ne_eq, not_true_eq_false, not_false_eq_true, true_or, or_true, false_or, or_false, and_true, true_and, and_false, false_and, and_self, or_self, if_true, if_false, Bool.true_eq_false, Bool.false_eq_true, reduceIte, Classical.not_not, Bool.and_eq_true, decide_eq_true_eq]
            repeat (first | rw [if_pos (by omega)] | rw [if_neg (by omega)])
            all_goals first | rfl | (exfalso; omega)
           rw [hI, firstF_here (by omega) hf (by omega)]
         | false =>
          have h14 := of_decide_eq_false h14
          refine Hq [] [(3, true), (4, true), (5, true), (6, true), (7, true), (8, false), (9, true), (10, false), (11, true), (12, true)] [(55, vB false), (54, .v (undef)), (53, .v (undef)), (52, .v (undef)), (51, .v (undef)), (50, .v (undef)), (49, .v (undef)), (48, .v (undef)), (47, .v (undef)), (46, .v (undef)), (45, vB false), (44, vB false), (43, vI (i : Int)), (42, vB false), (3, vI (i : Int)), (4, .p 0 0), (10, vI (i : Int)), (9, vI (s.n : Int)), (8, .v s.val), (0, .v s.val)] [] [] rfl (by kernel_rfl) on wn ?_
          refine Hn (Ln (Qn (Ci false rfl (Ck (q_block_normal (Qn (Cg (Jr 2 [] [10, 9, 8, 0] 0 ⟨[(10, vI ((i : Int) + 1)), (9, vI (s.n : Int)), (8, .v s.val), (0, .v s.val)], []⟩ [inR ((i : Int) + 1)] [] (by kernel_rfl) (oc (by unfold inR; omega) on) wn ?_))))))))
          have hf0 : lockF (s.xs.map CLock.abs) i = 0 := by
           unfold lockF
           simp only [hat, hq1, hq2, hq3]
           try simp only [h1, h2, h3, h4, h10, h11, h12, h13, h14, emp_size, ne_eq, not_true_eq_false, not_false_eq_true, true_or, or_true, false_or, or_false, and_true, true_and, and_false, false_and, and_self, or_self, if_true, if_false, Bool.true_eq_false, Bool.false_eq_true, reduceIte, Classical.not_not, Bool.and_eq_true, decide_eq_true_eq]
           repeat (first | rw [if_pos (by omega)] | rw [if_neg (by omega)])
           all_goals first | rfl | (exfalso; omega)
          refine Ln (Ql (x := (i : Nat)) ((i + 1) : Nat) ⟨by omega, by rw [hI]; exact firstF_step (by omega) hf0⟩ (by omega) (Ss [10, 9, 8, 0] 0 (by kernel_rfl) rfl))
      | false =>
       refine Ci true rfl (Cs (Cg (Jq 1 [2] 0 ⟨[(2, vI 4)], []⟩ (Ln (Qn (Cr (Qr (Qb (Qr (Qr (Qb (Qr (Rt (.inl rfl) [vI 4] rfl (fun bs w hS => (⟨?_, hS.kp⟩)))))))))))))))
       simp only [retOf, den, List.map_cons, List.map_nil]
       have hf : lockF (s.xs.map CLock.abs) i = 4 := by
        unfold lockF
        simp only [hat, hq1, hq2, hq3]
        try simp only [h1, h2, h3, h4, h10, h11, emp_size, ne_eq, not_true_eq_false, not_false_eq_true, true_or, or_true, false_or, or_false, and_true, true_and, and_false, false_and, and_self, or_self, if_true, if_false, Bool.true_eq_false, Bool.false_eq_true, reduceIte, Classical.not_not, Bool.and_eq_true, decide_eq_true_eq]
        repeat (first | rw [if_pos (by omega)] | rw [if_neg (by omega)])
        all_goals first | rfl | (exfalso; omega)
       rw [hI, firstF_here (by omega) hf (by omega)]
     | false =>
      simp only [inB, Bool.and_eq_true, Bool.and_eq_false_iff, decide_eq_true_eq, decide_eq_false_iff_not] at h10
      refine Jq 4 [34, 3, 4, 10, 9, 8, 0] 1 ⟨[(34, vB true), (3, vI (i : Int)), (4, .p 0 0), (10, vI (i : Int)), (9, vI (s.n : Int)), (8, .v s.val), (0, .v s.val)], [⟨74, (s.at i).cs⟩]⟩ (Ln (Qn (Ci true rfl (Cs (Cg (Jq 1 [2] 0 ⟨[(2, vI 4)], []⟩ (Ln (Qn (Cr (Qr (Qb (Qr (Qr (Qb (Qr (Rt (.inl rfl) [vI 4] rfl (fun bs w hS => (⟨?_, hS.kp⟩))))))))))))))))))
      simp only [retOf, den, List.map_cons, List.map_nil]
      have hf : lockF (s.xs.map CLock.abs) i = 4 := by
       unfold lockF
       simp only [hat, hq1, hq2, hq3]
       try simp only [h1, h2, h3, h4, h10, emp_size, ne_eq, not_true_eq_false, not_false_eq_true, true_or, or_true, false_or, or_false, and_true, true_and, and_false, false_and, and_self, or_self, if_true, if_false, Bool.true_eq_false, Bool.false_eq_true, reduceIte, Classical.not_not, Bool.and_eq_true, decide_eq_true_eq]
       repeat (first | rw [if_pos (by omega)] | rw [if_neg (by omega)])
       all_goals first | rfl | (exfalso; omega)
      rw [hI, firstF_here (by omega) hf (by omega)]
   | false =>
    refine Jq 15 [34, 3, 4, 10, 9, 8, 0] 1 ⟨[(34, vB true), (3, vI (i : Int)), (4, .p 0 0), (10, vI (i : Int)), (9, vI (s.n : Int)), (8, .v s.val), (0, .v s.val)], [⟨74, (s.at i).cs⟩]⟩ (Ln (Qn (Ci true rfl (Cs (Cg (Jq 1 [2] 0 ⟨[(2, vI 4)], []⟩ (Ln (Qn (Cr (Qr (Qb (Qr (Qr (Qb (Qr (Rt (.inl rfl) [vI 4] rfl (fun bs w hS => (⟨?_, hS.kp⟩))))))))))))))))))
    simp only [retOf, den, List.map_cons, List.map_nil]
    have hf : lockF (s.xs.map CLock.abs) i = 4 := by
     unfold lockF
     simp only [hat, hq1, hq2, hq3]
     try simp only [h1, h2, h3, emp_size, ne_eq, not_true_eq_false, not_false_eq_true, true_or, or_true, false_or, or_false, and_true, true_and, and_false, false_and, and_self, or_self, if_true, if_false, Bool.true_eq_false, Bool.false_eq_true, reduceIte, Classical.not_not, Bool.and_eq_true, decide_eq_true_eq]
     repeat (first | rw [if_pos (by omega)] | rw [if_neg (by omega)])
     all_goals first | rfl | (exfalso; omega)
    rw [hI, firstF_here (by omega) hf (by omega)]
  | false =>
   have h2 := of_decide_eq_false h2
   refine Ci false rfl (c_exit (Qe (Qe (Qh (Qn (Cs (Cg (Jq 1 [2] 0 ⟨[(2, vI 0)], []⟩ (Ln (Qn (Cr (Rt (.inl rfl) [vI 0] rfl (fun bs w hS => (⟨?_, hS.kp⟩))))))))))))))
   simp only [retOf, den, List.map_cons, List.map_nil]
   rw [hI, firstF_end (by omega)]

theorem ref_LocksFault {B : Nat → Prop} (s : Sl CLock) (w : World) (hs : s.rd B w) : Calls Try.prog 67 #[.slice s.A s.n s.c] w fun e w' => e = .returned (.int .i64 (mLocks (s.xs.map CLock.abs))) ∧ Kp [] w w' := by
 have oks := Sl.rd.ok hs
 have ncs := Sl.ok.nc oks
 have hns : s.n = s.xs.length := rfl
 have hat : ∀ q, (s.xs.map CLock.abs).getD q default = (s.at q).abs := fun q => abs_at q
 have hq1 : ∀ q, (s.at q).abs.name = (s.at q).name := fun _ => rfl
 have hq2 : ∀ q, (s.at q).abs.holder = (s.at q).holder := fun _ => rfl
 have hq3 : ∀ q, (s.at q).abs.fence = (s.at q).fence := fun _ => rfl
 have hml : (s.xs.map CLock.abs).length = s.n := by simp
 refine calls_J0 104 Try.func67 rfl rfl [.slice s.A s.n s.c] rfl ?_
 refine Cs (Cg (Jq 1 [0] 0 ⟨[(0, .v s.val)], []⟩ (Ln (Qn (Cs (Cs (Cg (Jq 3 [9, 0] 0 ⟨[(9, vB (decide ((5 : Int) < (s.n : Int)))), (0, .v s.val)], []⟩ (Ln (Qn ?_))))))))))
 cases h1 : decide ((5 : Int) < (s.n : Int)) with
 | true =>
  have h1 := of_decide_eq_true h1
  refine Ci true rfl (Cs (Cg (Jq 1 [2] 0 ⟨[(2, vI 1)], []⟩ (Ln (Qn (Cr (Qr (Rt (.inl rfl) [vI 1] rfl (fun bs w hS => (⟨?_, hS.kp⟩))))))))))
  simp only [retOf, den, List.map_cons, List.map_nil]
  have hm : mLocks (s.xs.map CLock.abs) = 1 := by
   unfold mLocks; rw [hml, if_pos (by omega)]
  rw [hm]
 | false =>
  have h1 := of_decide_eq_false h1
  refine Ci false rfl (Ck (Qn (Cs (Cs (Cg (Jq 1 [3, 0] 0 ⟨[(3, vI 0), (0, .v s.val)], []⟩ (Ln (Qn (Cb (Cl (σ := Nat) (fun i => i ≤ s.n ∧ mLocks (s.xs.map CLock.abs) = firstF (lockF (s.xs.map CLock.abs)) (s.n - i) i) (fun i => s.n - i) (fun i => []) (fun i => ⟨[(3, vI (i : Int)), (0, .v s.val)], []⟩) 0 ⟨Nat.zero_le _, by unfold mLocks; rw [hml, if_neg (by omega)]⟩ (Ss [3, 0] 0 (by kernel_rfl) rfl) ?_))))))))))
  rintro i ⟨hi, hI⟩
  have hp : ∀ q, posOk (s.at i).abs q = (inB ((s.at i).line.at q) 1 9 && (!decide ((s.at i).line.at q = (s.at i).holder) && !(((s.at i).line.xs.take q).any fun z => decide (z = (s.at i).line.at q)))) := fun _ => rfl
  refine Cs (Cs (Cg (Jq 4 [13, 3, 0] 0 ⟨[(13, vB (decide ((i : Int) < (s.n : Int)))), (3, vI (i : Int)), (0, .v s.val)], []⟩ (Ln (Qn ?_)))))
  cases h2 : decide ((i : Int) < (s.n : Int)) with
  | true =>
   have h2 := of_decide_eq_true h2
   refine Ci true rfl (Ck (Qn (Cs (Cb (Cs (Cg (Jr 6 [(2, .idx s.ad i), (3, .ext [.string (s.at i).name, .int .i64 (s.at i).holder, .int .i64 (s.at i).fence, .slice (s.at i).line.A (s.at i).line.n (s.at i).line.c])] [4, 3, 0] 1 ⟨[(4, .p 0 0), (3, vI (i : Int)), (0, .v s.val)], [⟨74, (s.at i).cs⟩]⟩ [s.A = some s.ad, (i : Int) = (i : Int), i < s.n] [(s.ad.add (i * 4), [.string (s.at i).name, .int .i64 (s.at i).holder, .int .i64 (s.at i).fence, .slice (s.at i).line.A (s.at i).line.n (s.at i).line.c])] (by kernel_rfl) (oc (Sl.ok.own (s := s) (i := i) oks (by omega)) (oc rfl (oc (by omega) on))) (fun w hk hr => ⟨(Sl.rd.all (s := s) (i := i) (Sl.rd.kp hs hk) (by omega) rfl), trivial⟩) (Ln (Qn (Cs (Cg (Jq 2 [21, 4, 3, 0] 1 ⟨[(21, vS (s.at i).name), (4, .p 0 0), (3, vI (i : Int)), (0, .v s.val)], [⟨74, (s.at i).cs⟩]⟩ (Lp 89 [] [vS (s.at i).name] (.bool (mName (s.at i).name)) Try.call89 rfl rfl rfl rfl (fun bs w hS => ref_NameMay _ w (And.left (Sl.ok.at (s := s) (i := i) oks (by omega)))) (Jq 2 [24, 4, 3, 0] 1 ⟨[(24, vB (!(mName (s.at i).name))), (4, .p 0 0), (3, vI (i : Int)), (0, .v s.val)], [⟨74, (s.at i).cs⟩]⟩ ?_))))))))))))))
   cases h3 : mName (s.at i).name with
   | true =>
    refine Jq 2 [26, 24, 4, 3, 0] 1 ⟨[(26, vI (s.at i).holder), (24, vB false), (4, .p 0 0), (3, vI (i : Int)), (0, .v s.val)], [⟨74, (s.at i).cs⟩]⟩ (Lp 41 [] [vI (s.at i).holder, vI 0, vI 9] (.bool (inB (s.at i).holder 0 9)) Try.call41 rfl rfl rfl rfl (fun bs w hS => ref_In _ _ _ w) (Jq 3 [30, 4, 3, 0] 1 ⟨[(30, vB (!(inB (s.at i).holder 0 9))), (4, .p 0 0), (3, vI (i : Int)), (0, .v s.val)], [⟨74, (s.at i).cs⟩]⟩ ?_))
    cases h4 : inB (s.at i).holder 0 9 with
    | true =>
     simp only [inB, Bool.and_eq_true, Bool.and_eq_false_iff, decide_eq_true_eq, decide_eq_false_iff_not] at h4
     refine Jq 6 [36, 4, 3, 0] 1 ⟨[(36, vB (decide ((3 : Int) < (((s.at i).line.n : Nat) : Int)))), (4, .p 0 0), (3, vI (i : Int)), (0, .v s.val)], [⟨74, (s.at i).cs⟩]⟩ ?_
     cases h5 : decide ((3 : Int) < (((s.at i).line.n : Nat) : Int)) with
     | true =>
      have h5 := of_decide_eq_true h5
      refine Jq 11 [5, 4, 3, 0] 1 ⟨[(5, vB true), (4, .p 0 0), (3, vI (i : Int)), (0, .v s.val)], [⟨74, (s.at i).cs⟩]⟩ (Ln (Qn (Cs (Cs (Cg (Jq 1 [6, 5, 4, 3, 0] 1 ⟨[(6, vI 0), (5, vB true), (4, .p 0 0), (3, vI (i : Int)), (0, .v s.val)], [⟨74, (s.at i).cs⟩]⟩ (Ln (Qn (Cb (Cl (σ := Nat × Bool) (fun ⟨j, b⟩ => j ≤ (s.at i).line.n ∧ b = (true || !(allTo (posOk (s.at i).abs) j))) (fun ⟨j, b⟩ => (s.at i).line.n - j) (fun ⟨j, b⟩ => []) (fun ⟨j, b⟩ => ⟨[(6, vI (j : Int)), (5, vB b), (4, .p 0 0), (3, vI (i : Int)), (0, .v s.val)], [⟨74, (s.at i).cs⟩]⟩) ⟨0, true⟩ ⟨Nat.zero_le _, by simp [allTo]⟩ (Ss [6, 5, 4, 3, 0] 1 (by kernel_rfl) rfl) ?_))))))))))
      rintro ⟨j, b⟩ ⟨hj, hJ⟩
      have ncl := Sl.ok.nc (And.right (Sl.ok.at oks (show i < s.n by omega)))
      refine Cs (Cs (Cg (Jq 5 [51, 6, 5, 4, 3, 0] 1 ⟨[(51, vB (decide ((j : Int) < (((s.at i).line.n : Nat) : Int)))), (6, vI (j : Int)), (5, vB b), (4, .p 0 0), (3, vI (i : Int)), (0, .v s.val)], [⟨74, (s.at i).cs⟩]⟩ (Ln (Qn ?_)))))
      cases h6 : decide ((j : Int) < (((s.at i).line.n : Nat) : Int)) with
      | true =>
       have h6 := of_decide_eq_true h6
       refine Ci true rfl (Ck (Qn (Cs (Cb (Cd 33 [] (.p 0 (.p 1 (.p 2 (.q 3 (.p 4 (.p 5 (.q 6 (.b 7 (.p 8 (.p 9 (.p 10 (.p 11 (.q 12 (.p 13 (.p 14 (.q 15 (.p 16 (.q 17 (.p 18 (.p 19 (.p 20 (.p 21 (.q 22 (.p 23 (.p 24 (.p 25 (.q 26 (.p 27 (.p 28 (.q 29 (.b 30 (.p 31 (.p 32 .nil)) .z))))))))))))))))))))))) .z)))))))) [] [] Try_mixed (by kernel_rfl) (pq_block (pq_then (pq_then (pq_block (pq_then (pq_block (pq_then (pq_then (pq_block (pq_then pq_body)))))))))) .slnil (Hq [] [(0, true), (1, true)] [(55, vB b), (54, vB b), (51, vB true), (6, vI (j : Int)), (5, vB b), (4, .p 0 0), (3, vI (i : Int)), (0, .v s.val)] [] [] rfl (by kernel_rfl) on wn ?_))))))
       cases h7 : b with
       | true =>
        refine Hq [] [(2, true), (3, false), (4, true), (5, true), (6, false)] [(60, .v (undef)), (59, .v (undef)), (58, .v (undef)), (57, .v (undef)), (56, .v (undef)), (55, vB true), (54, vB true), (51, vB true), (6, vI (j : Int)), (5, vB true), (4, .p 0 0), (3, vI (i : Int)), (0, .v s.val)] [] [] rfl (by kernel_rfl) on wn ?_
        refine Hp rfl rfl rfl ?_
        refine Hq [] [(8, true), (9, true), (10, true), (11, true), (12, false), (13, true), (14, true), (15, false), (16, true), (17, false), (18, true), (19, true), (20, true), (21, true), (22, false), (23, true), (24, true), (25, true), (26, false), (27, true), (28, true), (29, false)] [(83, .v (undef)), (82, .v (undef)), (81, .v (undef)), (80, .v (undef)), (79, .v (undef)), (78, .v (undef)), (77, .v (undef)), (76, .v (undef)), (75, .v (undef)), (74, vB true), (73, vB true), (72, .v (undef)), (71, .v (undef)), (70, .v (undef)), (69, .v (undef)), (68, .v (undef)), (67, .v (undef)), (66, .v (undef)), (65, .v (undef)), (64, vB true), (63, vB true), (62, .v (undef)), (61, .v (undef)), (60, .v (undef)), (59, .v (undef)), (58, .v (undef)), (57, .v (undef)), (56, .v (undef)), (55, vB true), (54, vB true), (51, vB true), (6, vI (j : Int)), (5, vB true), (4, .p 0 0), (3, vI (i : Int)), (0, .v s.val)] [] [] rfl (by kernel_rfl) on wn ?_
        refine Hp rfl rfl rfl ?_
        refine Hq [] [(31, true), (32, true)] [(5, vB true), (85, vB true), (84, .v (undef)), (83, .v (undef)), (82, .v (undef)), (81, .v (undef)), (80, .v (undef)), (79, .v (undef)), (78, .v (undef)), (77, .v (undef)), (76, .v (undef)), (75, .v (undef)), (74, vB true), (73, vB true), (72, .v (undef)), (71, .v (undef)), (70, .v (undef)), (69, .v (undef)), (68, .v (undef)), (67, .v (undef)), (66, .v (undef)), (65, .v (undef)), (64, vB true), (63, vB true), (62, .v (undef)), (61, .v (undef)), (60, .v (undef)), (59, .v (undef)), (58, .v (undef)), (57, .v (undef)), (56, .v (undef)), (55, vB true), (54, vB true), (51, vB true), (6, vI (j : Int)), (4, .p 0 0), (3, vI (i : Int)), (0, .v s.val)] [] [] rfl (by kernel_rfl) on wn ?_
        refine Hn (Ln (q_block_normal (Qn (Cg (Jr 3 [] [6, 5, 4, 3, 0] 1 ⟨[(6, vI ((j : Int) + 1)), (5, vB true), (4, .p 0 0), (3, vI (i : Int)), (0, .v s.val)], [⟨74, (s.at i).cs⟩]⟩ [inR ((j : Int) + 1)] [] (by kernel_rfl) (oc (by unfold inR; omega) on) wn (Ln (Ql (x := (⟨j, b⟩ : Nat × Bool)) (⟨j + 1, true⟩ : Nat × Bool) ⟨by omega, by simp only [allTo, hp]; simp_all⟩ (by show (s.at i).line.n - (j + 1) < (s.at i).line.n - j; omega) (Ss [6, 5, 4, 3, 0] 1 (by kernel_rfl) rfl))))))))
       | false =>
        exfalso; rw [h7] at hJ; simp at hJ
      | false =>
       have h6 := of_decide_eq_false h6
       refine Ci false rfl (c_exit (Qe (Qe (Qh (Qn (Cs (Cs (Cg (Jq 1 [86, 4, 3, 0] 1 ⟨[(86, vB b), (4, .p 0 0), (3, vI (i : Int)), (0, .v s.val)], [⟨74, (s.at i).cs⟩]⟩ (Ln (Qn ?_)))))))))))
       cases h8 : b with
       | true =>
        refine Ci true rfl (Cs (Cg (Jq 1 [2] 0 ⟨[(2, vI 4)], []⟩ (Ln (Qn (Cr (Qr (Qb (Qr (Qr (Qb (Qr (Rt (.inl rfl) [vI 4] rfl (fun bs w hS => (⟨?_, hS.kp⟩)))))))))))))))
        simp only [retOf, den, List.map_cons, List.map_nil]
        have hf : lockF (s.xs.map CLock.abs) i = 4 := by
         have hor : mName (s.at i).name = false ∨ (s.at i).holder < 0 ∨ 9 < (s.at i).holder ∨ lineOk (s.at i).abs = false := by
          first | exact .inl (by assumption) | exact .inr ((show (s.at i).holder < 0 ∨ 9 < (s.at i).holder by omega).elim .inl (fun h => .inr (.inl h))) | exact .inr (.inr (.inr (lineOk_false (.inr (.inl (by show 3 < (s.at i).line.n; omega)))))) | exact .inr (.inr (.inr (lineOk_false (.inr (.inr ⟨by show (s.at i).holder = 0; omega, by show 0 < (s.at i).line.n; omega⟩))))) | exact .inr (.inr (.inr (lineOk_false (.inl (by show allTo _ (s.at i).line.n = false; rw [show (s.at i).line.n = j by omega]; cases hq : allTo (posOk (s.at i).abs) j <;> simp_all)))))
         unfold lockF
         simp only [hat, hq1, hq2, hq3]
         rw [if_pos hor]
        rw [hI, firstF_here (by omega) hf (by omega)]
       | false =>
        exfalso; rw [h8] at hJ; simp at hJ
     | false =>
      have h5 := of_decide_eq_false h5
      refine Jq 4 [40, 36, 4, 3, 0] 1 ⟨[(40, vB (decide ((s.at i).holder = 0))), (36, vB false), (4, .p 0 0), (3, vI (i : Int)), (0, .v s.val)], [⟨74, (s.at i).cs⟩]⟩ ?_
      cases h9 : decide ((s.at i).holder = 0) with
      | true =>
       have h9 := of_decide_eq_true h9
       refine Jq 7 [5, 4, 3, 0] 1 ⟨[(5, vB (decide ((0 : Int) < (((s.at i).line.n : Nat) : Int)))), (4, .p 0 0), (3, vI (i : Int)), (0, .v s.val)], [⟨74, (s.at i).cs⟩]⟩ (Ln (Qn (Cs (Cs (Cg (Jq 1 [6, 5, 4, 3, 0] 1 ⟨[(6, vI 0), (5, vB (decide ((0 : Int) < (((s.at i).line.n : Nat) : Int)))), (4, .p 0 0), (3, vI (i : Int)), (0, .v s.val)], [⟨74, (s.at i).cs⟩]⟩ (Ln (Qn (Cb ?_)))))))))
       cases h10 : decide ((0 : Int) < (((s.at i).line.n : Nat) : Int)) with
       | true =>
        have h10 := of_decide_eq_true h10
        refine Cl (σ := Nat × Bool) (fun ⟨j, b⟩ => j ≤ (s.at i).line.n ∧ b = (true || !(allTo (posOk (s.at i).abs) j))) (fun ⟨j, b⟩ => (s.at i).line.n - j) (fun ⟨j, b⟩ => []) (fun ⟨j, b⟩ => ⟨[(6, vI (j : Int)), (5, vB b), (4, .p 0 0), (3, vI (i : Int)), (0, .v s.val)], [⟨74, (s.at i).cs⟩]⟩) ⟨0, true⟩ ⟨Nat.zero_le _, by simp [allTo]⟩ (Ss [6, 5, 4, 3, 0] 1 (by kernel_rfl) rfl) ?_
        rintro ⟨j, b⟩ ⟨hj, hJ⟩
        have ncl := Sl.ok.nc (And.right (Sl.ok.at oks (show i < s.n by omega)))
        refine Cs (Cs (Cg (Jq 5 [51, 6, 5, 4, 3, 0] 1 ⟨[(51, vB (decide ((j : Int) < (((s.at i).line.n : Nat) : Int)))), (6, vI (j : Int)), (5, vB b), (4, .p 0 0), (3, vI (i : Int)), (0, .v s.val)], [⟨74, (s.at i).cs⟩]⟩ (Ln (Qn ?_)))))
        cases h11 : decide ((j : Int) < (((s.at i).line.n : Nat) : Int)) with
        | true =>
         have h11 := of_decide_eq_true h11
         refine Ci true rfl (Ck (Qn (Cs (Cb (Cd 33 [] (.p 0 (.p 1 (.p 2 (.q 3 (.p 4 (.p 5 (.q 6 (.b 7 (.p 8 (.p 9 (.p 10 (.p 11 (.q 12 (.p 13 (.p 14 (.q 15 (.p 16 (.q 17 (.p 18 (.p 19 (.p 20 (.p 21 (.q 22 (.p 23 (.p 24 (.p 25 (.q 26 (.p 27 (.p 28 (.q 29 (.b 30 (.p 31 (.p 32 .nil)) .z))))))))))))))))))))))) .z)))))))) [] [] Try_mixed (by kernel_rfl) (pq_block (pq_then (pq_then (pq_block (pq_then (pq_block (pq_then (pq_then (pq_block (pq_then pq_body)))))))))) .slnil (Hq [] [(0, true), (1, true)] [(55, vB b), (54, vB b), (51, vB true), (6, vI (j : Int)), (5, vB b), (4, .p 0 0), (3, vI (i : Int)), (0, .v s.val)] [] [] rfl (by kernel_rfl) on wn ?_))))))
         cases h12 : b with
         | true =>
          refine Hq [] [(2, true), (3, false), (4, true), (5, true), (6, false)] [(60, .v (undef)), (59, .v (undef)), (58, .v (undef)), (57, .v (undef)), (56, .v (undef)), (55, vB true), (54, vB true), (51, vB true), (6, vI (j : Int)), (5, vB true), (4, .p 0 0), (3, vI (i : Int)), (0, .v s.val)] [] [] rfl (by kernel_rfl) on wn ?_
          refine Hp rfl rfl rfl ?_
          refine Hq [] [(8, true), (9, true), (10, true), (11, true), (12, false), (13, true), (14, true), (15, false), (16, true), (17, false), (18, true), (19, true), (20, true), (21, true), (22, false), (23, true), (24, true), (25, true), (26, false), (27, true), (28, true), (29, false)] [(83, .v (undef)), (82, .v (undef)), (81, .v (undef)), (80, .v (undef)), (79, .v (undef)), (78, .v (undef)), (77, .v (undef)), (76, .v (undef)), (75, .v (undef)), (74, vB true), (73, vB true), (72, .v (undef)), (71, .v (undef)), (70, .v (undef)), (69, .v (undef)), (68, .v (undef)), (67, .v (undef)), (66, .v (undef)), (65, .v (undef)), (64, vB true), (63, vB true), (62, .v (undef)), (61, .v (undef)), (60, .v (undef)), (59, .v (undef)), (58, .v (undef)), (57, .v (undef)), (56, .v (undef)), (55, vB true), (54, vB true), (51, vB true), (6, vI (j : Int)), (5, vB true), (4, .p 0 0), (3, vI (i : Int)), (0, .v s.val)] [] [] rfl (by kernel_rfl) on wn ?_
          refine Hp rfl rfl rfl ?_
          refine Hq [] [(31, true), (32, true)] [(5, vB true), (85, vB true), (84, .v (undef)), (83, .v (undef)), (82, .v (undef)), (81, .v (undef)), (80, .v (undef)), (79, .v (undef)), (78, .v (undef)), (77, .v (undef)), (76, .v (undef)), (75, .v (undef)), (74, vB true), (73, vB true), (72, .v (undef)), (71, .v (undef)), (70, .v (undef)), (69, .v (undef)), (68, .v (undef)), (67, .v (undef)), (66, .v (undef)), (65, .v (undef)), (64, vB true), (63, vB true), (62, .v (undef)), (61, .v (undef)), (60, .v (undef)), (59, .v (undef)), (58, .v (undef)), (57, .v (undef)), (56, .v (undef)), (55, vB true), (54, vB true), (51, vB true), (6, vI (j : Int)), (4, .p 0 0), (3, vI (i : Int)), (0, .v s.val)] [] [] rfl (by kernel_rfl) on wn ?_
          refine Hn (Ln (q_block_normal (Qn (Cg (Jr 3 [] [6, 5, 4, 3, 0] 1 ⟨[(6, vI ((j : Int) + 1)), (5, vB true), (4, .p 0 0), (3, vI (i : Int)), (0, .v s.val)], [⟨74, (s.at i).cs⟩]⟩ [inR ((j : Int) + 1)] [] (by kernel_rfl) (oc (by unfold inR; omega) on) wn (Ln (Ql (x := (⟨j, b⟩ : Nat × Bool)) (⟨j + 1, true⟩ : Nat × Bool) ⟨by omega, by simp only [allTo, hp]; simp_all⟩ (by show (s.at i).line.n - (j + 1) < (s.at i).line.n - j; omega) (Ss [6, 5, 4, 3, 0] 1 (by kernel_rfl) rfl))))))))
         | false =>
          exfalso; rw [h12] at hJ; simp at hJ
        | false =>
         have h11 := of_decide_eq_false h11
         refine Ci false rfl (c_exit (Qe (Qe (Qh (Qn (Cs (Cs (Cg (Jq 1 [86, 4, 3, 0] 1 ⟨[(86, vB b), (4, .p 0 0), (3, vI (i : Int)), (0, .v s.val)], [⟨74, (s.at i).cs⟩]⟩ (Ln (Qn ?_)))))))))))
         cases h13 : b with
         | true =>
          refine Ci true rfl (Cs (Cg (Jq 1 [2] 0 ⟨[(2, vI 4)], []⟩ (Ln (Qn (Cr (Qr (Qb (Qr (Qr (Qb (Qr (Rt (.inl rfl) [vI 4] rfl (fun bs w hS => (⟨?_, hS.kp⟩)))))))))))))))
          simp only [retOf, den, List.map_cons, List.map_nil]
          have hf : lockF (s.xs.map CLock.abs) i = 4 := by
           have hor : mName (s.at i).name = false ∨ (s.at i).holder < 0 ∨ 9 < (s.at i).holder ∨ lineOk (s.at i).abs = false := by
            first | exact .inl (by assumption) | exact .inr ((show (s.at i).holder < 0 ∨ 9 < (s.at i).holder by omega).elim .inl (fun h => .inr (.inl h))) | exact .inr (.inr (.inr (lineOk_false (.inr (.inl (by show 3 < (s.at i).line.n; omega)))))) | exact .inr (.inr (.inr (lineOk_false (.inr (.inr ⟨by show (s.at i).holder = 0; omega, by show 0 < (s.at i).line.n; omega⟩))))) | exact .inr (.inr (.inr (lineOk_false (.inl (by show allTo _ (s.at i).line.n = false; rw [show (s.at i).line.n = j by omega]; cases hq : allTo (posOk (s.at i).abs) j <;> simp_all)))))
           unfold lockF
           simp only [hat, hq1, hq2, hq3]
           rw [if_pos hor]
          rw [hI, firstF_here (by omega) hf (by omega)]
         | false =>
          exfalso; rw [h13] at hJ; simp at hJ
       | false =>
        have h10 := of_decide_eq_false h10
        refine Cl (σ := Nat × Bool) (fun ⟨j, b⟩ => j ≤ (s.at i).line.n ∧ b = (false || !(allTo (posOk (s.at i).abs) j))) (fun ⟨j, b⟩ => (s.at i).line.n - j) (fun ⟨j, b⟩ => []) (fun ⟨j, b⟩ => ⟨[(6, vI (j : Int)), (5, vB b), (4, .p 0 0), (3, vI (i : Int)), (0, .v s.val)], [⟨74, (s.at i).cs⟩]⟩) ⟨0, false⟩ ⟨Nat.zero_le _, by simp [allTo]⟩ (Ss [6, 5, 4, 3, 0] 1 (by kernel_rfl) rfl) ?_
        rintro ⟨j, b⟩ ⟨hj, hJ⟩
        have ncl := Sl.ok.nc (And.right (Sl.ok.at oks (show i < s.n by omega)))
        refine Cs (Cs (Cg (Jq 5 [51, 6, 5, 4, 3, 0] 1 ⟨[(51, vB (decide ((j : Int) < (((s.at i).line.n : Nat) : Int)))), (6, vI (j : Int)), (5, vB b), (4, .p 0 0), (3, vI (i : Int)), (0, .v s.val)], [⟨74, (s.at i).cs⟩]⟩ (Ln (Qn ?_)))))
        cases h14 : decide ((j : Int) < (((s.at i).line.n : Nat) : Int)) with
        | true =>
         have h14 := of_decide_eq_true h14
         refine Ci true rfl (Ck (Qn (Cs (Cb (Cd 33 [] (.p 0 (.p 1 (.p 2 (.q 3 (.p 4 (.p 5 (.q 6 (.b 7 (.p 8 (.p 9 (.p 10 (.p 11 (.q 12 (.p 13 (.p 14 (.q 15 (.p 16 (.q 17 (.p 18 (.p 19 (.p 20 (.p 21 (.q 22 (.p 23 (.p 24 (.p 25 (.q 26 (.p 27 (.p 28 (.q 29 (.b 30 (.p 31 (.p 32 .nil)) .z))))))))))))))))))))))) .z)))))))) [] [] Try_mixed (by kernel_rfl) (pq_block (pq_then (pq_then (pq_block (pq_then (pq_block (pq_then (pq_then (pq_block (pq_then pq_body)))))))))) .slnil (Hq [] [(0, true), (1, true)] [(55, vB b), (54, vB b), (51, vB true), (6, vI (j : Int)), (5, vB b), (4, .p 0 0), (3, vI (i : Int)), (0, .v s.val)] [] [] rfl (by kernel_rfl) on wn ?_))))))
         cases h15 : b with
         | true =>
          refine Hq [] [(2, true), (3, false), (4, true), (5, true), (6, false)] [(60, .v (undef)), (59, .v (undef)), (58, .v (undef)), (57, .v (undef)), (56, .v (undef)), (55, vB true), (54, vB true), (51, vB true), (6, vI (j : Int)), (5, vB true), (4, .p 0 0), (3, vI (i : Int)), (0, .v s.val)] [] [] rfl (by kernel_rfl) on wn ?_
          refine Hp rfl rfl rfl ?_
          refine Hq [] [(8, true), (9, true), (10, true), (11, true), (12, false), (13, true), (14, true), (15, false), (16, true), (17, false), (18, true), (19, true), (20, true), (21, true), (22, false), (23, true), (24, true), (25, true), (26, false), (27, true), (28, true), (29, false)] [(83, .v (undef)), (82, .v (undef)), (81, .v (undef)), (80, .v (undef)), (79, .v (undef)), (78, .v (undef)), (77, .v (undef)), (76, .v (undef)), (75, .v (undef)), (74, vB true), (73, vB true), (72, .v (undef)), (71, .v (undef)), (70, .v (undef)), (69, .v (undef)), (68, .v (undef)), (67, .v (undef)), (66, .v (undef)), (65, .v (undef)), (64, vB true), (63, vB true), (62, .v (undef)), (61, .v (undef)), (60, .v (undef)), (59, .v (undef)), (58, .v (undef)), (57, .v (undef)), (56, .v (undef)), (55, vB true), (54, vB true), (51, vB true), (6, vI (j : Int)), (5, vB true), (4, .p 0 0), (3, vI (i : Int)), (0, .v s.val)] [] [] rfl (by kernel_rfl) on wn ?_
          refine Hp rfl rfl rfl ?_
          refine Hq [] [(31, true), (32, true)] [(5, vB true), (85, vB true), (84, .v (undef)), (83, .v (undef)), (82, .v (undef)), (81, .v (undef)), (80, .v (undef)), (79, .v (undef)), (78, .v (undef)), (77, .v (undef)), (76, .v (undef)), (75, .v (undef)), (74, vB true), (73, vB true), (72, .v (undef)), (71, .v (undef)), (70, .v (undef)), (69, .v (undef)), (68, .v (undef)), (67, .v (undef)), (66, .v (undef)), (65, .v (undef)), (64, vB true), (63, vB true), (62, .v (undef)), (61, .v (undef)), (60, .v (undef)), (59, .v (undef)), (58, .v (undef)), (57, .v (undef)), (56, .v (undef)), (55, vB true), (54, vB true), (51, vB true), (6, vI (j : Int)), (4, .p 0 0), (3, vI (i : Int)), (0, .v s.val)] [] [] rfl (by kernel_rfl) on wn ?_
          refine Hn (Ln (q_block_normal (Qn (Cg (Jr 3 [] [6, 5, 4, 3, 0] 1 ⟨[(6, vI ((j : Int) + 1)), (5, vB true), (4, .p 0 0), (3, vI (i : Int)), (0, .v s.val)], [⟨74, (s.at i).cs⟩]⟩ [inR ((j : Int) + 1)] [] (by kernel_rfl) (oc (by unfold inR; omega) on) wn (Ln (Ql (x := (⟨j, b⟩ : Nat × Bool)) (⟨j + 1, true⟩ : Nat × Bool) ⟨by omega, by simp only [allTo, hp]; simp_all⟩ (by show (s.at i).line.n - (j + 1) < (s.at i).line.n - j; omega) (Ss [6, 5, 4, 3, 0] 1 (by kernel_rfl) rfl))))))))
         | false =>
          refine Hq [(5, .idx (s.at i).line.ad j), (6, .ext [.int .i64 ((s.at i).line.at j)])] [(2, true), (3, false), (4, true), (5, true), (6, false)] [(60, vI ((s.at i).line.at j)), (59, .v (.pointer (some ((s.at i).line.ad.add (j * 1))))), (58, vI (j : Int)), (57, .v (s.at i).line.val), (56, .p 0 3), (55, vB false), (54, vB false), (51, vB true), (6, vI (j : Int)), (5, vB false), (4, .p 0 0), (3, vI (i : Int)), (0, .v s.val)] [(s.at i).line.A = some (s.at i).line.ad, (j : Int) = (j : Int), j < (s.at i).line.n] [((s.at i).line.ad.add (j * 1), [.int .i64 ((s.at i).line.at j)])] rfl (by kernel_rfl) (oc (Sl.ok.own (s := (s.at i).line) (i := j) (And.right (Sl.ok.at (s := s) (i := i) oks (by omega))) (by omega)) (oc rfl (oc (by omega) on))) (fun w hk hr => ⟨(Sl.rd.all (s := (s.at i).line) (i := j) (And.right (Sl.rd.sub (s := s) (i := i) (Sl.rd.kp hs hk) (by omega))) (by omega) rfl), trivial⟩) ?_
          refine h_pure 41 [] [vI ((s.at i).line.at j), vI 1, vI 9] (.bool (inB ((s.at i).line.at j) 1 9)) rfl Try.call41 rfl rfl rfl rfl (fun bs w hS => ref_In _ _ _ w) (fun bs0 bs w hp hl hS => hS.down hp hl rfl (le_same le_nil) .slnil) ?_
          refine Hq [] [(8, true), (9, true), (10, true)] [(64, vB (!(inB ((s.at i).line.at j) 1 9))), (63, vB (!(inB ((s.at i).line.at j) 1 9))), (62, vB (!(inB ((s.at i).line.at j) 1 9))), (61, vB (inB ((s.at i).line.at j) 1 9)), (60, vI ((s.at i).line.at j)), (59, .v (.pointer (some ((s.at i).line.ad.add (j * 1))))), (58, vI (j : Int)), (57, .v (s.at i).line.val), (56, .p 0 3), (55, vB false), (54, vB false), (51, vB true), (6, vI (j : Int)), (5, vB false), (4, .p 0 0), (3, vI (i : Int)), (0, .v s.val)] [] [] rfl (by kernel_rfl) on wn ?_
          cases h16 : inB ((s.at i).line.at j) 1 9 with
          | true =>
           refine Hq [(14, .idx (s.at i).line.ad j), (15, .ext [.int .i64 ((s.at i).line.at j)])] [(11, true), (12, false), (13, true), (14, true), (15, false), (16, true), (17, false), (18, true), (19, true), (20, true)] [(74, vB (decide (((s.at i).line.at j) = (s.at i).holder))), (73, vB (decide (((s.at i).line.at j) = (s.at i).holder))), (72, vB (decide (((s.at i).line.at j) = (s.at i).holder))), (71, vI (s.at i).holder), (70, .p 0 1), (69, vI ((s.at i).line.at j)), (68, .v (.pointer (some ((s.at i).line.ad.add (j * 1))))), (67, vI (j : Int)), (66, .v (s.at i).line.val), (65, .p 0 3), (64, vB false), (63, vB false), (62, vB false), (61, vB true), (60, vI ((s.at i).line.at j)), (59, .v (.pointer (some ((s.at i).line.ad.add (j * 1))))), (58, vI (j : Int)), (57, .v (s.at i).line.val), (56, .p 0 3), (55, vB false), (54, vB false), (51, vB true), (6, vI (j : Int)), (5, vB false), (4, .p 0 0), (3, vI (i : Int)), (0, .v s.val)] [(s.at i).line.A = some (s.at i).line.ad, (j : Int) = (j : Int), j < (s.at i).line.n] [((s.at i).line.ad.add (j * 1), [.int .i64 ((s.at i).line.at j)])] rfl (by kernel_rfl) (oc (Sl.ok.own (s := (s.at i).line) (i := j) (And.right (Sl.ok.at (s := s) (i := i) oks (by omega))) (by omega)) (oc rfl (oc (by omega) on))) (fun w hk hr => ⟨(Sl.rd.all (s := (s.at i).line) (i := j) (And.right (Sl.rd.sub (s := s) (i := i) (Sl.rd.kp hs hk) (by omega))) (by omega) rfl), trivial⟩) ?_
           cases h17 : decide (((s.at i).line.at j) = (s.at i).holder) with
           | true =>
            have h17 := of_decide_eq_true h17
            refine Hq [] [(21, true), (22, false), (23, true), (24, true), (25, true), (26, false), (27, true), (28, true), (29, false)] [(83, .v (undef)), (82, .v (undef)), (81, .v (undef)), (80, .v (undef)), (79, .v (undef)), (78, .v (undef)), (77, .v (undef)), (76, .v (undef)), (75, .v (undef)), (74, vB true), (73, vB true), (72, vB true), (71, vI (s.at i).holder), (70, .p 0 1), (69, vI ((s.at i).line.at j)), (68, .v (.pointer (some ((s.at i).line.ad.add (j * 1))))), (67, vI (j : Int)), (66, .v (s.at i).line.val), (65, .p 0 3), (64, vB false), (63, vB false), (62, vB false), (61, vB true), (60, vI ((s.at i).line.at j)), (59, .v (.pointer (some ((s.at i).line.ad.add (j * 1))))), (58, vI (j : Int)), (57, .v (s.at i).line.val), (56, .p 0 3), (55, vB false), (54, vB false), (51, vB true), (6, vI (j : Int)), (5, vB false), (4, .p 0 0), (3, vI (i : Int)), (0, .v s.val)] [] [] rfl (by kernel_rfl) on wn ?_
            refine Hp rfl rfl rfl ?_
            refine Hq [] [(31, true), (32, true)] [(5, vB true), (85, vB true), (84, .v (undef)), (83, .v (undef)), (82, .v (undef)), (81, .v (undef)), (80, .v (undef)), (79, .v (undef)), (78, .v (undef)), (77, .v (undef)), (76, .v (undef)), (75, .v (undef)), (74, vB true), (73, vB true), (72, vB true), (71, vI (s.at i).holder), (70, .p 0 1), (69, vI ((s.at i).line.at j)), (68, .v (.pointer (some ((s.at i).line.ad.add (j * 1))))), (67, vI (j : Int)), (66, .v (s.at i).line.val), (65, .p 0 3), (64, vB false), (63, vB false), (62, vB false), (61, vB true), (60, vI ((s.at i).line.at j)), (59, .v (.pointer (some ((s.at i).line.ad.add (j * 1))))), (58, vI (j : Int)), (57, .v (s.at i).line.val), (56, .p 0 3), (55, vB false), (54, vB false), (51, vB true), (6, vI (j : Int)), (4, .p 0 0), (3, vI (i : Int)), (0, .v s.val)] [] [] rfl (by kernel_rfl) on wn ?_
            refine Hn (Ln (q_block_normal (Qn (Cg (Jr 3 [] [6, 5, 4, 3, 0] 1 ⟨[(6, vI ((j : Int) + 1)), (5, vB true), (4, .p 0 0), (3, vI (i : Int)), (0, .v s.val)], [⟨74, (s.at i).cs⟩]⟩ [inR ((j : Int) + 1)] [] (by kernel_rfl) (oc (by unfold inR; omega) on) wn (Ln (Ql (x := (⟨j, b⟩ : Nat × Bool)) (⟨j + 1, true⟩ : Nat × Bool) ⟨by omega, by simp only [allTo, hp]; simp_all⟩ (by show (s.at i).line.n - (j + 1) < (s.at i).line.n - j; omega) (Ss [6, 5, 4, 3, 0] 1 (by kernel_rfl) rfl))))))))
           | false =>
            have h17 := of_decide_eq_false h17
            refine Hq [(24, .sl 0 j), (28, .idx (s.at i).line.ad j), (29, .ext [.int .i64 ((s.at i).line.at j)])] [(21, true), (22, false), (23, true), (24, true), (25, true), (26, false), (27, true), (28, true), (29, false)] [(83, vI ((s.at i).line.at j)), (82, .v (.pointer (some ((s.at i).line.ad.add (j * 1))))), (81, vI (j : Int)), (80, .v (s.at i).line.val), (79, .p 0 3), (78, .v (.slice (s.at i).line.A j (s.at i).line.c)), (77, vI (j : Int)), (76, .v (s.at i).line.val), (75, .p 0 3), (74, vB false), (73, vB false), (72, vB false), (71, vI (s.at i).holder), (70, .p 0 1), (69, vI ((s.at i).line.at j)), (68, .v (.pointer (some ((s.at i).line.ad.add (j * 1))))), (67, vI (j : Int)), (66, .v (s.at i).line.val), (65, .p 0 3), (64, vB false), (63, vB false), (62, vB false), (61, vB true), (60, vI ((s.at i).line.at j)), (59, .v (.pointer (some ((s.at i).line.ad.add (j * 1))))), (58, vI (j : Int)), (57, .v (s.at i).line.val), (56, .p 0 3), (55, vB false), (54, vB false), (51, vB true), (6, vI (j : Int)), (5, vB false), (4, .p 0 0), (3, vI (i : Int)), (0, .v s.val)] [0 = 0, (j : Int) = (j : Int), j ≤ (s.at i).line.c, (s.at i).line.A = some (s.at i).line.ad, (j : Int) = (j : Int), j < (s.at i).line.n] [((s.at i).line.ad.add (j * 1), [.int .i64 ((s.at i).line.at j)])] rfl (by kernel_rfl) (oc rfl (oc rfl (oc (by omega) (oc (Sl.ok.own (s := (s.at i).line) (i := j) (And.right (Sl.ok.at (s := s) (i := i) oks (by omega))) (by omega)) (oc rfl (oc (by omega) on)))))) (fun w hk hr => ⟨(Sl.rd.all (s := (s.at i).line) (i := j) (And.right (Sl.rd.sub (s := s) (i := i) (Sl.rd.kp hs hk) (by omega))) (by omega) rfl), trivial⟩) ?_
            refine h_pure 90 [] [.v (.slice (s.at i).line.A j (s.at i).line.c), vI ((s.at i).line.at j)] (.bool (((s.at i).line.xs.take j).any fun z => decide (z = ((s.at i).line.at j)))) rfl Try.call90 rfl rfl rfl rfl (fun bs w hS => ref_has (s.at i).line j ((s.at i).line.at j) w (And.right (Sl.rd.sub (s := s) (i := i) (Sl.rd.kp hs hS.kp) (by omega))) (by omega)) (fun bs0 bs w hp hl hS => hS.down hp hl rfl (le_same le_nil) .slnil) ?_
            refine Hq [] [(31, true), (32, true)] [(5, vB (((s.at i).line.xs.take j).any fun z => decide (z = ((s.at i).line.at j)))), (85, vB (((s.at i).line.xs.take j).any fun z => decide (z = ((s.at i).line.at j)))), (84, vB (((s.at i).line.xs.take j).any fun z => decide (z = ((s.at i).line.at j)))), (83, vI ((s.at i).line.at j)), (82, .v (.pointer (some ((s.at i).line.ad.add (j * 1))))), (81, vI (j : Int)), (80, .v (s.at i).line.val), (79, .p 0 3), (78, .v (.slice (s.at i).line.A j (s.at i).line.c)), (77, vI (j : Int)), (76, .v (s.at i).line.val), (75, .p 0 3), (74, vB false), (73, vB false), (72, vB false), (71, vI (s.at i).holder), (70, .p 0 1), (69, vI ((s.at i).line.at j)), (68, .v (.pointer (some ((s.at i).line.ad.add (j * 1))))), (67, vI (j : Int)), (66, .v (s.at i).line.val), (65, .p 0 3), (64, vB false), (63, vB false), (62, vB false), (61, vB true), (60, vI ((s.at i).line.at j)), (59, .v (.pointer (some ((s.at i).line.ad.add (j * 1))))), (58, vI (j : Int)), (57, .v (s.at i).line.val), (56, .p 0 3), (55, vB false), (54, vB false), (51, vB true), (6, vI (j : Int)), (4, .p 0 0), (3, vI (i : Int)), (0, .v s.val)] [] [] rfl (by kernel_rfl) on wn ?_
            refine Hn (Ln (q_block_normal (Qn (Cg (Jr 3 [] [6, 5, 4, 3, 0] 1 ⟨[(6, vI ((j : Int) + 1)), (5, vB (((s.at i).line.xs.take j).any fun z => decide (z = ((s.at i).line.at j)))), (4, .p 0 0), (3, vI (i : Int)), (0, .v s.val)], [⟨74, (s.at i).cs⟩]⟩ [inR ((j : Int) + 1)] [] (by kernel_rfl) (oc (by unfold inR; omega) on) wn (Ln (Ql (x := (⟨j, b⟩ : Nat × Bool)) (⟨j + 1, ((s.at i).line.xs.take j).any fun z => decide (z = ((s.at i).line.at j))⟩ : Nat × Bool) ⟨by omega, by simp only [allTo, hp]; simp_all⟩ (by show (s.at i).line.n - (j + 1) < (s.at i).line.n - j; omega) (Ss [6, 5, 4, 3, 0] 1 (by kernel_rfl) rfl))))))))
          | false =>
           refine Hq [] [(11, true), (12, false), (13, true), (14, true), (15, false), (16, true), (17, false), (18, true), (19, true), (20, true), (21, true), (22, false), (23, true), (24, true), (25, true), (26, false), (27, true), (28, true), (29, false)] [(83, .v (undef)), (82, .v (undef)), (81, .v (undef)), (80, .v (undef)), (79, .v (undef)), (78, .v (undef)), (77, .v (undef)), (76, .v (undef)), (75, .v (undef)), (74, vB true), (73, vB true), (72, .v (undef)), (71, .v (undef)), (70, .v (undef)), (69, .v (undef)), (68, .v (undef)), (67, .v (undef)), (66, .v (undef)), (65, .v (undef)), (64, vB true), (63, vB true), (62, vB true), (61, vB false), (60, vI ((s.at i).line.at j)), (59, .v (.pointer (some ((s.at i).line.ad.add (j * 1))))), (58, vI (j : Int)), (57, .v (s.at i).line.val), (56, .p 0 3), (55, vB false), (54, vB false), (51, vB true), (6, vI (j : Int)), (5, vB false), (4, .p 0 0), (3, vI (i : Int)), (0, .v s.val)] [] [] rfl (by kernel_rfl) on wn ?_
           refine Hp rfl rfl rfl ?_
           refine Hq [] [(31, true), (32, true)] [(5, vB true), (85, vB true), (84, .v (undef)), (83, .v (undef)), (82, .v (undef)), (81, .v (undef)), (80, .v (undef)), (79, .v (undef)), (78, .v (undef)), (77, .v (undef)), (76, .v (undef)), (75, .v (undef)), (74, vB true), (73, vB true), (72, .v (undef)), (71, .v (undef)), (70, .v (undef)), (69, .v (undef)), (68, .v (undef)), (67, .v (undef)), (66, .v (undef)), (65, .v (undef)), (64, vB true), (63, vB true), (62, vB true), (61, vB false), (60, vI ((s.at i).line.at j)), (59, .v (.pointer (some ((s.at i).line.ad.add (j * 1))))), (58, vI (j : Int)), (57, .v (s.at i).line.val), (56, .p 0 3), (55, vB false), (54, vB false), (51, vB true), (6, vI (j : Int)), (4, .p 0 0), (3, vI (i : Int)), (0, .v s.val)] [] [] rfl (by kernel_rfl) on wn ?_
           refine Hn (Ln (q_block_normal (Qn (Cg (Jr 3 [] [6, 5, 4, 3, 0] 1 ⟨[(6, vI ((j : Int) + 1)), (5, vB true), (4, .p 0 0), (3, vI (i : Int)), (0, .v s.val)], [⟨74, (s.at i).cs⟩]⟩ [inR ((j : Int) + 1)] [] (by kernel_rfl) (oc (by unfold inR; omega) on) wn (Ln (Ql (x := (⟨j, b⟩ : Nat × Bool)) (⟨j + 1, true⟩ : Nat × Bool) ⟨by omega, by simp only [allTo, hp]; simp_all⟩ (by show (s.at i).line.n - (j + 1) < (s.at i).line.n - j; omega) (Ss [6, 5, 4, 3, 0] 1 (by kernel_rfl) rfl))))))))
        | false =>
         have h14 := of_decide_eq_false h14
         refine Ci false rfl (c_exit (Qe (Qe (Qh (Qn (Cs (Cs (Cg (Jq 1 [86, 4, 3, 0] 1 ⟨[(86, vB b), (4, .p 0 0), (3, vI (i : Int)), (0, .v s.val)], [⟨74, (s.at i).cs⟩]⟩ (Ln (Qn ?_)))))))))))
         cases h18 : b with
         | true =>
          refine Ci true rfl (Cs (Cg (Jq 1 [2] 0 ⟨[(2, vI 4)], []⟩ (Ln (Qn (Cr (Qr (Qb (Qr (Qr (Qb (Qr (Rt (.inl rfl) [vI 4] rfl (fun bs w hS => (⟨?_, hS.kp⟩)))))))))))))))
          simp only [retOf, den, List.map_cons, List.map_nil]
          have hf : lockF (s.xs.map CLock.abs) i = 4 := by
           have hor : mName (s.at i).name = false ∨ (s.at i).holder < 0 ∨ 9 < (s.at i).holder ∨ lineOk (s.at i).abs = false := by
            first | exact .inl (by assumption) | exact .inr ((show (s.at i).holder < 0 ∨ 9 < (s.at i).holder by omega).elim .inl (fun h => .inr (.inl h))) | exact .inr (.inr (.inr (lineOk_false (.inr (.inl (by show 3 < (s.at i).line.n; omega)))))) | exact .inr (.inr (.inr (lineOk_false (.inr (.inr ⟨by show (s.at i).holder = 0; omega, by show 0 < (s.at i).line.n; omega⟩))))) | exact .inr (.inr (.inr (lineOk_false (.inl (by show allTo _ (s.at i).line.n = false; rw [show (s.at i).line.n = j by omega]; cases hq : allTo (posOk (s.at i).abs) j <;> simp_all)))))
           unfold lockF
           simp only [hat, hq1, hq2, hq3]
           rw [if_pos hor]
          rw [hI, firstF_here (by omega) hf (by omega)]
         | false =>
          refine Ci false rfl (Ck (Qn (Cs (Cs (Cg (Jq 2 [88, 4, 3, 0] 1 ⟨[(88, vI (s.at i).fence), (4, .p 0 0), (3, vI (i : Int)), (0, .v s.val)], [⟨74, (s.at i).cs⟩]⟩ (Lp 41 [] [vI (s.at i).fence, vI 1, vI 1073741824] (.bool (inB (s.at i).fence 1 1073741824)) Try.call41 rfl rfl rfl rfl (fun bs w hS => ref_In _ _ _ w) (Jq 1 [90, 4, 3, 0] 1 ⟨[(90, vB (!(inB (s.at i).fence 1 1073741824))), (4, .p 0 0), (3, vI (i : Int)), (0, .v s.val)], [⟨74, (s.at i).cs⟩]⟩ (Ln (Qn ?_))))))))))
          cases h19 : inB (s.at i).fence 1 1073741824 with
          | true =>
           simp only [inB, Bool.and_eq_true, Bool.and_eq_false_iff, decide_eq_true_eq, decide_eq_false_iff_not] at h19
           refine Ci false rfl (Ck (Qn (Cs (Cd 13 [] (.p 0 (.p 1 (.p 2 (.p 3 (.q 4 (.p 5 (.p 6 (.p 7 (.p 8 (.p 9 (.q 10 (.p 11 (.p 12 .nil))))))))))))) [] [] Try_mixed (by kernel_rfl) (pq_then (pq_block (pq_then (pq_then (pq_block (pq_then pq_body)))))) .slnil (Hq [] [(0, true), (1, true), (2, true)] [(93, vB (decide ((0 : Int) < (i : Int)))), (92, vB (decide ((0 : Int) < (i : Int)))), (91, vI (i : Int)), (90, vB false), (4, .p 0 0), (3, vI (i : Int)), (0, .v s.val)] [] [] rfl (by kernel_rfl) on wn ?_)))))
           cases h20 : decide ((0 : Int) < (i : Int)) with
           | true =>
            have h20 := of_decide_eq_true h20
            refine Hq [(8, .idx s.ad (i - 1)), (10, .ext [.string (s.at (i - 1)).name])] [(3, true), (4, false), (5, true), (6, true), (7, true), (8, true), (9, true), (10, false), (11, true), (12, true)] [(103, vB (Op.bytesLess ((s.at i).name).toList ((s.at (i - 1)).name).toList || decide ((s.at i).name = (s.at (i - 1)).name))), (102, vB (Op.bytesLess ((s.at i).name).toList ((s.at (i - 1)).name).toList || decide ((s.at i).name = (s.at (i - 1)).name))), (101, vS (s.at (i - 1)).name), (100, .v (.pointer (some ((s.ad.add ((i - 1) * 4)).add 0)))), (99, .v (.pointer (some (s.ad.add ((i - 1) * 4))))), (98, vI ((i : Int) - 1)), (97, vI (i : Int)), (96, .v s.val), (95, vS (s.at i).name), (94, .p 0 0), (93, vB true), (92, vB true), (91, vI (i : Int)), (90, vB false), (4, .p 0 0), (3, vI (i : Int)), (0, .v s.val)] [inR ((i : Int) - 1), s.A = some s.ad, (i : Int) - 1 = (((i - 1) : Nat) : Int), (i - 1) < s.n] [((s.ad.add ((i - 1) * 4)).add 0, [.string (s.at (i - 1)).name])] rfl (by kernel_rfl) (oc (by unfold inR; omega) (oc (Sl.ok.own (s := s) (i := (i - 1)) oks (by omega)) (oc (by omega) (oc (by omega) on)))) (fun w hk hr => ⟨(Sl.rd.fld (s := s) (i := (i - 1)) (Sl.rd.kp hs hk) (by omega) 0 1 rfl), trivial⟩) ?_
            refine Hn (Ln (Qn ?_))
            cases h21 : Op.bytesLess ((s.at i).name).toList ((s.at (i - 1)).name).toList || decide ((s.at i).name = (s.at (i - 1)).name) with
            | true =>
             rw [bytes_total] at h21
             simp only [Bool.not_eq_true', Bool.not_eq_false', Bool.not_eq_true, Bool.not_eq_false] at h21
             refine Ci true rfl (Cs (Cg (Jq 1 [2] 0 ⟨[(2, vI 14)], []⟩ (Ln (Qn (Cr (Qb (Qr (Qr (Qb (Qr (Rt (.inl rfl) [vI 14] rfl (fun bs w hS => (⟨?_, hS.kp⟩))))))))))))))
             simp only [retOf, den, List.map_cons, List.map_nil]
             have hf : lockF (s.xs.map CLock.abs) i = 14 := by
              have hjn : (s.at i).line.n = j := by omega
              have hall : allTo (posOk (s.at i).abs) (s.at i).line.n = true := by rw [hjn]; cases hq : allTo (posOk (s.at i).abs) j <;> simp_all
              have hlo : lineOk (s.at i).abs = true := lineOk_true hall (by show (s.at i).line.n ≤ 3; omega) (by show ¬ (s.at i).holder = 0 ∨ (s.at i).line.n = 0; omega)
              unfold lockF
              simp only [hat, hq1, hq2, hq3]
              try simp only [hlo]
              try simp only [h1, h2, h3, h4, h5, h9, h10, h14, h18, h19, h20, h21, emp_size, ne_eq, not_true_eq_false, not_false_eq_true, true_or, or_true, false_or, or_false, and_true, true_and, and_false, false_and, and_self, or_self, if_true, if_false, Bool.true_eq_false, Bool.false_eq_true, reduceIte, Classical.not_not, Bool.and_eq_true, decide_eq_true_eq]
              repeat (first | rw [if_pos (by omega)] | rw [if_neg (by omega)])
              all_goals first | rfl | (exfalso; omega)
             rw [hI, firstF_here (by omega) hf (by omega)]
            | false =>
             rw [bytes_total] at h21
             simp only [Bool.not_eq_true', Bool.not_eq_false', Bool.not_eq_true, Bool.not_eq_false] at h21
             refine Ci false rfl (Ck (q_block_normal (Qn (Cg (Jr 3 [] [3, 0] 0 ⟨[(3, vI ((i : Int) + 1)), (0, .v s.val)], []⟩ [inR ((i : Int) + 1)] [] (by kernel_rfl) (oc (by unfold inR; omega) on) wn ?_)))))
             have hf0 : lockF (s.xs.map CLock.abs) i = 0 := by
              have hjn : (s.at i).line.n = j := by omega
              have hall : allTo (posOk (s.at i).abs) (s.at i).line.n = true := by rw [hjn]; cases hq : allTo (posOk (s.at i).abs) j <;> simp_all
              have hlo : lineOk (s.at i).abs = true := lineOk_true hall (by show (s.at i).line.n ≤ 3; omega) (by show ¬ (s.at i).holder = 0 ∨ (s.at i).line.n = 0; omega)
              unfold lockF
              simp only [hat, hq1, hq2, hq3]
              try simp only [hlo]
              try simp only [h1, h2, h3, h4, h5, h9, h10, h14, h18, h19, h20, h21, emp_size, ne_eq, not_true_eq_false, not_false_eq_true, true_or, or_true, false_or, or_false, and_true, true_and, and_false, false_and, and_self, or_self, if_true, if_false, Bool.true_eq_false, Bool.false_eq_true, reduceIte, Classical.not_not, Bool.and_eq_true, decide_eq_true_eq]
              repeat (first | rw [if_pos (by omega)] | rw [if_neg (by omega)])
              all_goals first | rfl | (exfalso; omega)
             refine Ln (Ql (x := (i : Nat)) ((i + 1) : Nat) ⟨by omega, by rw [hI]; exact firstF_step (by omega) hf0⟩ (by omega) (Ss [3, 0] 0 (by kernel_rfl) rfl))
           | false =>
            have h20 := of_decide_eq_false h20
            refine Hq [] [(3, true), (4, false), (5, true), (6, true), (7, true), (8, true), (9, true), (10, false), (11, true), (12, true)] [(103, vB false), (102, .v (undef)), (101, .v (undef)), (100, .v (undef)), (99, .v (undef)), (98, .v (undef)), (97, .v (undef)), (96, .v (undef)), (95, .v (undef)), (94, .v (undef)), (93, vB false), (92, vB false), (91, vI (i : Int)), (90, vB false), (4, .p 0 0), (3, vI (i : Int)), (0, .v s.val)] [] [] rfl (by kernel_rfl) on wn ?_
            refine Hn (Ln (Qn (Ci false rfl (Ck (q_block_normal (Qn (Cg (Jr 3 [] [3, 0] 0 ⟨[(3, vI ((i : Int) + 1)), (0, .v s.val)], []⟩ [inR ((i : Int) + 1)] [] (by kernel_rfl) (oc (by unfold inR; omega) on) wn ?_))))))))
            have hf0 : lockF (s.xs.map CLock.abs) i = 0 := by
             have hjn : (s.at i).line.n = j := by omega
             have hall : allTo (posOk (s.at i).abs) (s.at i).line.n = true := by rw [hjn]; cases hq : allTo (posOk (s.at i).abs) j <;> simp_all
             have hlo : lineOk (s.at i).abs = true := lineOk_true hall (by show (s.at i).line.n ≤ 3; omega) (by show ¬ (s.at i).holder = 0 ∨ (s.at i).line.n = 0; omega)
             unfold lockF
             simp only [hat, hq1, hq2, hq3]
             try simp only [hlo]
             try simp only [h1, h2, h3, h4, h5, h9, h10, h14, h18, h19, h20, emp_size, ne_eq, not_true_eq_false, not_false_eq_true, true_or, or_true, false_or, or_false, and_true, true_and, and_false, false_and, and_self, or_self, if_true, if_false, Bool.true_eq_false, Bool.false_eq_true, reduceIte, Classical.not_not, Bool.and_eq_true, decide_eq_true_eq]
             repeat (first | rw [if_pos (by omega)] | rw [if_neg (by omega)])
             all_goals first | rfl | (exfalso; omega)
            refine Ln (Ql (x := (i : Nat)) ((i + 1) : Nat) ⟨by omega, by rw [hI]; exact firstF_step (by omega) hf0⟩ (by omega) (Ss [3, 0] 0 (by kernel_rfl) rfl))
          | false =>
           simp only [inB, Bool.and_eq_true, Bool.and_eq_false_iff, decide_eq_true_eq, decide_eq_false_iff_not] at h19
           refine Ci true rfl (Cs (Cg (Jq 1 [2] 0 ⟨[(2, vI 2)], []⟩ (Ln (Qn (Cr (Qr (Qb (Qr (Qr (Qb (Qr (Rt (.inl rfl) [vI 2] rfl (fun bs w hS => (⟨?_, hS.kp⟩)))))))))))))))
           simp only [retOf, den, List.map_cons, List.map_nil]
           have hf : lockF (s.xs.map CLock.abs) i = 2 := by
            have hjn : (s.at i).line.n = j := by omega
            have hall : allTo (posOk (s.at i).abs) (s.at i).line.n = true := by rw [hjn]; cases hq : allTo (posOk (s.at i).abs) j <;> simp_all
            have hlo : lineOk (s.at i).abs = true := lineOk_true hall (by show (s.at i).line.n ≤ 3; omega) (by show ¬ (s.at i).holder = 0 ∨ (s.at i).line.n = 0; omega)
            unfold lockF
            simp only [hat, hq1, hq2, hq3]
            try simp only [hlo]
            try simp only [h1, h2, h3, h4, h5, h9, h10, h14, h18, h19, emp_size, ne_eq, not_true_eq_false, not_false_eq_true, true_or, or_true, false_or, or_false, and_true, true_and, and_false, false_and, and_self, or_self, if_true, if_false, Bool.true_eq_false, Bool.false_eq_true, reduceIte, Classical.not_not, Bool.and_eq_true, decide_eq_true_eq]
            repeat (first | rw [if_pos (by omega)] | rw [if_neg (by omega)])
            all_goals first | rfl | (exfalso; omega)
           rw [hI, firstF_here (by omega) hf (by omega)]
      | false =>
       have h9 := of_decide_eq_false h9
       refine Jq 7 [5, 4, 3, 0] 1 ⟨[(5, vB false), (4, .p 0 0), (3, vI (i : Int)), (0, .v s.val)], [⟨74, (s.at i).cs⟩]⟩ (Ln (Qn (Cs (Cs (Cg (Jq 1 [6, 5, 4, 3, 0] 1 ⟨[(6, vI 0), (5, vB false), (4, .p 0 0), (3, vI (i : Int)), (0, .v s.val)], [⟨74, (s.at i).cs⟩]⟩ (Ln (Qn (Cb (Cl (σ := Nat × Bool) (fun ⟨j, b⟩ => j ≤ (s.at i).line.n ∧ b = (false || !(allTo (posOk (s.at i).abs) j))) (fun ⟨j, b⟩ => (s.at i).line.n - j) (fun ⟨j, b⟩ => []) (fun ⟨j, b⟩ => ⟨[(6, vI (j : Int)), (5, vB b), (4, .p 0 0), (3, vI (i : Int)), (0, .v s.val)], [⟨74, (s.at i).cs⟩]⟩) ⟨0, false⟩ ⟨Nat.zero_le _, by simp [allTo]⟩ (Ss [6, 5, 4, 3, 0] 1 (by kernel_rfl) rfl) ?_))))))))))
       rintro ⟨j, b⟩ ⟨hj, hJ⟩
       have ncl := Sl.ok.nc (And.right (Sl.ok.at oks (show i < s.n by omega)))
       refine Cs (Cs (Cg (Jq 5 [51, 6, 5, 4, 3, 0] 1 ⟨[(51, vB (decide ((j : Int) < (((s.at i).line.n : Nat) : Int)))), (6, vI (j : Int)), (5, vB b), (4, .p 0 0), (3, vI (i : Int)), (0, .v s.val)], [⟨74, (s.at i).cs⟩]⟩ (Ln (Qn ?_)))))
       cases h22 : decide ((j : Int) < (((s.at i).line.n : Nat) : Int)) with
       | true =>
        have h22 := of_decide_eq_true h22
        refine Ci true rfl (Ck (Qn (Cs (Cb (Cd 33 [] (.p 0 (.p 1 (.p 2 (.q 3 (.p 4 (.p 5 (.q 6 (.b 7 (.p 8 (.p 9 (.p 10 (.p 11 (.q 12 (.p 13 (.p 14 (.q 15 (.p 16 (.q 17 (.p 18 (.p 19 (.p 20 (.p 21 (.q 22 (.p 23 (.p 24 (.p 25 (.q 26 (.p 27 (.p 28 (.q 29 (.b 30 (.p 31 (.p 32 .nil)) .z))))))))))))))))))))))) .z)))))))) [] [] Try_mixed (by kernel_rfl) (pq_block (pq_then (pq_then (pq_block (pq_then (pq_block (pq_then (pq_then (pq_block (pq_then pq_body)))))))))) .slnil (Hq [] [(0, true), (1, true)] [(55, vB b), (54, vB b), (51, vB true), (6, vI (j : Int)), (5, vB b), (4, .p 0 0), (3, vI (i : Int)), (0, .v s.val)] [] [] rfl (by kernel_rfl) on wn ?_))))))
        cases h23 : b with
        | true =>
         refine Hq [] [(2, true), (3, false), (4, true), (5, true), (6, false)] [(60, .v (undef)), (59, .v (undef)), (58, .v (undef)), (57, .v (undef)), (56, .v (undef)), (55, vB true), (54, vB true), (51, vB true), (6, vI (j : Int)), (5, vB true), (4, .p 0 0), (3, vI (i : Int)), (0, .v s.val)] [] [] rfl (by kernel_rfl) on wn ?_
         refine Hp rfl rfl rfl ?_
         refine Hq [] [(8, true), (9, true), (10, true), (11, true), (12, false), (13, true), (14, true), (15, false), (16, true), (17, false), (18, true), (19, true), (20, true), (21, true), (22, false), (23, true), (24, true), (25, true), (26, false), (27, true), (28, true), (29, false)] [(83, .v (undef)), (82, .v (undef)), (81, .v (undef)), (80, .v (undef)), (79, .v (undef)), (78, .v (undef)), (77, .v (undef)), (76, .v (undef)), (75, .v (undef)), (74, vB true), (73, vB true), (72, .v (undef)), (71, .v (undef)), (70, .v (undef)), (69, .v (undef)), (68, .v (undef)), (67, .v (undef)), (66, .v (undef)), (65, .v (undef)), (64, vB true), (63, vB true), (62, .v (undef)), (61, .v (undef)), (60, .v (undef)), (59, .v (undef)), (58, .v (undef)), (57, .v (undef)), (56, .v (undef)), (55, vB true), (54, vB true), (51, vB true), (6, vI (j : Int)), (5, vB true), (4, .p 0 0), (3, vI (i : Int)), (0, .v s.val)] [] [] rfl (by kernel_rfl) on wn ?_
         refine Hp rfl rfl rfl ?_
         refine Hq [] [(31, true), (32, true)] [(5, vB true), (85, vB true), (84, .v (undef)), (83, .v (undef)), (82, .v (undef)), (81, .v (undef)), (80, .v (undef)), (79, .v (undef)), (78, .v (undef)), (77, .v (undef)), (76, .v (undef)), (75, .v (undef)), (74, vB true), (73, vB true), (72, .v (undef)), (71, .v (undef)), (70, .v (undef)), (69, .v (undef)), (68, .v (undef)), (67, .v (undef)), (66, .v (undef)), (65, .v (undef)), (64, vB true), (63, vB true), (62, .v (undef)), (61, .v (undef)), (60, .v (undef)), (59, .v (undef)), (58, .v (undef)), (57, .v (undef)), (56, .v (undef)), (55, vB true), (54, vB true), (51, vB true), (6, vI (j : Int)), (4, .p 0 0), (3, vI (i : Int)), (0, .v s.val)] [] [] rfl (by kernel_rfl) on wn ?_
         refine Hn (Ln (q_block_normal (Qn (Cg (Jr 3 [] [6, 5, 4, 3, 0] 1 ⟨[(6, vI ((j : Int) + 1)), (5, vB true), (4, .p 0 0), (3, vI (i : Int)), (0, .v s.val)], [⟨74, (s.at i).cs⟩]⟩ [inR ((j : Int) + 1)] [] (by kernel_rfl) (oc (by unfold inR; omega) on) wn (Ln (Ql (x := (⟨j, b⟩ : Nat × Bool)) (⟨j + 1, true⟩ : Nat × Bool) ⟨by omega, by simp only [allTo, hp]; simp_all⟩ (by show (s.at i).line.n - (j + 1) < (s.at i).line.n - j; omega) (Ss [6, 5, 4, 3, 0] 1 (by kernel_rfl) rfl))))))))
        | false =>
         refine Hq [(5, .idx (s.at i).line.ad j), (6, .ext [.int .i64 ((s.at i).line.at j)])] [(2, true), (3, false), (4, true), (5, true), (6, false)] [(60, vI ((s.at i).line.at j)), (59, .v (.pointer (some ((s.at i).line.ad.add (j * 1))))), (58, vI (j : Int)), (57, .v (s.at i).line.val), (56, .p 0 3), (55, vB false), (54, vB false), (51, vB true), (6, vI (j : Int)), (5, vB false), (4, .p 0 0), (3, vI (i : Int)), (0, .v s.val)] [(s.at i).line.A = some (s.at i).line.ad, (j : Int) = (j : Int), j < (s.at i).line.n] [((s.at i).line.ad.add (j * 1), [.int .i64 ((s.at i).line.at j)])] rfl (by kernel_rfl) (oc (Sl.ok.own (s := (s.at i).line) (i := j) (And.right (Sl.ok.at (s := s) (i := i) oks (by omega))) (by omega)) (oc rfl (oc (by omega) on))) (fun w hk hr => ⟨(Sl.rd.all (s := (s.at i).line) (i := j) (And.right (Sl.rd.sub (s := s) (i := i) (Sl.rd.kp hs hk) (by omega))) (by omega) rfl), trivial⟩) ?_
         refine h_pure 41 [] [vI ((s.at i).line.at j), vI 1, vI 9] (.bool (inB ((s.at i).line.at j) 1 9)) rfl Try.call41 rfl rfl rfl rfl (fun bs w hS => ref_In _ _ _ w) (fun bs0 bs w hp hl hS => hS.down hp hl rfl (le_same le_nil) .slnil) ?_
         refine Hq [] [(8, true), (9, true), (10, true)] [(64, vB (!(inB ((s.at i).line.at j) 1 9))), (63, vB (!(inB ((s.at i).line.at j) 1 9))), (62, vB (!(inB ((s.at i).line.at j) 1 9))), (61, vB (inB ((s.at i).line.at j) 1 9)), (60, vI ((s.at i).line.at j)), (59, .v (.pointer (some ((s.at i).line.ad.add (j * 1))))), (58, vI (j : Int)), (57, .v (s.at i).line.val), (56, .p 0 3), (55, vB false), (54, vB false), (51, vB true), (6, vI (j : Int)), (5, vB false), (4, .p 0 0), (3, vI (i : Int)), (0, .v s.val)] [] [] rfl (by kernel_rfl) on wn ?_
         cases h24 : inB ((s.at i).line.at j) 1 9 with
         | true =>
          refine Hq [(14, .idx (s.at i).line.ad j), (15, .ext [.int .i64 ((s.at i).line.at j)])] [(11, true), (12, false), (13, true), (14, true), (15, false), (16, true), (17, false), (18, true), (19, true), (20, true)] [(74, vB (decide (((s.at i).line.at j) = (s.at i).holder))), (73, vB (decide (((s.at i).line.at j) = (s.at i).holder))), (72, vB (decide (((s.at i).line.at j) = (s.at i).holder))), (71, vI (s.at i).holder), (70, .p 0 1), (69, vI ((s.at i).line.at j)), (68, .v (.pointer (some ((s.at i).line.ad.add (j * 1))))), (67, vI (j : Int)), (66, .v (s.at i).line.val), (65, .p 0 3), (64, vB false), (63, vB false), (62, vB false), (61, vB true), (60, vI ((s.at i).line.at j)), (59, .v (.pointer (some ((s.at i).line.ad.add (j * 1))))), (58, vI (j : Int)), (57, .v (s.at i).line.val), (56, .p 0 3), (55, vB false), (54, vB false), (51, vB true), (6, vI (j : Int)), (5, vB false), (4, .p 0 0), (3, vI (i : Int)), (0, .v s.val)] [(s.at i).line.A = some (s.at i).line.ad, (j : Int) = (j : Int), j < (s.at i).line.n] [((s.at i).line.ad.add (j * 1), [.int .i64 ((s.at i).line.at j)])] rfl (by kernel_rfl) (oc (Sl.ok.own (s := (s.at i).line) (i := j) (And.right (Sl.ok.at (s := s) (i := i) oks (by omega))) (by omega)) (oc rfl (oc (by omega) on))) (fun w hk hr => ⟨(Sl.rd.all (s := (s.at i).line) (i := j) (And.right (Sl.rd.sub (s := s) (i := i) (Sl.rd.kp hs hk) (by omega))) (by omega) rfl), trivial⟩) ?_
          cases h25 : decide (((s.at i).line.at j) = (s.at i).holder) with
          | true =>
           have h25 := of_decide_eq_true h25
           refine Hq [] [(21, true), (22, false), (23, true), (24, true), (25, true), (26, false), (27, true), (28, true), (29, false)] [(83, .v (undef)), (82, .v (undef)), (81, .v (undef)), (80, .v (undef)), (79, .v (undef)), (78, .v (undef)), (77, .v (undef)), (76, .v (undef)), (75, .v (undef)), (74, vB true), (73, vB true), (72, vB true), (71, vI (s.at i).holder), (70, .p 0 1), (69, vI ((s.at i).line.at j)), (68, .v (.pointer (some ((s.at i).line.ad.add (j * 1))))), (67, vI (j : Int)), (66, .v (s.at i).line.val), (65, .p 0 3), (64, vB false), (63, vB false), (62, vB false), (61, vB true), (60, vI ((s.at i).line.at j)), (59, .v (.pointer (some ((s.at i).line.ad.add (j * 1))))), (58, vI (j : Int)), (57, .v (s.at i).line.val), (56, .p 0 3), (55, vB false), (54, vB false), (51, vB true), (6, vI (j : Int)), (5, vB false), (4, .p 0 0), (3, vI (i : Int)), (0, .v s.val)] [] [] rfl (by kernel_rfl) on wn ?_
           refine Hp rfl rfl rfl ?_
           refine Hq [] [(31, true), (32, true)] [(5, vB true), (85, vB true), (84, .v (undef)), (83, .v (undef)), (82, .v (undef)), (81, .v (undef)), (80, .v (undef)), (79, .v (undef)), (78, .v (undef)), (77, .v (undef)), (76, .v (undef)), (75, .v (undef)), (74, vB true), (73, vB true), (72, vB true), (71, vI (s.at i).holder), (70, .p 0 1), (69, vI ((s.at i).line.at j)), (68, .v (.pointer (some ((s.at i).line.ad.add (j * 1))))), (67, vI (j : Int)), (66, .v (s.at i).line.val), (65, .p 0 3), (64, vB false), (63, vB false), (62, vB false), (61, vB true), (60, vI ((s.at i).line.at j)), (59, .v (.pointer (some ((s.at i).line.ad.add (j * 1))))), (58, vI (j : Int)), (57, .v (s.at i).line.val), (56, .p 0 3), (55, vB false), (54, vB false), (51, vB true), (6, vI (j : Int)), (4, .p 0 0), (3, vI (i : Int)), (0, .v s.val)] [] [] rfl (by kernel_rfl) on wn ?_
           refine Hn (Ln (q_block_normal (Qn (Cg (Jr 3 [] [6, 5, 4, 3, 0] 1 ⟨[(6, vI ((j : Int) + 1)), (5, vB true), (4, .p 0 0), (3, vI (i : Int)), (0, .v s.val)], [⟨74, (s.at i).cs⟩]⟩ [inR ((j : Int) + 1)] [] (by kernel_rfl) (oc (by unfold inR; omega) on) wn (Ln (Ql (x := (⟨j, b⟩ : Nat × Bool)) (⟨j + 1, true⟩ : Nat × Bool) ⟨by omega, by simp only [allTo, hp]; simp_all⟩ (by show (s.at i).line.n - (j + 1) < (s.at i).line.n - j; omega) (Ss [6, 5, 4, 3, 0] 1 (by kernel_rfl) rfl))))))))
          | false =>
           have h25 := of_decide_eq_false h25
           refine Hq [(24, .sl 0 j), (28, .idx (s.at i).line.ad j), (29, .ext [.int .i64 ((s.at i).line.at j)])] [(21, true), (22, false), (23, true), (24, true), (25, true), (26, false), (27, true), (28, true), (29, false)] [(83, vI ((s.at i).line.at j)), (82, .v (.pointer (some ((s.at i).line.ad.add (j * 1))))), (81, vI (j : Int)), (80, .v (s.at i).line.val), (79, .p 0 3), (78, .v (.slice (s.at i).line.A j (s.at i).line.c)), (77, vI (j : Int)), (76, .v (s.at i).line.val), (75, .p 0 3), (74, vB false), (73, vB false), (72, vB false), (71, vI (s.at i).holder), (70, .p 0 1), (69, vI ((s.at i).line.at j)), (68, .v (.pointer (some ((s.at i).line.ad.add (j * 1))))), (67, vI (j : Int)), (66, .v (s.at i).line.val), (65, .p 0 3), (64, vB false), (63, vB false), (62, vB false), (61, vB true), (60, vI ((s.at i).line.at j)), (59, .v (.pointer (some ((s.at i).line.ad.add (j * 1))))), (58, vI (j : Int)), (57, .v (s.at i).line.val), (56, .p 0 3), (55, vB false), (54, vB false), (51, vB true), (6, vI (j : Int)), (5, vB false), (4, .p 0 0), (3, vI (i : Int)), (0, .v s.val)] [0 = 0, (j : Int) = (j : Int), j ≤ (s.at i).line.c, (s.at i).line.A = some (s.at i).line.ad, (j : Int) = (j : Int), j < (s.at i).line.n] [((s.at i).line.ad.add (j * 1), [.int .i64 ((s.at i).line.at j)])] rfl (by kernel_rfl) (oc rfl (oc rfl (oc (by omega) (oc (Sl.ok.own (s := (s.at i).line) (i := j) (And.right (Sl.ok.at (s := s) (i := i) oks (by omega))) (by omega)) (oc rfl (oc (by omega) on)))))) (fun w hk hr => ⟨(Sl.rd.all (s := (s.at i).line) (i := j) (And.right (Sl.rd.sub (s := s) (i := i) (Sl.rd.kp hs hk) (by omega))) (by omega) rfl), trivial⟩) ?_
           refine h_pure 90 [] [.v (.slice (s.at i).line.A j (s.at i).line.c), vI ((s.at i).line.at j)] (.bool (((s.at i).line.xs.take j).any fun z => decide (z = ((s.at i).line.at j)))) rfl Try.call90 rfl rfl rfl rfl (fun bs w hS => ref_has (s.at i).line j ((s.at i).line.at j) w (And.right (Sl.rd.sub (s := s) (i := i) (Sl.rd.kp hs hS.kp) (by omega))) (by omega)) (fun bs0 bs w hp hl hS => hS.down hp hl rfl (le_same le_nil) .slnil) ?_
           refine Hq [] [(31, true), (32, true)] [(5, vB (((s.at i).line.xs.take j).any fun z => decide (z = ((s.at i).line.at j)))), (85, vB (((s.at i).line.xs.take j).any fun z => decide (z = ((s.at i).line.at j)))), (84, vB (((s.at i).line.xs.take j).any fun z => decide (z = ((s.at i).line.at j)))), (83, vI ((s.at i).line.at j)), (82, .v (.pointer (some ((s.at i).line.ad.add (j * 1))))), (81, vI (j : Int)), (80, .v (s.at i).line.val), (79, .p 0 3), (78, .v (.slice (s.at i).line.A j (s.at i).line.c)), (77, vI (j : Int)), (76, .v (s.at i).line.val), (75, .p 0 3), (74, vB false), (73, vB false), (72, vB false), (71, vI (s.at i).holder), (70, .p 0 1), (69, vI ((s.at i).line.at j)), (68, .v (.pointer (some ((s.at i).line.ad.add (j * 1))))), (67, vI (j : Int)), (66, .v (s.at i).line.val), (65, .p 0 3), (64, vB false), (63, vB false), (62, vB false), (61, vB true), (60, vI ((s.at i).line.at j)), (59, .v (.pointer (some ((s.at i).line.ad.add (j * 1))))), (58, vI (j : Int)), (57, .v (s.at i).line.val), (56, .p 0 3), (55, vB false), (54, vB false), (51, vB true), (6, vI (j : Int)), (4, .p 0 0), (3, vI (i : Int)), (0, .v s.val)] [] [] rfl (by kernel_rfl) on wn ?_
           refine Hn (Ln (q_block_normal (Qn (Cg (Jr 3 [] [6, 5, 4, 3, 0] 1 ⟨[(6, vI ((j : Int) + 1)), (5, vB (((s.at i).line.xs.take j).any fun z => decide (z = ((s.at i).line.at j)))), (4, .p 0 0), (3, vI (i : Int)), (0, .v s.val)], [⟨74, (s.at i).cs⟩]⟩ [inR ((j : Int) + 1)] [] (by kernel_rfl) (oc (by unfold inR; omega) on) wn (Ln (Ql (x := (⟨j, b⟩ : Nat × Bool)) (⟨j + 1, ((s.at i).line.xs.take j).any fun z => decide (z = ((s.at i).line.at j))⟩ : Nat × Bool) ⟨by omega, by simp only [allTo, hp]; simp_all⟩ (by show (s.at i).line.n - (j + 1) < (s.at i).line.n - j; omega) (Ss [6, 5, 4, 3, 0] 1 (by kernel_rfl) rfl))))))))
         | false =>
          refine Hq [] [(11, true), (12, false), (13, true), (14, true), (15, false), (16, true), (17, false), (18, true), (19, true), (20, true), (21, true), (22, false), (23, true), (24, true), (25, true), (26, false), (27, true), (28, true), (29, false)] [(83, .v (undef)), (82, .v (undef)), (81, .v (undef)), (80, .v (undef)), (79, .v (undef)), (78, .v (undef)), (77, .v (undef)), (76, .v (undef)), (75, .v (undef)), (74, vB true), (73, vB true), (72, .v (undef)), (71, .v (undef)), (70, .v (undef)), (69, .v (undef)), (68, .v (undef)), (67, .v (undef)), (66, .v (undef)), (65, .v (undef)), (64, vB true), (63, vB true), (62, vB true), (61, vB false), (60, vI ((s.at i).line.at j)), (59, .v (.pointer (some ((s.at i).line.ad.add (j * 1))))), (58, vI (j : Int)), (57, .v (s.at i).line.val), (56, .p 0 3), (55, vB false), (54, vB false), (51, vB true), (6, vI (j : Int)), (5, vB false), (4, .p 0 0), (3, vI (i : Int)), (0, .v s.val)] [] [] rfl (by kernel_rfl) on wn ?_
          refine Hp rfl rfl rfl ?_
          refine Hq [] [(31, true), (32, true)] [(5, vB true), (85, vB true), (84, .v (undef)), (83, .v (undef)), (82, .v (undef)), (81, .v (undef)), (80, .v (undef)), (79, .v (undef)), (78, .v (undef)), (77, .v (undef)), (76, .v (undef)), (75, .v (undef)), (74, vB true), (73, vB true), (72, .v (undef)), (71, .v (undef)), (70, .v (undef)), (69, .v (undef)), (68, .v (undef)), (67, .v (undef)), (66, .v (undef)), (65, .v (undef)), (64, vB true), (63, vB true), (62, vB true), (61, vB false), (60, vI ((s.at i).line.at j)), (59, .v (.pointer (some ((s.at i).line.ad.add (j * 1))))), (58, vI (j : Int)), (57, .v (s.at i).line.val), (56, .p 0 3), (55, vB false), (54, vB false), (51, vB true), (6, vI (j : Int)), (4, .p 0 0), (3, vI (i : Int)), (0, .v s.val)] [] [] rfl (by kernel_rfl) on wn ?_
          refine Hn (Ln (q_block_normal (Qn (Cg (Jr 3 [] [6, 5, 4, 3, 0] 1 ⟨[(6, vI ((j : Int) + 1)), (5, vB true), (4, .p 0 0), (3, vI (i : Int)), (0, .v s.val)], [⟨74, (s.at i).cs⟩]⟩ [inR ((j : Int) + 1)] [] (by kernel_rfl) (oc (by unfold inR; omega) on) wn (Ln (Ql (x := (⟨j, b⟩ : Nat × Bool)) (⟨j + 1, true⟩ : Nat × Bool) ⟨by omega, by simp only [allTo, hp]; simp_all⟩ (by show (s.at i).line.n - (j + 1) < (s.at i).line.n - j; omega) (Ss [6, 5, 4, 3, 0] 1 (by kernel_rfl) rfl))))))))
       | false =>
        have h22 := of_decide_eq_false h22
        refine Ci false rfl (c_exit (Qe (Qe (Qh (Qn (Cs (Cs (Cg (Jq 1 [86, 4, 3, 0] 1 ⟨[(86, vB b), (4, .p 0 0), (3, vI (i : Int)), (0, .v s.val)], [⟨74, (s.at i).cs⟩]⟩ (Ln (Qn ?_)))))))))))
        cases h26 : b with
        | true =>
         refine Ci true rfl (Cs (Cg (Jq 1 [2] 0 ⟨[(2, vI 4)], []⟩ (Ln (Qn (Cr (Qr (Qb (Qr (Qr (Qb (Qr (Rt (.inl rfl) [vI 4] rfl (fun bs w hS => (⟨?_, hS.kp⟩)))))))))))))))
         simp only [retOf, den, List.map_cons, List.map_nil]
         have hf : lockF (s.xs.map CLock.abs) i = 4 := by
          have hor : mName (s.at i).name = false ∨ (s.at i).holder < 0 ∨ 9 < (s.at i).holder ∨ lineOk (s.at i).abs = false := by
           first | exact .inl (by assumption) | exact .inr ((show (s.at i).holder < 0 ∨ 9 < (s.at i).holder by omega).elim .inl (fun h => .inr (.inl h))) | exact .inr (.inr (.inr (lineOk_false (.inr (.inl (by show 3 < (s.at i).line.n; omega)))))) | exact .inr (.inr (.inr (lineOk_false (.inr (.inr ⟨by show (s.at i).holder = 0; omega, by show 0 < (s.at i).line.n; omega⟩))))) | exact .inr (.inr (.inr (lineOk_false (.inl (by show allTo _ (s.at i).line.n = false; rw [show (s.at i).line.n = j by omega]; cases hq : allTo (posOk (s.at i).abs) j <;> simp_all)))))
          unfold lockF
          simp only [hat, hq1, hq2, hq3]
          rw [if_pos hor]
         rw [hI, firstF_here (by omega) hf (by omega)]
        | false =>
         refine Ci false rfl (Ck (Qn (Cs (Cs (Cg (Jq 2 [88, 4, 3, 0] 1 ⟨[(88, vI (s.at i).fence), (4, .p 0 0), (3, vI (i : Int)), (0, .v s.val)], [⟨74, (s.at i).cs⟩]⟩ (Lp 41 [] [vI (s.at i).fence, vI 1, vI 1073741824] (.bool (inB (s.at i).fence 1 1073741824)) Try.call41 rfl rfl rfl rfl (fun bs w hS => ref_In _ _ _ w) (Jq 1 [90, 4, 3, 0] 1 ⟨[(90, vB (!(inB (s.at i).fence 1 1073741824))), (4, .p 0 0), (3, vI (i : Int)), (0, .v s.val)], [⟨74, (s.at i).cs⟩]⟩ (Ln (Qn ?_))))))))))
         cases h27 : inB (s.at i).fence 1 1073741824 with
         | true =>
          simp only [inB, Bool.and_eq_true, Bool.and_eq_false_iff, decide_eq_true_eq, decide_eq_false_iff_not] at h27
          refine Ci false rfl (Ck (Qn (Cs (Cd 13 [] (.p 0 (.p 1 (.p 2 (.p 3 (.q 4 (.p 5 (.p 6 (.p 7 (.p 8 (.p 9 (.q 10 (.p 11 (.p 12 .nil))))))))))))) [] [] Try_mixed (by kernel_rfl) (pq_then (pq_block (pq_then (pq_then (pq_block (pq_then pq_body)))))) .slnil (Hq [] [(0, true), (1, true), (2, true)] [(93, vB (decide ((0 : Int) < (i : Int)))), (92, vB (decide ((0 : Int) < (i : Int)))), (91, vI (i : Int)), (90, vB false), (4, .p 0 0), (3, vI (i : Int)), (0, .v s.val)] [] [] rfl (by kernel_rfl) on wn ?_)))))
          cases h28 : decide ((0 : Int) < (i : Int)) with
          | true =>
           have h28 := of_decide_eq_true h28
           refine Hq [(8, .idx s.ad (i - 1)), (10, .ext [.string (s.at (i - 1)).name])] [(3, true), (4, false), (5, true), (6, true), (7, true), (8, true), (9, true), (10, false), (11, true), (12, true)] [(103, vB (Op.bytesLess ((s.at i).name).toList ((s.at (i - 1)).name).toList || decide ((s.at i).name = (s.at (i - 1)).name))), (102, vB (Op.bytesLess ((s.at i).name).toList ((s.at (i - 1)).name).toList || decide ((s.at i).name = (s.at (i - 1)).name))), (101, vS (s.at (i - 1)).name), (100, .v (.pointer (some ((s.ad.add ((i - 1) * 4)).add 0)))), (99, .v (.pointer (some (s.ad.add ((i - 1) * 4))))), (98, vI ((i : Int) - 1)), (97, vI (i : Int)), (96, .v s.val), (95, vS (s.at i).name), (94, .p 0 0), (93, vB true), (92, vB true), (91, vI (i : Int)), (90, vB false), (4, .p 0 0), (3, vI (i : Int)), (0, .v s.val)] [inR ((i : Int) - 1), s.A = some s.ad, (i : Int) - 1 = (((i - 1) : Nat) : Int), (i - 1) < s.n] [((s.ad.add ((i - 1) * 4)).add 0, [.string (s.at (i - 1)).name])] rfl (by kernel_rfl) (oc (by unfold inR; omega) (oc (Sl.ok.own (s := s) (i := (i - 1)) oks (by omega)) (oc (by omega) (oc (by omega) on)))) (fun w hk hr => ⟨(Sl.rd.fld (s := s) (i := (i - 1)) (Sl.rd.kp hs hk) (by omega) 0 1 rfl), trivial⟩) ?_
           refine Hn (Ln (Qn ?_))
           cases h29 : Op.bytesLess ((s.at i).name).toList ((s.at (i - 1)).name).toList || decide ((s.at i).name = (s.at (i - 1)).name) with
           | true =>
            rw [bytes_total] at h29
            simp only [Bool.not_eq_true', Bool.not_eq_false', Bool.not_eq_true, Bool.not_eq_false] at h29
            refine Ci true rfl (Cs (Cg (Jq 1 [2] 0 ⟨[(2, vI 14)], []⟩ (Ln (Qn (Cr (Qb (Qr (Qr (Qb (Qr (Rt (.inl rfl) [vI 14] rfl (fun bs w hS => (⟨?_, hS.kp⟩))))))))))))))
            simp only [retOf, den, List.map_cons, List.map_nil]
            have hf : lockF (s.xs.map CLock.abs) i = 14 := by
             have hjn : (s.at i).line.n = j := by omega
             have hall : allTo (posOk (s.at i).abs) (s.at i).line.n = true := by rw [hjn]; cases hq : allTo (posOk (s.at i).abs) j <;> simp_all
             have hlo : lineOk (s.at i).abs = true := lineOk_true hall (by show (s.at i).line.n ≤ 3; omega) (by show ¬ (s.at i).holder = 0 ∨ (s.at i).line.n = 0; omega)
             unfold lockF
             simp only [hat, hq1, hq2, hq3]
             try simp only [hlo]
             try simp only [h1, h2, h3, h4, h5, h9, h22, h26, h27, h28, h29, emp_size, ne_eq, not_true_eq_false, not_false_eq_true, true_or, or_true, false_or, or_false, and_true, true_and, and_false, false_and, and_self, or_self, if_true, if_false, Bool.true_eq_false, Bool.false_eq_true, reduceIte, Classical.not_not, Bool.and_eq_true, decide_eq_true_eq]
             repeat (first | rw [if_pos (by omega)] | rw [if_neg (by omega)])
             all_goals first | rfl | (exfalso; omega)
            rw [hI, firstF_here (by omega) hf (by omega)]
           | false =>
            rw [bytes_total] at h29
            simp only [Bool.not_eq_true', Bool.not_eq_false', Bool.not_eq_true, Bool.not_eq_false] at h29
            refine Ci false rfl (Ck (q_block_normal (Qn (Cg (Jr 3 [] [3, 0] 0 ⟨[(3, vI ((i : Int) + 1)), (0, .v s.val)], []⟩ [inR ((i : Int) + 1)] [] (by kernel_rfl) (oc (by unfold inR; omega) on) wn ?_)))))
            have hf0 : lockF (s.xs.map CLock.abs) i = 0 := by
             have hjn : (s.at i).line.n = j := by omega
             have hall : allTo (posOk (s.at i).abs) (s.at i).line.n = true := by rw [hjn]; cases hq : allTo (posOk (s.at i).abs) j <;> simp_all
             have hlo : lineOk (s.at i).abs = true := lineOk_true hall (by show (s.at i).line.n ≤ 3; omega) (by show ¬ (s.at i).holder = 0 ∨ (s.at i).line.n = 0; omega)
             unfold lockF
             simp only [hat, hq1, hq2, hq3]
             try simp only [hlo]
             try simp only [h1, h2, h3, h4, h5, h9, h22, h26, h27, h28, h29, emp_size, ne_eq, not_true_eq_false, not_false_eq_true, true_or, or_true, false_or, or_false, and_true, true_and, and_false, false_and, and_self, or_self, if_true, if_false, Bool.true_eq_false, Bool.false_eq_true, reduceIte, Classical.not_not, Bool.and_eq_true, decide_eq_true_eq]
             repeat (first | rw [if_pos (by omega)] | rw [if_neg (by omega)])
             all_goals first | rfl | (exfalso; omega)
            refine Ln (Ql (x := (i : Nat)) ((i + 1) : Nat) ⟨by omega, by rw [hI]; exact firstF_step (by omega) hf0⟩ (by omega) (Ss [3, 0] 0 (by kernel_rfl) rfl))
          | false =>
           have h28 := of_decide_eq_false h28
           refine Hq [] [(3, true), (4, false), (5, true), (6, true), (7, true), (8, true), (9, true), (10, false), (11, true), (12, true)] [(103, vB false), (102, .v (undef)), (101, .v (undef)), (100, .v (undef)), (99, .v (undef)), (98, .v (undef)), (97, .v (undef)), (96, .v (undef)), (95, .v (undef)), (94, .v (undef)), (93, vB false), (92, vB false), (91, vI (i : Int)), (90, vB false), (4, .p 0 0), (3, vI (i : Int)), (0, .v s.val)] [] [] rfl (by kernel_rfl) on wn ?_
           refine Hn (Ln (Qn (Ci false rfl (Ck (q_block_normal (Qn (Cg (Jr 3 [] [3, 0] 0 ⟨[(3, vI ((i : Int) + 1)), (0, .v s.val)], []⟩ [inR ((i : Int) + 1)] [] (by kernel_rfl) (oc (by unfold inR; omega) on) wn ?_))))))))
           have hf0 : lockF (s.xs.map CLock.abs) i = 0 := by
            have hjn : (s.at i).line.n = j := by omega
            have hall : allTo (posOk (s.at i).abs) (s.at i).line.n = true := by rw [hjn]; cases hq : allTo (posOk (s.at i).abs) j <;> simp_all
            have hlo : lineOk (s.at i).abs = true := lineOk_true hall (by show (s.at i).line.n ≤ 3; omega) (by show ¬ (s.at i).holder = 0 ∨ (s.at i).line.n = 0; omega)
            unfold lockF
            simp only [hat, hq1, hq2, hq3]
            try simp only [hlo]
            try simp only [h1, h2, h3, h4, h5, h9, h22, h26, h27, h28, emp_size, ne_eq, not_true_eq_false, not_false_eq_true, true_or, or_true, false_or, or_false, and_true, true_and, and_false, false_and, and_self, or_self, if_true, if_false, Bool.true_eq_false, Bool.false_eq_true, reduceIte, Classical.not_not, Bool.and_eq_true, decide_eq_true_eq]
            repeat (first | rw [if_pos (by omega)] | rw [if_neg (by omega)])
            all_goals first | rfl | (exfalso; omega)
           refine Ln (Ql (x := (i : Nat)) ((i + 1) : Nat) ⟨by omega, by rw [hI]; exact firstF_step (by omega) hf0⟩ (by omega) (Ss [3, 0] 0 (by kernel_rfl) rfl))
         | false =>
          simp only [inB, Bool.and_eq_true, Bool.and_eq_false_iff, decide_eq_true_eq, decide_eq_false_iff_not] at h27
          refine Ci true rfl (Cs (Cg (Jq 1 [2] 0 ⟨[(2, vI 2)], []⟩ (Ln (Qn (Cr (Qr (Qb (Qr (Qr (Qb (Qr (Rt (.inl rfl) [vI 2] rfl (fun bs w hS => (⟨?_, hS.kp⟩)))))))))))))))
          simp only [retOf, den, List.map_cons, List.map_nil]
          have hf : lockF (s.xs.map CLock.abs) i = 2 := by
           have hjn : (s.at i).line.n = j := by omega
           have hall : allTo (posOk (s.at i).abs) (s.at i).line.n = true := by rw [hjn]; cases hq : allTo (posOk (s.at i).abs) j <;> simp_all
           have hlo : lineOk (s.at i).abs = true := lineOk_true hall (by show (s.at i).line.n ≤ 3; omega) (by show ¬ (s.at i).holder = 0 ∨ (s.at i).line.n = 0; omega)
           unfold lockF
           simp only [hat, hq1, hq2, hq3]
           try simp only [hlo]
           try simp only [h1, h2, h3, h4, h5, h9, h22, h26, h27, emp_size, ne_eq, not_true_eq_false, not_false_eq_true, true_or, or_true, false_or, or_false, and_true, true_and, and_false, false_and, and_self, or_self, if_true, if_false, Bool.true_eq_false, Bool.false_eq_true, reduceIte, Classical.not_not, Bool.and_eq_true, decide_eq_true_eq]
           repeat (first | rw [if_pos (by omega)] | rw [if_neg (by omega)])
           all_goals first | rfl | (exfalso; omega)
          rw [hI, firstF_here (by omega) hf (by omega)]
    | false =>
     simp only [inB, Bool.and_eq_true, Bool.and_eq_false_iff, decide_eq_true_eq, decide_eq_false_iff_not] at h4
     refine Jq 17 [5, 4, 3, 0] 1 ⟨[(5, vB true), (4, .p 0 0), (3, vI (i : Int)), (0, .v s.val)], [⟨74, (s.at i).cs⟩]⟩ (Ln (Qn (Cs (Cs (Cg (Jq 1 [6, 5, 4, 3, 0] 1 ⟨[(6, vI 0), (5, vB true), (4, .p 0 0), (3, vI (i : Int)), (0, .v s.val)], [⟨74, (s.at i).cs⟩]⟩ (Ln (Qn (Cb (Cl (σ := Nat × Bool) (fun ⟨j, b⟩ => j ≤ (s.at i).line.n ∧ b = (true || !(allTo (posOk (s.at i).abs) j))) (fun ⟨j, b⟩ => (s.at i).line.n - j) (fun ⟨j, b⟩ => []) (fun ⟨j, b⟩ => ⟨[(6, vI (j : Int)), (5, vB b), (4, .p 0 0), (3, vI (i : Int)), (0, .v s.val)], [⟨74, (s.at i).cs⟩]⟩) ⟨0, true⟩ ⟨Nat.zero_le _, by simp [allTo]⟩ (Ss [6, 5, 4, 3, 0] 1 (by kernel_rfl) rfl) ?_))))))))))
     rintro ⟨j, b⟩ ⟨hj, hJ⟩
     have ncl := Sl.ok.nc (And.right (Sl.ok.at oks (show i < s.n by omega)))
     refine Cs (Cs (Cg (Jq 5 [51, 6, 5, 4, 3, 0] 1 ⟨[(51, vB (decide ((j : Int) < (((s.at i).line.n : Nat) : Int)))), (6, vI (j : Int)), (5, vB b), (4, .p 0 0), (3, vI (i : Int)), (0, .v s.val)], [⟨74, (s.at i).cs⟩]⟩ (Ln (Qn ?_)))))
     cases h30 : decide ((j : Int) < (((s.at i).line.n : Nat) : Int)) with
     | true =>
      have h30 := of_decide_eq_true h30
      refine Ci true rfl (Ck (Qn (Cs (Cb (Cd 33 [] (.p 0 (.p 1 (.p 2 (.q 3 (.p 4 (.p 5 (.q 6 (.b 7 (.p 8 (.p 9 (.p 10 (.p 11 (.q 12 (.p 13 (.p 14 (.q 15 (.p 16 (.q 17 (.p 18 (.p 19 (.p 20 (.p 21 (.q 22 (.p 23 (.p 24 (.p 25 (.q 26 (.p 27 (.p 28 (.q 29 (.b 30 (.p 31 (.p 32 .nil)) .z))))))))))))))))))))))) .z)))))))) [] [] Try_mixed (by kernel_rfl) (pq_block (pq_then (pq_then (pq_block (pq_then (pq_block (pq_then (pq_then (pq_block (pq_then pq_body)))))))))) .slnil (Hq [] [(0, true), (1, true)] [(55, vB b), (54, vB b), (51, vB true), (6, vI (j : Int)), (5, vB b), (4, .p 0 0), (3, vI (i : Int)), (0, .v s.val)] [] [] rfl (by kernel_rfl) on wn ?_))))))
      cases h31 : b with
      | true =>
       refine Hq [] [(2, true), (3, false), (4, true), (5, true), (6, false)] [(60, .v (undef)), (59, .v (undef)), (58, .v (undef)), (57, .v (undef)), (56, .v (undef)), (55, vB true), (54, vB true), (51, vB true), (6, vI (j : Int)), (5, vB true), (4, .p 0 0), (3, vI (i : Int)), (0, .v s.val)] [] [] rfl (by kernel_rfl) on wn ?_
       refine Hp rfl rfl rfl ?_
       refine Hq [] [(8, true), (9, true), (10, true), (11, true), (12, false), (13, true), (14, true), (15, false), (16, true), (17, false), (18, true), (19, true), (20, true), (21, true), (22, false), (23, true), (24, true), (25, true), (26, false), (27, true), (28, true), (29, false)] [(83, .v (undef)), (82, .v (undef)), (81, .v (undef)), (80, .v (undef)), (79, .v (undef)), (78, .v (undef)), (77, .v (undef)), (76, .v (undef)), (75, .v (undef)), (74, vB true), (73, vB true), (72, .v (undef)), (71, .v (undef)), (70, .v (undef)), (69, .v (undef)), (68, .v (undef)), (67, .v (undef)), (66, .v (undef)), (65, .v (undef)), (64, vB true), (63, vB true), (62, .v (undef)), (61, .v (undef)), (60, .v (undef)), (59, .v (undef)), (58, .v (undef)), (57, .v (undef)), (56, .v (undef)), (55, vB true), (54, vB true), (51, vB true), (6, vI (j : Int)), (5, vB true), (4, .p 0 0), (3, vI (i : Int)), (0, .v s.val)] [] [] rfl (by kernel_rfl) on wn ?_
       refine Hp rfl rfl rfl ?_
       refine Hq [] [(31, true), (32, true)] [(5, vB true), (85, vB true), (84, .v (undef)), (83, .v (undef)), (82, .v (undef)), (81, .v (undef)), (80, .v (undef)), (79, .v (undef)), (78, .v (undef)), (77, .v (undef)), (76, .v (undef)), (75, .v (undef)), (74, vB true), (73, vB true), (72, .v (undef)), (71, .v (undef)), (70, .v (undef)), (69, .v (undef)), (68, .v (undef)), (67, .v (undef)), (66, .v (undef)), (65, .v (undef)), (64, vB true), (63, vB true), (62, .v (undef)), (61, .v (undef)), (60, .v (undef)), (59, .v (undef)), (58, .v (undef)), (57, .v (undef)), (56, .v (undef)), (55, vB true), (54, vB true), (51, vB true), (6, vI (j : Int)), (4, .p 0 0), (3, vI (i : Int)), (0, .v s.val)] [] [] rfl (by kernel_rfl) on wn ?_
       refine Hn (Ln (q_block_normal (Qn (Cg (Jr 3 [] [6, 5, 4, 3, 0] 1 ⟨[(6, vI ((j : Int) + 1)), (5, vB true), (4, .p 0 0), (3, vI (i : Int)), (0, .v s.val)], [⟨74, (s.at i).cs⟩]⟩ [inR ((j : Int) + 1)] [] (by kernel_rfl) (oc (by unfold inR; omega) on) wn (Ln (Ql (x := (⟨j, b⟩ : Nat × Bool)) (⟨j + 1, true⟩ : Nat × Bool) ⟨by omega, by simp only [allTo, hp]; simp_all⟩ (by show (s.at i).line.n - (j + 1) < (s.at i).line.n - j; omega) (Ss [6, 5, 4, 3, 0] 1 (by kernel_rfl) rfl))))))))
      | false =>
       exfalso; rw [h31] at hJ; simp at hJ
     | false =>
      have h30 := of_decide_eq_false h30
      refine Ci false rfl (c_exit (Qe (Qe (Qh (Qn (Cs (Cs (Cg (Jq 1 [86, 4, 3, 0] 1 ⟨[(86, vB b), (4, .p 0 0), (3, vI (i : Int)), (0, .v s.val)], [⟨74, (s.at i).cs⟩]⟩ (Ln (Qn ?_)))))))))))
      cases h32 : b with
      | true =>
       refine Ci true rfl (Cs (Cg (Jq 1 [2] 0 ⟨[(2, vI 4)], []⟩ (Ln (Qn (Cr (Qr (Qb (Qr (Qr (Qb (Qr (Rt (.inl rfl) [vI 4] rfl (fun bs w hS => (⟨?_, hS.kp⟩)))))))))))))))
       simp only [retOf, den, List.map_cons, List.map_nil]
       have hf : lockF (s.xs.map CLock.abs) i = 4 := by
        have hor : mName (s.at i).name = false ∨ (s.at i).holder < 0 ∨ 9 < (s.at i).holder ∨ lineOk (s.at i).abs = false := by
         first | exact .inl (by assumption) | exact .inr ((show (s.at i).holder < 0 ∨ 9 < (s.at i).holder by omega).elim .inl (fun h => .inr (.inl h))) | exact .inr (.inr (.inr (lineOk_false (.inr (.inl (by show 3 < (s.at i).line.n; omega)))))) | exact .inr (.inr (.inr (lineOk_false (.inr (.inr ⟨by show (s.at i).holder = 0; omega, by show 0 < (s.at i).line.n; omega⟩))))) | exact .inr (.inr (.inr (lineOk_false (.inl (by show allTo _ (s.at i).line.n = false; rw [show (s.at i).line.n = j by omega]; cases hq : allTo (posOk (s.at i).abs) j <;> simp_all)))))
        unfold lockF
        simp only [hat, hq1, hq2, hq3]
        rw [if_pos hor]
       rw [hI, firstF_here (by omega) hf (by omega)]
      | false =>
       exfalso; rw [h32] at hJ; simp at hJ
   | false =>
    refine Jq 23 [5, 4, 3, 0] 1 ⟨[(5, vB true), (4, .p 0 0), (3, vI (i : Int)), (0, .v s.val)], [⟨74, (s.at i).cs⟩]⟩ (Ln (Qn (Cs (Cs (Cg (Jq 1 [6, 5, 4, 3, 0] 1 ⟨[(6, vI 0), (5, vB true), (4, .p 0 0), (3, vI (i : Int)), (0, .v s.val)], [⟨74, (s.at i).cs⟩]⟩ (Ln (Qn (Cb (Cl (σ := Nat × Bool) (fun ⟨j, b⟩ => j ≤ (s.at i).line.n ∧ b = (true || !(allTo (posOk (s.at i).abs) j))) (fun ⟨j, b⟩ => (s.at i).line.n - j) (fun ⟨j, b⟩ => []) (fun ⟨j, b⟩ => ⟨[(6, vI (j : Int)), (5, vB b), (4, .p 0 0), (3, vI (i : Int)), (0, .v s.val)], [⟨74, (s.at i).cs⟩]⟩) ⟨0, true⟩ ⟨Nat.zero_le _, by simp [allTo]⟩ (Ss [6, 5, 4, 3, 0] 1 (by kernel_rfl) rfl) ?_))))))))))
    rintro ⟨j, b⟩ ⟨hj, hJ⟩
    have ncl := Sl.ok.nc (And.right (Sl.ok.at oks (show i < s.n by omega)))
    refine Cs (Cs (Cg (Jq 5 [51, 6, 5, 4, 3, 0] 1 ⟨[(51, vB (decide ((j : Int) < (((s.at i).line.n : Nat) : Int)))), (6, vI (j : Int)), (5, vB b), (4, .p 0 0), (3, vI (i : Int)), (0, .v s.val)], [⟨74, (s.at i).cs⟩]⟩ (Ln (Qn ?_)))))
    cases h33 : decide ((j : Int) < (((s.at i).line.n : Nat) : Int)) with
    | true =>
     have h33 := of_decide_eq_true h33
     refine Ci true rfl (Ck (Qn (Cs (Cb (Cd 33 [] (.p 0 (.p 1 (.p 2 (.q 3 (.p 4 (.p 5 (.q 6 (.b 7 (.p 8 (.p 9 (.p 10 (.p 11 (.q 12 (.p 13 (.p 14 (.q 15 (.p 16 (.q 17 (.p 18 (.p 19 (.p 20 (.p 21 (.q 22 (.p 23 (.p 24 (.p 25 (.q 26 (.p 27 (.p 28 (.q 29 (.b 30 (.p 31 (.p 32 .nil)) .z))))))))))))))))))))))) .z)))))))) [] [] Try_mixed (by kernel_rfl) (pq_block (pq_then (pq_then (pq_block (pq_then (pq_block (pq_then (pq_then (pq_block (pq_then pq_body)))))))))) .slnil (Hq [] [(0, true), (1, true)] [(55, vB b), (54, vB b), (51, vB true), (6, vI (j : Int)), (5, vB b), (4, .p 0 0), (3, vI (i : Int)), (0, .v s.val)] [] [] rfl (by kernel_rfl) on wn ?_))))))
     cases h34 : b with
     | true =>
      refine Hq [] [(2, true), (3, false), (4, true), (5, true), (6, false)] [(60, .v (undef)), (59, .v (undef)), (58, .v (undef)), (57, .v (undef)), (56, .v (undef)), (55, vB true), (54, vB true), (51, vB true), (6, vI (j : Int)), (5, vB true), (4, .p 0 0), (3, vI (i : Int)), (0, .v s.val)] [] [] rfl (by kernel_rfl) on wn ?_
      refine Hp rfl rfl rfl ?_
      refine Hq [] [(8, true), (9, true), (10, true), (11, true), (12, false), (13, true), (14, true), (15, false), (16, true), (17, false), (18, true), (19, true), (20, true), (21, true), (22, false), (23, true), (24, true), (25, true), (26, false), (27, true), (28, true), (29, false)] [(83, .v (undef)), (82, .v (undef)), (81, .v (undef)), (80, .v (undef)), (79, .v (undef)), (78, .v (undef)), (77, .v (undef)), (76, .v (undef)), (75, .v (undef)), (74, vB true), (73, vB true), (72, .v (undef)), (71, .v (undef)), (70, .v (undef)), (69, .v (undef)), (68, .v (undef)), (67, .v (undef)), (66, .v (undef)), (65, .v (undef)), (64, vB true), (63, vB true), (62, .v (undef)), (61, .v (undef)), (60, .v (undef)), (59, .v (undef)), (58, .v (undef)), (57, .v (undef)), (56, .v (undef)), (55, vB true), (54, vB true), (51, vB true), (6, vI (j : Int)), (5, vB true), (4, .p 0 0), (3, vI (i : Int)), (0, .v s.val)] [] [] rfl (by kernel_rfl) on wn ?_
      refine Hp rfl rfl rfl ?_
      refine Hq [] [(31, true), (32, true)] [(5, vB true), (85, vB true), (84, .v (undef)), (83, .v (undef)), (82, .v (undef)), (81, .v (undef)), (80, .v (undef)), (79, .v (undef)), (78, .v (undef)), (77, .v (undef)), (76, .v (undef)), (75, .v (undef)), (74, vB true), (73, vB true), (72, .v (undef)), (71, .v (undef)), (70, .v (undef)), (69, .v (undef)), (68, .v (undef)), (67, .v (undef)), (66, .v (undef)), (65, .v (undef)), (64, vB true), (63, vB true), (62, .v (undef)), (61, .v (undef)), (60, .v (undef)), (59, .v (undef)), (58, .v (undef)), (57, .v (undef)), (56, .v (undef)), (55, vB true), (54, vB true), (51, vB true), (6, vI (j : Int)), (4, .p 0 0), (3, vI (i : Int)), (0, .v s.val)] [] [] rfl (by kernel_rfl) on wn ?_
      refine Hn (Ln (q_block_normal (Qn (Cg (Jr 3 [] [6, 5, 4, 3, 0] 1 ⟨[(6, vI ((j : Int) + 1)), (5, vB true), (4, .p 0 0), (3, vI (i : Int)), (0, .v s.val)], [⟨74, (s.at i).cs⟩]⟩ [inR ((j : Int) + 1)] [] (by kernel_rfl) (oc (by unfold inR; omega) on) wn (Ln (Ql (x := (⟨j, b⟩ : Nat × Bool)) (⟨j + 1, true⟩ : Nat × Bool) ⟨by omega, by simp only [allTo, hp]; simp_all⟩ (by show (s.at i).line.n - (j + 1) < (s.at i).line.n - j; omega) (Ss [6, 5, 4, 3, 0] 1 (by kernel_rfl) rfl))))))))
     | false =>
      exfalso; rw [h34] at hJ; simp at hJ
    | false =>
     have h33 := of_decide_eq_false h33
     refine Ci false rfl (c_exit (Qe (Qe (Qh (Qn (Cs (Cs (Cg (Jq 1 [86, 4, 3, 0] 1 ⟨[(86, vB b), (4, .p 0 0), (3, vI (i : Int)), (0, .v s.val)], [⟨74, (s.at i).cs⟩]⟩ (Ln (Qn ?_)))))))))))
     cases h35 : b with
     | true =>
      refine Ci true rfl (Cs (Cg (Jq 1 [2] 0 ⟨[(2, vI 4)], []⟩ (Ln (Qn (Cr (Qr (Qb (Qr (Qr (Qb (Qr (Rt (.inl rfl) [vI 4] rfl (fun bs w hS => (⟨?_, hS.kp⟩)))))))))))))))
      simp only [retOf, den, List.map_cons, List.map_nil]
      have hf : lockF (s.xs.map CLock.abs) i = 4 := by
       have hor : mName (s.at i).name = false ∨ (s.at i).holder < 0 ∨ 9 < (s.at i).holder ∨ lineOk (s.at i).abs = false := by
        first | exact .inl (by assumption) | exact .inr ((show (s.at i).holder < 0 ∨ 9 < (s.at i).holder by omega).elim .inl (fun h => .inr (.inl h))) | exact .inr (.inr (.inr (lineOk_false (.inr (.inl (by show 3 < (s.at i).line.n; omega)))))) | exact .inr (.inr (.inr (lineOk_false (.inr (.inr ⟨by show (s.at i).holder = 0; omega, by show 0 < (s.at i).line.n; omega⟩))))) | exact .inr (.inr (.inr (lineOk_false (.inl (by show allTo _ (s.at i).line.n = false; rw [show (s.at i).line.n = j by omega]; cases hq : allTo (posOk (s.at i).abs) j <;> simp_all)))))
       unfold lockF
       simp only [hat, hq1, hq2, hq3]
       rw [if_pos hor]
      rw [hI, firstF_here (by omega) hf (by omega)]
     | false =>
      exfalso; rw [h35] at hJ; simp at hJ
  | false =>
   have h2 := of_decide_eq_false h2
   refine Ci false rfl (c_exit (Qe (Qe (Qh (Qn (Cs (Cg (Jq 1 [2] 0 ⟨[(2, vI 0)], []⟩ (Ln (Qn (Cr (Rt (.inl rfl) [vI 0] rfl (fun bs w hS => (⟨?_, hS.kp⟩))))))))))))))
   simp only [retOf, den, List.map_cons, List.map_nil]
   rw [hI, firstF_end (by omega)]

theorem session_replies {B : Nat → Prop} (x : CSession) (w : World) (hx : Rds.sub B w x) (hb : 0 ≤ x.acked ∧ x.acked ≤ 1048576) : Calls Try.prog 82 #[.agg #[.int .i64 x.client, .int .i64 x.id, .int .i64 x.acked, .int .i64 x.last, .slice x.replies.A x.replies.n x.replies.c]] w fun e w' => e = .returned (.bool (mReplies x.abs)) ∧ Kp [] w w' := by
 have okx := Rds.okof hx
 have ncx := Sl.ok.nc okx
 have hns : x.replies.n = x.replies.xs.length := rfl
 have hat : ∀ q, x.abs.replies.getD q default = x.replies.at q := fun _ => rfl
 have hac : x.abs.acked = x.acked := rfl
 have hln : x.abs.replies.length = x.replies.n := rfl
 refine calls_J0 70 Try.func82 rfl rfl [.agg #[.int .i64 x.client, .int .i64 x.id, .int .i64 x.acked, .int .i64 x.last, .slice x.replies.A x.replies.n x.replies.c]] rfl ?_
 refine Cs (Cg (Jq 2 [1] 1 ⟨[(1, .p 0 0)], [⟨80, x.cs⟩]⟩ (Ln (Qn (Cs (Cs (Cg (Jq 4 [9, 8, 7, 1] 1 ⟨[(9, vI 0), (8, vI (x.replies.n : Int)), (7, .v x.replies.val), (1, .p 0 0)], [⟨80, x.cs⟩]⟩ (Ln (Qn (Cb (Cl (σ := Nat) (fun i => i ≤ x.replies.n ∧ allTo (keptOk x.abs) i = true) (fun i => x.replies.n - i) (fun i => []) (fun i => ⟨[(9, vI (i : Int)), (8, vI (x.replies.n : Int)), (7, .v x.replies.val), (1, .p 0 0)], [⟨80, x.cs⟩]⟩) 0 ⟨Nat.zero_le _, rfl⟩ (Ss [9, 8, 7, 1] 1 (by kernel_rfl) rfl) ?_))))))))))))
 rintro i ⟨hi, hI⟩
 refine Cs (Cg (Jq 1 [10, 9, 8, 7, 1] 1 ⟨[(10, vB (decide ((i : Int) < (x.replies.n : Int)))), (9, vI (i : Int)), (8, vI (x.replies.n : Int)), (7, .v x.replies.val), (1, .p 0 0)], [⟨80, x.cs⟩]⟩ (Ln (Qn (Cs ?_)))))
 cases h1 : decide ((i : Int) < (x.replies.n : Int)) with
 | true =>
  have h1 := of_decide_eq_true h1
  refine Ci true rfl (Ck (Qn (Cs (Cb (Cs (Cg (Jr 6 [(1, .idx x.replies.ad i), (2, .ext [.int .i64 (x.replies.at i).seq, .int .i64 (x.replies.at i).reply.code, .int .i64 (x.replies.at i).reply.n, .string (x.replies.at i).reply.text])] [3, 4, 9, 8, 7, 1] 2 ⟨[(3, vI (i : Int)), (4, .p 1 0), (9, vI (i : Int)), (8, vI (x.replies.n : Int)), (7, .v x.replies.val), (1, .p 0 0)], [⟨80, x.cs⟩, ⟨84, (x.replies.at i).cs⟩]⟩ [x.replies.A = some x.replies.ad, (i : Int) = (i : Int), i < x.replies.n] [(x.replies.ad.add (i * 4), [.int .i64 (x.replies.at i).seq, .int .i64 (x.replies.at i).reply.code, .int .i64 (x.replies.at i).reply.n, .string (x.replies.at i).reply.text])] (by kernel_rfl) (oc (Sl.ok.own (s := x.replies) (i := i) okx (by omega)) (oc rfl (oc (by omega) on))) (fun w hk hr => ⟨(Sl.rd.all (s := x.replies) (i := i) (Rds.kp hx hk) (by omega) rfl), trivial⟩) (Ln (Qn (Cs (Cs (Cd 29 [] (.p 0 (.q 1 (.p 2 (.q 3 (.p 4 (.p 5 (.p 6 (.q 7 (.p 8 (.q 9 (.p 10 (.p 11 (.p 12 (.p 13 (.p 14 (.p 15 (.p 16 (.p 17 (.q 18 (.p 19 (.p 20 (.p 21 (.p 22 (.q 23 (.p 24 (.q 25 (.p 26 (.p 27 (.p 28 .nil))))))))))))))))))))))))))))) [] [] Try_mixed (by kernel_rfl) (pq_then (pq_then (pq_block (pq_then (pq_then (pq_block (pq_then pq_body))))))) .slnil (Hq [] [(0, true), (1, false), (2, true), (3, false), (4, true), (5, true)] [(19, vB (decide ((x.replies.at i).seq ≤ x.acked))), (18, vB (decide ((x.replies.at i).seq ≤ x.acked))), (17, vI x.acked), (16, .p 0 2), (15, vI (x.replies.at i).seq), (14, .p 1 0), (3, vI (i : Int)), (4, .p 1 0), (9, vI (i : Int)), (8, vI (x.replies.n : Int)), (7, .v x.replies.val), (1, .p 0 0)] [] [] rfl (by kernel_rfl) on wn ?_)))))))))))))
  cases h2 : decide ((x.replies.at i).seq ≤ x.acked) with
  | true =>
   have h2 := of_decide_eq_true h2
   refine Hq [] [(6, true), (7, false), (8, true), (9, false), (10, true), (11, true), (12, true), (13, true), (14, true), (15, true), (16, true), (17, true), (18, false), (19, true), (20, true), (21, true), (22, true), (23, false), (24, true), (25, false), (26, true), (27, true), (28, true)] [(42, vB true), (41, .v (undef)), (40, .v (undef)), (39, .v (undef)), (38, .v (undef)), (37, .v (undef)), (36, .v (undef)), (35, .v (undef)), (34, .v (undef)), (33, .v (undef)), (32, .v (undef)), (31, .v (undef)), (30, .v (undef)), (29, .v (undef)), (28, .v (undef)), (27, vB true), (26, vB true), (25, .v (undef)), (24, .v (undef)), (23, .v (undef)), (22, .v (undef)), (21, .v (undef)), (20, .v (undef)), (19, vB true), (18, vB true), (17, vI x.acked), (16, .p 0 2), (15, vI (x.replies.at i).seq), (14, .p 1 0), (3, vI (i : Int)), (4, .p 1 0), (9, vI (i : Int)), (8, vI (x.replies.n : Int)), (7, .v x.replies.val), (1, .p 0 0)] [] [] rfl (by kernel_rfl) on wn ?_
   refine Hn (Ln (Qn (Ci true rfl (Cs (Cg (Jq 1 [2] 0 ⟨[(2, vB false)], []⟩ (Ln (Qn (Cr (Qr (Qb (Qr (Qr (Qb (Qr (Rt (.inl rfl) [vB false] rfl (fun bs w hS => (⟨?_, hS.kp⟩))))))))))))))))))
   have hm : mReplies x.abs = false := allTo_bad (j := i) (decide_eq_false (fun hk => by simp only [hat, hac] at hk; omega)) (show i < x.abs.replies.length by rw [hln]; omega)
   rw [hm]
   rfl
  | false =>
   have h2 := of_decide_eq_false h2
   refine Hq [] [(6, true), (7, false), (8, true), (9, false), (10, true), (11, true), (12, true), (13, true)] [(27, vB (decide (x.acked + 4 < (x.replies.at i).seq))), (26, vB (decide (x.acked + 4 < (x.replies.at i).seq))), (25, vB (decide (x.acked + 4 < (x.replies.at i).seq))), (24, vI (x.acked + 4)), (23, vI x.acked), (22, .p 0 2), (21, vI (x.replies.at i).seq), (20, .p 1 0), (19, vB false), (18, vB false), (17, vI x.acked), (16, .p 0 2), (15, vI (x.replies.at i).seq), (14, .p 1 0), (3, vI (i : Int)), (4, .p 1 0), (9, vI (i : Int)), (8, vI (x.replies.n : Int)), (7, .v x.replies.val), (1, .p 0 0)] [inR (x.acked + 4)] [] rfl (by kernel_rfl) (oc (by unfold inR; omega) on) wn ?_
   cases h3 : decide (x.acked + 4 < (x.replies.at i).seq) with
   | true =>
    have h3 := of_decide_eq_true h3
    refine Hq [] [(14, true), (15, true), (16, true), (17, true), (18, false), (19, true), (20, true), (21, true), (22, true), (23, false), (24, true), (25, false), (26, true), (27, true), (28, true)] [(42, vB true), (41, .v (undef)), (40, .v (undef)), (39, .v (undef)), (38, .v (undef)), (37, .v (undef)), (36, .v (undef)), (35, .v (undef)), (34, .v (undef)), (33, .v (undef)), (32, .v (undef)), (31, .v (undef)), (30, .v (undef)), (29, .v (undef)), (28, .v (undef)), (27, vB true), (26, vB true), (25, vB true), (24, vI (x.acked + 4)), (23, vI x.acked), (22, .p 0 2), (21, vI (x.replies.at i).seq), (20, .p 1 0), (19, vB false), (18, vB false), (17, vI x.acked), (16, .p 0 2), (15, vI (x.replies.at i).seq), (14, .p 1 0), (3, vI (i : Int)), (4, .p 1 0), (9, vI (i : Int)), (8, vI (x.replies.n : Int)), (7, .v x.replies.val), (1, .p 0 0)] [] [] rfl (by kernel_rfl) on wn ?_
    refine Hn (Ln (Qn (Ci true rfl (Cs (Cg (Jq 1 [2] 0 ⟨[(2, vB false)], []⟩ (Ln (Qn (Cr (Qr (Qb (Qr (Qr (Qb (Qr (Rt (.inl rfl) [vB false] rfl (fun bs w hS => (⟨?_, hS.kp⟩))))))))))))))))))
    have hm : mReplies x.abs = false := allTo_bad (j := i) (decide_eq_false (fun hk => by simp only [hat, hac] at hk; omega)) (show i < x.abs.replies.length by rw [hln]; omega)
    rw [hm]
    rfl
   | false =>
    have h3 := of_decide_eq_false h3
    refine Hq [] [(14, true), (15, true), (16, true)] [(30, vB (decide ((0 : Int) < (i : Int)))), (29, vB (decide ((0 : Int) < (i : Int)))), (28, vI (i : Int)), (27, vB false), (26, vB false), (25, vB false), (24, vI (x.acked + 4)), (23, vI x.acked), (22, .p 0 2), (21, vI (x.replies.at i).seq), (20, .p 1 0), (19, vB false), (18, vB false), (17, vI x.acked), (16, .p 0 2), (15, vI (x.replies.at i).seq), (14, .p 1 0), (3, vI (i : Int)), (4, .p 1 0), (9, vI (i : Int)), (8, vI (x.replies.n : Int)), (7, .v x.replies.val), (1, .p 0 0)] [] [] rfl (by kernel_rfl) on wn ?_
    cases h4 : decide ((0 : Int) < (i : Int)) with
    | true =>
     have h4 := of_decide_eq_true h4
     refine Hq [(21, .idx x.replies.ad (i - 1)), (23, .ext [.int .i64 (x.replies.at (i - 1)).seq])] [(17, true), (18, false), (19, true), (20, true), (21, true), (22, true), (23, false), (24, true), (25, false), (26, true), (27, true), (28, true)] [(42, vB (decide ((x.replies.at i).seq ≤ (x.replies.at (i - 1)).seq))), (41, vB (decide ((x.replies.at i).seq ≤ (x.replies.at (i - 1)).seq))), (40, vB (decide ((x.replies.at i).seq ≤ (x.replies.at (i - 1)).seq))), (39, vI (x.replies.at i).seq), (38, .p 1 0), (37, vI (x.replies.at (i - 1)).seq), (36, .v (.pointer (some ((x.replies.ad.add ((i - 1) * 4)).add 0)))), (35, .v (.pointer (some (x.replies.ad.add ((i - 1) * 4))))), (34, vI ((i : Int) - 1)), (33, vI (i : Int)), (32, .v x.replies.val), (31, .p 0 4), (30, vB true), (29, vB true), (28, vI (i : Int)), (27, vB false), (26, vB false), (25, vB false), (24, vI (x.acked + 4)), (23, vI x.acked), (22, .p 0 2), (21, vI (x.replies.at i).seq), (20, .p 1 0), (19, vB false), (18, vB false), (17, vI x.acked), (16, .p 0 2), (15, vI (x.replies.at i).seq), (14, .p 1 0), (3, vI (i : Int)), (4, .p 1 0), (9, vI (i : Int)), (8, vI (x.replies.n : Int)), (7, .v x.replies.val), (1, .p 0 0)] [inR ((i : Int) - 1), x.replies.A = some x.replies.ad, (i : Int) - 1 = (((i - 1) : Nat) : Int), (i - 1) < x.replies.n] [((x.replies.ad.add ((i - 1) * 4)).add 0, [.int .i64 (x.replies.at (i - 1)).seq])] rfl (by kernel_rfl) (oc (by unfold inR; omega) (oc (Sl.ok.own (s := x.replies) (i := (i - 1)) okx (by omega)) (oc (by omega) (oc (by omega) on)))) (fun w hk hr => ⟨(Sl.rd.fld (s := x.replies) (i := (i - 1)) (Rds.kp hx hk) (by omega) 0 1 rfl), trivial⟩) ?_
     refine Hn (Ln (Qn ?_))
     cases h5 : decide ((x.replies.at i).seq ≤ (x.replies.at (i - 1)).seq) with
     | true =>
      have h5 := of_decide_eq_true h5
      refine Ci true rfl (Cs (Cg (Jq 1 [2] 0 ⟨[(2, vB false)], []⟩ (Ln (Qn (Cr (Qr (Qb (Qr (Qr (Qb (Qr (Rt (.inl rfl) [vB false] rfl (fun bs w hS => (⟨?_, hS.kp⟩)))))))))))))))
      have hm : mReplies x.abs = false := allTo_bad (j := i) (decide_eq_false (fun hk => by simp only [hat, hac] at hk; omega)) (show i < x.abs.replies.length by rw [hln]; omega)
      rw [hm]
      rfl
     | false =>
      have h5 := of_decide_eq_false h5
      refine Ci false rfl (Ck (Qn (Cs (Cg (Jq 4 [5, 9, 8, 7, 1] 3 ⟨[(5, .p 2 0), (9, vI (i : Int)), (8, vI (x.replies.n : Int)), (7, .v x.replies.val), (1, .p 0 0)], [⟨80, x.cs⟩, ⟨84, (x.replies.at i).cs⟩, ⟨82, (x.replies.at i).reply.cs⟩]⟩ (Ln (Qn (Cs (Cg (Jq 4 [48, 5, 9, 8, 7, 1] 3 ⟨[(48, vB (decide ((x.replies.at i).reply.code < 0))), (5, .p 2 0), (9, vI (i : Int)), (8, vI (x.replies.n : Int)), (7, .v x.replies.val), (1, .p 0 0)], [⟨80, x.cs⟩, ⟨84, (x.replies.at i).cs⟩, ⟨82, (x.replies.at i).reply.cs⟩]⟩ ?_))))))))))
      cases h6 : decide ((x.replies.at i).reply.code < 0) with
      | true =>
       have h6 := of_decide_eq_true h6
       refine Jq 20 [68, 9, 8, 7, 1] 1 ⟨[(68, vB true), (9, vI (i : Int)), (8, vI (x.replies.n : Int)), (7, .v x.replies.val), (1, .p 0 0)], [⟨80, x.cs⟩]⟩ (Ln (Qn (Ci true rfl (Cs (Cg (Jq 1 [2] 0 ⟨[(2, vB false)], []⟩ (Ln (Qn (Cr (Qb (Qr (Qr (Qb (Qr (Rt (.inl rfl) [vB false] rfl (fun bs w hS => (⟨?_, hS.kp⟩)))))))))))))))))
       have hm : mReplies x.abs = false := allTo_bad (j := i) (decide_eq_false (fun hk => by simp only [hat, hac] at hk; omega)) (show i < x.abs.replies.length by rw [hln]; omega)
       rw [hm]
       rfl
      | false =>
       have h6 := of_decide_eq_false h6
       refine Jq 5 [53, 5, 9, 8, 7, 1] 3 ⟨[(53, vB (decide ((15 : Int) < (x.replies.at i).reply.code))), (5, .p 2 0), (9, vI (i : Int)), (8, vI (x.replies.n : Int)), (7, .v x.replies.val), (1, .p 0 0)], [⟨80, x.cs⟩, ⟨84, (x.replies.at i).cs⟩, ⟨82, (x.replies.at i).reply.cs⟩]⟩ ?_
       cases h7 : decide ((15 : Int) < (x.replies.at i).reply.code) with
       | true =>
        have h7 := of_decide_eq_true h7
        refine Jq 15 [68, 9, 8, 7, 1] 1 ⟨[(68, vB true), (9, vI (i : Int)), (8, vI (x.replies.n : Int)), (7, .v x.replies.val), (1, .p 0 0)], [⟨80, x.cs⟩]⟩ (Ln (Qn (Ci true rfl (Cs (Cg (Jq 1 [2] 0 ⟨[(2, vB false)], []⟩ (Ln (Qn (Cr (Qb (Qr (Qr (Qb (Qr (Rt (.inl rfl) [vB false] rfl (fun bs w hS => (⟨?_, hS.kp⟩)))))))))))))))))
        have hm : mReplies x.abs = false := allTo_bad (j := i) (decide_eq_false (fun hk => by simp only [hat, hac] at hk; omega)) (show i < x.abs.replies.length by rw [hln]; omega)
        rw [hm]
        rfl
       | false =>
        have h7 := of_decide_eq_false h7
        refine Jq 5 [58, 5, 9, 8, 7, 1] 3 ⟨[(58, vB (decide ((x.replies.at i).reply.n < 0))), (5, .p 2 0), (9, vI (i : Int)), (8, vI (x.replies.n : Int)), (7, .v x.replies.val), (1, .p 0 0)], [⟨80, x.cs⟩, ⟨84, (x.replies.at i).cs⟩, ⟨82, (x.replies.at i).reply.cs⟩]⟩ ?_
        cases h8 : decide ((x.replies.at i).reply.n < 0) with
        | true =>
         have h8 := of_decide_eq_true h8
         refine Jq 10 [68, 9, 8, 7, 1] 1 ⟨[(68, vB true), (9, vI (i : Int)), (8, vI (x.replies.n : Int)), (7, .v x.replies.val), (1, .p 0 0)], [⟨80, x.cs⟩]⟩ (Ln (Qn (Ci true rfl (Cs (Cg (Jq 1 [2] 0 ⟨[(2, vB false)], []⟩ (Ln (Qn (Cr (Qb (Qr (Qr (Qb (Qr (Rt (.inl rfl) [vB false] rfl (fun bs w hS => (⟨?_, hS.kp⟩)))))))))))))))))
         have hm : mReplies x.abs = false := allTo_bad (j := i) (decide_eq_false (fun hk => by simp only [hat, hac] at hk; omega)) (show i < x.abs.replies.length by rw [hln]; omega)
         rw [hm]
         rfl
        | false =>
         have h8 := of_decide_eq_false h8
         refine Jq 5 [63, 5, 9, 8, 7, 1] 3 ⟨[(63, vB (decide ((1073741824 : Int) < (x.replies.at i).reply.n))), (5, .p 2 0), (9, vI (i : Int)), (8, vI (x.replies.n : Int)), (7, .v x.replies.val), (1, .p 0 0)], [⟨80, x.cs⟩, ⟨84, (x.replies.at i).cs⟩, ⟨82, (x.replies.at i).reply.cs⟩]⟩ ?_
         cases h9 : decide ((1073741824 : Int) < (x.replies.at i).reply.n) with
         | true =>
          have h9 := of_decide_eq_true h9
          refine Jq 5 [68, 9, 8, 7, 1] 1 ⟨[(68, vB true), (9, vI (i : Int)), (8, vI (x.replies.n : Int)), (7, .v x.replies.val), (1, .p 0 0)], [⟨80, x.cs⟩]⟩ (Ln (Qn (Ci true rfl (Cs (Cg (Jq 1 [2] 0 ⟨[(2, vB false)], []⟩ (Ln (Qn (Cr (Qb (Qr (Qr (Qb (Qr (Rt (.inl rfl) [vB false] rfl (fun bs w hS => (⟨?_, hS.kp⟩)))))))))))))))))
          have hm : mReplies x.abs = false := allTo_bad (j := i) (decide_eq_false (fun hk => by simp only [hat, hac] at hk; omega)) (show i < x.abs.replies.length by rw [hln]; omega)
          rw [hm]
          rfl
         | false =>
          have h9 := of_decide_eq_false h9
          refine Jq 5 [68, 9, 8, 7, 1] 1 ⟨[(68, vB (decide ((12 : Int) < ((x.replies.at i).reply.text.size : Int)))), (9, vI (i : Int)), (8, vI (x.replies.n : Int)), (7, .v x.replies.val), (1, .p 0 0)], [⟨80, x.cs⟩]⟩ (Ln (Qn ?_))
          cases h10 : decide ((12 : Int) < ((x.replies.at i).reply.text.size : Int)) with
          | true =>
           have h10 := of_decide_eq_true h10
           refine Ci true rfl (Cs (Cg (Jq 1 [2] 0 ⟨[(2, vB false)], []⟩ (Ln (Qn (Cr (Qb (Qr (Qr (Qb (Qr (Rt (.inl rfl) [vB false] rfl (fun bs w hS => (⟨?_, hS.kp⟩))))))))))))))
           have hm : mReplies x.abs = false := allTo_bad (j := i) (decide_eq_false (fun hk => by simp only [hat, hac] at hk; omega)) (show i < x.abs.replies.length by rw [hln]; omega)
           rw [hm]
           rfl
          | false =>
           have h10 := of_decide_eq_false h10
           refine Ci false rfl (Ck (q_block_normal (Qn (Cg (Jr 2 [] [9, 8, 7, 1] 1 ⟨[(9, vI ((i : Int) + 1)), (8, vI (x.replies.n : Int)), (7, .v x.replies.val), (1, .p 0 0)], [⟨80, x.cs⟩]⟩ [inR ((i : Int) + 1)] [] (by kernel_rfl) (oc (by unfold inR; omega) on) wn (Ln (Ql (x := (i : Nat)) ((i + 1) : Nat) ⟨by omega, allTo_step hI (decide_eq_true (by simp only [hat, hac]; exact ⟨by omega, by omega, by omega, by omega, by omega, by omega, by omega, by omega⟩))⟩ (by omega) (Ss [9, 8, 7, 1] 1 (by kernel_rfl) rfl))))))))
    | false =>
     have h4 := of_decide_eq_false h4
     refine Hq [] [(17, true), (18, false), (19, true), (20, true), (21, true), (22, true), (23, false), (24, true), (25, false), (26, true), (27, true), (28, true)] [(42, vB false), (41, vB false), (40, .v (undef)), (39, .v (undef)), (38, .v (undef)), (37, .v (undef)), (36, .v (undef)), (35, .v (undef)), (34, .v (undef)), (33, .v (undef)), (32, .v (undef)), (31, .v (undef)), (30, vB false), (29, vB false), (28, vI (i : Int)), (27, vB false), (26, vB false), (25, vB false), (24, vI (x.acked + 4)), (23, vI x.acked), (22, .p 0 2), (21, vI (x.replies.at i).seq), (20, .p 1 0), (19, vB false), (18, vB false), (17, vI x.acked), (16, .p 0 2), (15, vI (x.replies.at i).seq), (14, .p 1 0), (3, vI (i : Int)), (4, .p 1 0), (9, vI (i : Int)), (8, vI (x.replies.n : Int)), (7, .v x.replies.val), (1, .p 0 0)] [] [] rfl (by kernel_rfl) on wn ?_
     refine Hn (Ln (Qn (Ci false rfl (Ck (Qn (Cs (Cg (Jq 4 [5, 9, 8, 7, 1] 3 ⟨[(5, .p 2 0), (9, vI (i : Int)), (8, vI (x.replies.n : Int)), (7, .v x.replies.val), (1, .p 0 0)], [⟨80, x.cs⟩, ⟨84, (x.replies.at i).cs⟩, ⟨82, (x.replies.at i).reply.cs⟩]⟩ (Ln (Qn (Cs (Cg (Jq 4 [48, 5, 9, 8, 7, 1] 3 ⟨[(48, vB (decide ((x.replies.at i).reply.code < 0))), (5, .p 2 0), (9, vI (i : Int)), (8, vI (x.replies.n : Int)), (7, .v x.replies.val), (1, .p 0 0)], [⟨80, x.cs⟩, ⟨84, (x.replies.at i).cs⟩, ⟨82, (x.replies.at i).reply.cs⟩]⟩ ?_)))))))))))))
     cases h11 : decide ((x.replies.at i).reply.code < 0) with
     | true =>
      have h11 := of_decide_eq_true h11
      refine Jq 20 [68, 9, 8, 7, 1] 1 ⟨[(68, vB true), (9, vI (i : Int)), (8, vI (x.replies.n : Int)), (7, .v x.replies.val), (1, .p 0 0)], [⟨80, x.cs⟩]⟩ (Ln (Qn (Ci true rfl (Cs (Cg (Jq 1 [2] 0 ⟨[(2, vB false)], []⟩ (Ln (Qn (Cr (Qb (Qr (Qr (Qb (Qr (Rt (.inl rfl) [vB false] rfl (fun bs w hS => (⟨?_, hS.kp⟩)))))))))))))))))
      have hm : mReplies x.abs = false := allTo_bad (j := i) (decide_eq_false (fun hk => by simp only [hat, hac] at hk; omega)) (show i < x.abs.replies.length by rw [hln]; omega)
      rw [hm]
      rfl
     | false =>
      have h11 := of_decide_eq_false h11
      refine Jq 5 [53, 5, 9, 8, 7, 1] 3 ⟨[(53, vB (decide ((15 : Int) < (x.replies.at i).reply.code))), (5, .p 2 0), (9, vI (i : Int)), (8, vI (x.replies.n : Int)), (7, .v x.replies.val), (1, .p 0 0)], [⟨80, x.cs⟩, ⟨84, (x.replies.at i).cs⟩, ⟨82, (x.replies.at i).reply.cs⟩]⟩ ?_
      cases h12 : decide ((15 : Int) < (x.replies.at i).reply.code) with
      | true =>
       have h12 := of_decide_eq_true h12
       refine Jq 15 [68, 9, 8, 7, 1] 1 ⟨[(68, vB true), (9, vI (i : Int)), (8, vI (x.replies.n : Int)), (7, .v x.replies.val), (1, .p 0 0)], [⟨80, x.cs⟩]⟩ (Ln (Qn (Ci true rfl (Cs (Cg (Jq 1 [2] 0 ⟨[(2, vB false)], []⟩ (Ln (Qn (Cr (Qb (Qr (Qr (Qb (Qr (Rt (.inl rfl) [vB false] rfl (fun bs w hS => (⟨?_, hS.kp⟩)))))))))))))))))
       have hm : mReplies x.abs = false := allTo_bad (j := i) (decide_eq_false (fun hk => by simp only [hat, hac] at hk; omega)) (show i < x.abs.replies.length by rw [hln]; omega)
       rw [hm]
       rfl
      | false =>
       have h12 := of_decide_eq_false h12
       refine Jq 5 [58, 5, 9, 8, 7, 1] 3 ⟨[(58, vB (decide ((x.replies.at i).reply.n < 0))), (5, .p 2 0), (9, vI (i : Int)), (8, vI (x.replies.n : Int)), (7, .v x.replies.val), (1, .p 0 0)], [⟨80, x.cs⟩, ⟨84, (x.replies.at i).cs⟩, ⟨82, (x.replies.at i).reply.cs⟩]⟩ ?_
       cases h13 : decide ((x.replies.at i).reply.n < 0) with
       | true =>
        have h13 := of_decide_eq_true h13
        refine Jq 10 [68, 9, 8, 7, 1] 1 ⟨[(68, vB true), (9, vI (i : Int)), (8, vI (x.replies.n : Int)), (7, .v x.replies.val), (1, .p 0 0)], [⟨80, x.cs⟩]⟩ (Ln (Qn (Ci true rfl (Cs (Cg (Jq 1 [2] 0 ⟨[(2, vB false)], []⟩ (Ln (Qn (Cr (Qb (Qr (Qr (Qb (Qr (Rt (.inl rfl) [vB false] rfl (fun bs w hS => (⟨?_, hS.kp⟩)))))))))))))))))
        have hm : mReplies x.abs = false := allTo_bad (j := i) (decide_eq_false (fun hk => by simp only [hat, hac] at hk; omega)) (show i < x.abs.replies.length by rw [hln]; omega)
        rw [hm]
        rfl
       | false =>
        have h13 := of_decide_eq_false h13
        refine Jq 5 [63, 5, 9, 8, 7, 1] 3 ⟨[(63, vB (decide ((1073741824 : Int) < (x.replies.at i).reply.n))), (5, .p 2 0), (9, vI (i : Int)), (8, vI (x.replies.n : Int)), (7, .v x.replies.val), (1, .p 0 0)], [⟨80, x.cs⟩, ⟨84, (x.replies.at i).cs⟩, ⟨82, (x.replies.at i).reply.cs⟩]⟩ ?_
        cases h14 : decide ((1073741824 : Int) < (x.replies.at i).reply.n) with
        | true =>
         have h14 := of_decide_eq_true h14
         refine Jq 5 [68, 9, 8, 7, 1] 1 ⟨[(68, vB true), (9, vI (i : Int)), (8, vI (x.replies.n : Int)), (7, .v x.replies.val), (1, .p 0 0)], [⟨80, x.cs⟩]⟩ (Ln (Qn (Ci true rfl (Cs (Cg (Jq 1 [2] 0 ⟨[(2, vB false)], []⟩ (Ln (Qn (Cr (Qb (Qr (Qr (Qb (Qr (Rt (.inl rfl) [vB false] rfl (fun bs w hS => (⟨?_, hS.kp⟩)))))))))))))))))
         have hm : mReplies x.abs = false := allTo_bad (j := i) (decide_eq_false (fun hk => by simp only [hat, hac] at hk; omega)) (show i < x.abs.replies.length by rw [hln]; omega)
         rw [hm]
         rfl
        | false =>
         have h14 := of_decide_eq_false h14
         refine Jq 5 [68, 9, 8, 7, 1] 1 ⟨[(68, vB (decide ((12 : Int) < ((x.replies.at i).reply.text.size : Int)))), (9, vI (i : Int)), (8, vI (x.replies.n : Int)), (7, .v x.replies.val), (1, .p 0 0)], [⟨80, x.cs⟩]⟩ (Ln (Qn ?_))
         cases h15 : decide ((12 : Int) < ((x.replies.at i).reply.text.size : Int)) with
         | true =>
          have h15 := of_decide_eq_true h15
          refine Ci true rfl (Cs (Cg (Jq 1 [2] 0 ⟨[(2, vB false)], []⟩ (Ln (Qn (Cr (Qb (Qr (Qr (Qb (Qr (Rt (.inl rfl) [vB false] rfl (fun bs w hS => (⟨?_, hS.kp⟩))))))))))))))
          have hm : mReplies x.abs = false := allTo_bad (j := i) (decide_eq_false (fun hk => by simp only [hat, hac] at hk; omega)) (show i < x.abs.replies.length by rw [hln]; omega)
          rw [hm]
          rfl
         | false =>
          have h15 := of_decide_eq_false h15
          refine Ci false rfl (Ck (q_block_normal (Qn (Cg (Jr 2 [] [9, 8, 7, 1] 1 ⟨[(9, vI ((i : Int) + 1)), (8, vI (x.replies.n : Int)), (7, .v x.replies.val), (1, .p 0 0)], [⟨80, x.cs⟩]⟩ [inR ((i : Int) + 1)] [] (by kernel_rfl) (oc (by unfold inR; omega) on) wn (Ln (Ql (x := (i : Nat)) ((i + 1) : Nat) ⟨by omega, allTo_step hI (decide_eq_true (by simp only [hat, hac]; exact ⟨by omega, by omega, by omega, by omega, by omega, by omega, by omega, by omega⟩))⟩ (by omega) (Ss [9, 8, 7, 1] 1 (by kernel_rfl) rfl))))))))
 | false =>
  have h1 := of_decide_eq_false h1
  refine Ci false rfl (c_exit (Qe (Qe (Qh (Qn (Cs (Cg (Jq 1 [2] 0 ⟨[(2, vB true)], []⟩ (Ln (Qn (Cr (Rt (.inl rfl) [vB true] rfl (fun bs w hS => (⟨?_, hS.kp⟩))))))))))))))
  have hm : mReplies x.abs = true := by show allTo _ x.abs.replies.length = true; rw [hln, show x.replies.n = i by omega]; exact hI
  rw [hm]
  rfl

theorem ref_repliesMay {B : Nat → Prop} (x : CSession) (w : World) (hx : Rds.sub B w x) (hb : 0 ≤ x.acked ∧ x.acked ≤ 1048576) : Calls Try.prog 88 #[.agg #[.int .i64 x.client, .int .i64 x.id, .int .i64 x.acked, .int .i64 x.last, .slice x.replies.A x.replies.n x.replies.c]] w fun e w' => e = .returned (.bool (mReplies x.abs)) ∧ Kp [] w w' := by
 have okx := Rds.okof hx
 have ncx := Sl.ok.nc okx
 have hns : x.replies.n = x.replies.xs.length := rfl
 have hat : ∀ q, x.abs.replies.getD q default = x.replies.at q := fun _ => rfl
 have hac : x.abs.acked = x.acked := rfl
 have hln : x.abs.replies.length = x.replies.n := rfl
 refine calls_J0 52 Try.func88 rfl rfl [.agg #[.int .i64 x.client, .int .i64 x.id, .int .i64 x.acked, .int .i64 x.last, .slice x.replies.A x.replies.n x.replies.c]] rfl ?_
 refine Cs (Cg (Jq 2 [1] 1 ⟨[(1, .p 0 0)], [⟨80, x.cs⟩]⟩ (Ln (Qn (Cs (Cg (Jq 3 [3, 1] 1 ⟨[(3, vI x.acked), (1, .p 0 0)], [⟨80, x.cs⟩]⟩ (Ln (Qn (Cs (Cs (Cg (Jq 1 [4, 3, 1] 1 ⟨[(4, vI 0), (3, vI x.acked), (1, .p 0 0)], [⟨80, x.cs⟩]⟩ (Ln (Qn (Cb (Cl (σ := Nat × Int) (fun ⟨i, la⟩ => i ≤ x.replies.n ∧ allTo (keptOk x.abs) i = true ∧ x.acked ≤ la ∧ la ≤ x.acked + 4 ∧ (i = 0 → la = x.acked) ∧ (0 < i → la = (x.replies.at (i - 1)).seq)) (fun ⟨i, la⟩ => x.replies.n - i) (fun ⟨i, la⟩ => []) (fun ⟨i, la⟩ => ⟨[(4, vI (i : Int)), (3, vI la), (1, .p 0 0)], [⟨80, x.cs⟩]⟩) ⟨0, x.acked⟩ ⟨Nat.zero_le _, rfl, by omega, by omega, fun _ => rfl, fun h => absurd h (by omega)⟩ (Ss [4, 3, 1] 1 (by kernel_rfl) rfl) ?_)))))))))))))))))
 rintro ⟨i, la⟩ ⟨hi, hI, hl1, hl2, hl3, hl4⟩
 have hz : i = 0 ∧ la = x.acked ∨ 0 < i ∧ la = (x.replies.at (i - 1)).seq := by rcases Nat.eq_zero_or_pos i with h | h; exact .inl ⟨h, hl3 h⟩; exact .inr ⟨h, hl4 h⟩
 refine Cs (Cs (Cg (Jq 5 [12, 4, 3, 1] 1 ⟨[(12, vB (decide ((i : Int) < (x.replies.n : Int)))), (4, vI (i : Int)), (3, vI la), (1, .p 0 0)], [⟨80, x.cs⟩]⟩ (Ln (Qn ?_)))))
 cases h1 : decide ((i : Int) < (x.replies.n : Int)) with
 | true =>
  have h1 := of_decide_eq_true h1
  refine Ci true rfl (Ck (Qn (Cs (Cb (Cs (Cg (Jr 7 [(3, .idx x.replies.ad i), (4, .ext [.int .i64 (x.replies.at i).seq, .int .i64 (x.replies.at i).reply.code, .int .i64 (x.replies.at i).reply.n, .string (x.replies.at i).reply.text])] [5, 4, 3, 1] 2 ⟨[(5, .p 1 0), (4, vI (i : Int)), (3, vI la), (1, .p 0 0)], [⟨80, x.cs⟩, ⟨84, (x.replies.at i).cs⟩]⟩ [x.replies.A = some x.replies.ad, (i : Int) = (i : Int), i < x.replies.n] [(x.replies.ad.add (i * 4), [.int .i64 (x.replies.at i).seq, .int .i64 (x.replies.at i).reply.code, .int .i64 (x.replies.at i).reply.n, .string (x.replies.at i).reply.text])] (by kernel_rfl) (oc (Sl.ok.own (s := x.replies) (i := i) okx (by omega)) (oc rfl (oc (by omega) on))) (fun w hk hr => ⟨(Sl.rd.all (s := x.replies) (i := i) (Rds.kp hx hk) (by omega) rfl), trivial⟩) (Ln (Qn (Cs (Cs (Cg (Jr 7 [] [26, 23, 21, 5, 4, 1] 2 ⟨[(26, vI (x.acked + 4)), (23, vI (la + 1)), (21, vI (x.replies.at i).seq), (5, .p 1 0), (4, vI (i : Int)), (1, .p 0 0)], [⟨80, x.cs⟩, ⟨84, (x.replies.at i).cs⟩]⟩ [inR (la + 1), inR (x.acked + 4)] [] (by kernel_rfl) (oc (by unfold inR; omega) (oc (by unfold inR; omega) on)) wn (Lp 41 [] [vI (x.replies.at i).seq, vI (la + 1), vI (x.acked + 4)] (.bool (inB (x.replies.at i).seq (la + 1) (x.acked + 4))) Try.call41 rfl rfl rfl rfl (fun bs w hS => ref_In _ _ _ w) (Jq 2 [29, 5, 4, 1] 2 ⟨[(29, vB (!(inB (x.replies.at i).seq (la + 1) (x.acked + 4)))), (5, .p 1 0), (4, vI (i : Int)), (1, .p 0 0)], [⟨80, x.cs⟩, ⟨84, (x.replies.at i).cs⟩]⟩ ?_)))))))))))))))
  cases h2 : inB (x.replies.at i).seq (la + 1) (x.acked + 4) with
  | true =>
   simp only [inB, Bool.and_eq_true, Bool.and_eq_false_iff, decide_eq_true_eq, decide_eq_false_iff_not] at h2
   refine Jq 3 [32, 29, 5, 4, 1] 2 ⟨[(32, vI (x.replies.at i).reply.code), (29, vB false), (5, .p 1 0), (4, vI (i : Int)), (1, .p 0 0)], [⟨80, x.cs⟩, ⟨84, (x.replies.at i).cs⟩]⟩ (Lp 41 [] [vI (x.replies.at i).reply.code, vI 0, vI 15] (.bool (inB (x.replies.at i).reply.code 0 15)) Try.call41 rfl rfl rfl rfl (fun bs w hS => ref_In _ _ _ w) (Jq 3 [36, 5, 4, 1] 2 ⟨[(36, vB (!(inB (x.replies.at i).reply.code 0 15))), (5, .p 1 0), (4, vI (i : Int)), (1, .p 0 0)], [⟨80, x.cs⟩, ⟨84, (x.replies.at i).cs⟩]⟩ ?_))
   cases h3 : inB (x.replies.at i).reply.code 0 15 with
   | true =>
    simp only [inB, Bool.and_eq_true, Bool.and_eq_false_iff, decide_eq_true_eq, decide_eq_false_iff_not] at h3
    refine Jq 3 [39, 36, 5, 4, 1] 2 ⟨[(39, vI (x.replies.at i).reply.n), (36, vB false), (5, .p 1 0), (4, vI (i : Int)), (1, .p 0 0)], [⟨80, x.cs⟩, ⟨84, (x.replies.at i).cs⟩]⟩ (Lp 41 [] [vI (x.replies.at i).reply.n, vI 0, vI 1073741824] (.bool (inB (x.replies.at i).reply.n 0 1073741824)) Try.call41 rfl rfl rfl rfl (fun bs w hS => ref_In _ _ _ w) (Jq 3 [43, 5, 4, 1] 2 ⟨[(43, vB (!(inB (x.replies.at i).reply.n 0 1073741824))), (5, .p 1 0), (4, vI (i : Int)), (1, .p 0 0)], [⟨80, x.cs⟩, ⟨84, (x.replies.at i).cs⟩]⟩ ?_))
    cases h4 : inB (x.replies.at i).reply.n 0 1073741824 with
    | true =>
     simp only [inB, Bool.and_eq_true, Bool.and_eq_false_iff, decide_eq_true_eq, decide_eq_false_iff_not] at h4
     refine Jq 6 [49, 5, 4, 1] 2 ⟨[(49, vB (decide ((12 : Int) < ((x.replies.at i).reply.text.size : Int)))), (5, .p 1 0), (4, vI (i : Int)), (1, .p 0 0)], [⟨80, x.cs⟩, ⟨84, (x.replies.at i).cs⟩]⟩ (Ln (Qn ?_))
     cases h5 : decide ((12 : Int) < ((x.replies.at i).reply.text.size : Int)) with
     | true =>
      have h5 := of_decide_eq_true h5
      refine Ci true rfl (Cs (Cg (Jq 1 [2] 0 ⟨[(2, vB false)], []⟩ (Ln (Qn (Cr (Qr (Qb (Qr (Qr (Qb (Qr (Rt (.inl rfl) [vB false] rfl (fun bs w hS => (⟨?_, hS.kp⟩)))))))))))))))
      have hm : mReplies x.abs = false := allTo_bad (j := i) (decide_eq_false (fun hk => by simp only [hat, hac] at hk; omega)) (show i < x.abs.replies.length by rw [hln]; omega)
      rw [hm]
      rfl
     | false =>
      have h5 := of_decide_eq_false h5
      refine Ci false rfl (Ck (Qn (Cg (Jq 3 [3, 4, 1] 1 ⟨[(3, vI (x.replies.at i).seq), (4, vI (i : Int)), (1, .p 0 0)], [⟨80, x.cs⟩]⟩ (Ln (q_block_normal (Qn (Cg (Jr 3 [] [4, 3, 1] 1 ⟨[(4, vI ((i : Int) + 1)), (3, vI (x.replies.at i).seq), (1, .p 0 0)], [⟨80, x.cs⟩]⟩ [inR ((i : Int) + 1)] [] (by kernel_rfl) (oc (by unfold inR; omega) on) wn (Ln (Ql (x := (⟨i, la⟩ : Nat × Int)) (⟨i + 1, (x.replies.at i).seq⟩ : Nat × Int) ⟨by omega, allTo_step hI (decide_eq_true (by simp only [hat, hac]; exact ⟨by omega, by omega, by omega, by omega, by omega, by omega, by omega, by omega⟩)), by omega, by omega, fun h => absurd h (by omega), fun _ => rfl⟩ (by show x.replies.n - (i + 1) < x.replies.n - i; omega) (Ss [4, 3, 1] 1 (by kernel_rfl) rfl))))))))))))
    | false =>
     simp only [inB, Bool.and_eq_true, Bool.and_eq_false_iff, decide_eq_true_eq, decide_eq_false_iff_not] at h4
     refine Jq 6 [49, 5, 4, 1] 2 ⟨[(49, vB true), (5, .p 1 0), (4, vI (i : Int)), (1, .p 0 0)], [⟨80, x.cs⟩, ⟨84, (x.replies.at i).cs⟩]⟩ (Ln (Qn (Ci true rfl (Cs (Cg (Jq 1 [2] 0 ⟨[(2, vB false)], []⟩ (Ln (Qn (Cr (Qr (Qb (Qr (Qr (Qb (Qr (Rt (.inl rfl) [vB false] rfl (fun bs w hS => (⟨?_, hS.kp⟩))))))))))))))))))
     have hm : mReplies x.abs = false := allTo_bad (j := i) (decide_eq_false (fun hk => by simp only [hat, hac] at hk; omega)) (show i < x.abs.replies.length by rw [hln]; omega)
     rw [hm]
     rfl
   | false =>
    simp only [inB, Bool.and_eq_true, Bool.and_eq_false_iff, decide_eq_true_eq, decide_eq_false_iff_not] at h3
    refine Jq 13 [49, 5, 4, 1] 2 ⟨[(49, vB true), (5, .p 1 0), (4, vI (i : Int)), (1, .p 0 0)], [⟨80, x.cs⟩, ⟨84, (x.replies.at i).cs⟩]⟩ (Ln (Qn (Ci true rfl (Cs (Cg (Jq 1 [2] 0 ⟨[(2, vB false)], []⟩ (Ln (Qn (Cr (Qr (Qb (Qr (Qr (Qb (Qr (Rt (.inl rfl) [vB false] rfl (fun bs w hS => (⟨?_, hS.kp⟩))))))))))))))))))
    have hm : mReplies x.abs = false := allTo_bad (j := i) (decide_eq_false (fun hk => by simp only [hat, hac] at hk; omega)) (show i < x.abs.replies.length by rw [hln]; omega)
    rw [hm]
    rfl
  | false =>
   simp only [inB, Bool.and_eq_true, Bool.and_eq_false_iff, decide_eq_true_eq, decide_eq_false_iff_not] at h2
   refine Jq 20 [49, 5, 4, 1] 2 ⟨[(49, vB true), (5, .p 1 0), (4, vI (i : Int)), (1, .p 0 0)], [⟨80, x.cs⟩, ⟨84, (x.replies.at i).cs⟩]⟩ (Ln (Qn (Ci true rfl (Cs (Cg (Jq 1 [2] 0 ⟨[(2, vB false)], []⟩ (Ln (Qn (Cr (Qr (Qb (Qr (Qr (Qb (Qr (Rt (.inl rfl) [vB false] rfl (fun bs w hS => (⟨?_, hS.kp⟩))))))))))))))))))
   have hm : mReplies x.abs = false := allTo_bad (j := i) (decide_eq_false (fun hk => by simp only [hat, hac] at hk; omega)) (show i < x.abs.replies.length by rw [hln]; omega)
   rw [hm]
   rfl
 | false =>
  have h1 := of_decide_eq_false h1
  refine Ci false rfl (c_exit (Qe (Qe (Qh (Qn (Cs (Cg (Jq 1 [2] 0 ⟨[(2, vB true)], []⟩ (Ln (Qn (Cr (Rt (.inl rfl) [vB true] rfl (fun bs w hS => (⟨?_, hS.kp⟩))))))))))))))
  have hm : mReplies x.abs = true := by show allTo _ x.abs.replies.length = true; rw [hln, show x.replies.n = i by omega]; exact hI
  rw [hm]
  rfl

theorem session_Check {B : Nat → Prop} (s : Sl CSession) (n : Int) (w : World) (hs : s.rd B w) : Calls Try.prog 58 #[.slice s.A s.n s.c, .int .i64 n] w fun e w' => e = .returned (.int .i64 (mSess (s.xs.map CSession.abs) n)) ∧ Kp [] w w' := by
 have oks := Sl.rd.ok hs
 have ncs := Sl.ok.nc oks
 have hns : s.n = s.xs.length := rfl
 have hat : ∀ q, (s.xs.map CSession.abs).getD q default = (s.at q).abs := fun q => sabs_at q
 have hq0 : ∀ q, (s.at q).abs.client = (s.at q).client := fun _ => rfl
 have hq1 : ∀ q, (s.at q).abs.id = (s.at q).id := fun _ => rfl
 have hq2 : ∀ q, (s.at q).abs.acked = (s.at q).acked := fun _ => rfl
 have hq3 : ∀ q, (s.at q).abs.last = (s.at q).last := fun _ => rfl
 have hml : (s.xs.map CSession.abs).length = s.n := by simp
 refine calls_J0 76 Try.func58 rfl rfl [.slice s.A s.n s.c, .int .i64 n] rfl ?_
 refine Cs (Cg (Jq 1 [0, 1] 0 ⟨[(0, .v s.val), (1, vI n)], []⟩ (Ln (Qn (Cs (Cs (Cg (Jq 3 [9, 0, 1] 0 ⟨[(9, vB (decide (n < 0))), (0, .v s.val), (1, vI n)], []⟩ ?_))))))))
 cases h1 : decide (n < 0) with
 | true =>
  have h1 := of_decide_eq_true h1
  refine Jq 3 [12, 0, 1] 0 ⟨[(12, vB true), (0, .v s.val), (1, vI n)], []⟩ (Ln (Qn (Ci true rfl (Cs (Cg (Jq 1 [4] 0 ⟨[(4, vI 2)], []⟩ (Ln (Qn (Cr (Qr (Rt (.inl rfl) [vI 2] rfl (fun bs w hS => (⟨?_, hS.kp⟩)))))))))))))
  simp only [retOf, den, List.map_cons, List.map_nil]
  have hm : mSess (s.xs.map CSession.abs) n = 2 := by
   unfold mSess; rw [hml]
   first | rw [if_pos (by omega)] | rw [if_neg (by omega), if_pos (by omega)]
  rw [hm]
 | false =>
  have h1 := of_decide_eq_false h1
  refine Jq 3 [12, 0, 1] 0 ⟨[(12, vB (decide ((1073741824 : Int) < n))), (0, .v s.val), (1, vI n)], []⟩ (Ln (Qn ?_))
  cases h2 : decide ((1073741824 : Int) < n) with
  | true =>
   have h2 := of_decide_eq_true h2
   refine Ci true rfl (Cs (Cg (Jq 1 [4] 0 ⟨[(4, vI 2)], []⟩ (Ln (Qn (Cr (Qr (Rt (.inl rfl) [vI 2] rfl (fun bs w hS => (⟨?_, hS.kp⟩))))))))))
   simp only [retOf, den, List.map_cons, List.map_nil]
   have hm : mSess (s.xs.map CSession.abs) n = 2 := by
    unfold mSess; rw [hml]
    first | rw [if_pos (by omega)] | rw [if_neg (by omega), if_pos (by omega)]
   rw [hm]
  | false =>
   have h2 := of_decide_eq_false h2
   refine Ci false rfl (Ck (Qn (Cs (Cs (Cg (Jq 3 [15, 0, 1] 0 ⟨[(15, vB (decide ((4 : Int) < (s.n : Int)))), (0, .v s.val), (1, vI n)], []⟩ (Ln (Qn ?_))))))))
   cases h3 : decide ((4 : Int) < (s.n : Int)) with
   | true =>
    have h3 := of_decide_eq_true h3
    refine Ci true rfl (Cs (Cg (Jq 1 [4] 0 ⟨[(4, vI 1)], []⟩ (Ln (Qn (Cr (Qr (Rt (.inl rfl) [vI 1] rfl (fun bs w hS => (⟨?_, hS.kp⟩))))))))))
    simp only [retOf, den, List.map_cons, List.map_nil]
    have hm : mSess (s.xs.map CSession.abs) n = 1 := by
     unfold mSess; rw [hml]
     first | rw [if_pos (by omega)] | rw [if_neg (by omega), if_pos (by omega)]
    rw [hm]
   | false =>
    have h3 := of_decide_eq_false h3
    refine Ci false rfl (Ck (Qn (Cs (Cs (Cg (Jq 3 [18, 17, 16, 0, 1] 0 ⟨[(18, vI 0), (17, vI (s.n : Int)), (16, .v s.val), (0, .v s.val), (1, vI n)], []⟩ (Ln (Qn (Cb (Cl (σ := Nat) (fun i => i ≤ s.n ∧ mSess (s.xs.map CSession.abs) n = firstF (sessF (s.xs.map CSession.abs) n) (s.n - i) i) (fun i => s.n - i) (fun i => []) (fun i => ⟨[(18, vI (i : Int)), (17, vI (s.n : Int)), (16, .v s.val), (0, .v s.val), (1, vI n)], []⟩) 0 ⟨Nat.zero_le _, by unfold mSess; rw [hml, if_neg (by omega), if_neg (by omega)]⟩ (Ss [18, 17, 16, 0, 1] 0 (by kernel_rfl) rfl) ?_))))))))))
    rintro i ⟨hi, hI⟩
    refine Cs (Cg (Jq 1 [19, 18, 17, 16, 0, 1] 0 ⟨[(19, vB (decide ((i : Int) < (s.n : Int)))), (18, vI (i : Int)), (17, vI (s.n : Int)), (16, .v s.val), (0, .v s.val), (1, vI n)], []⟩ (Ln (Qn (Cs ?_)))))
    cases h4 : decide ((i : Int) < (s.n : Int)) with
    | true =>
     have h4 := of_decide_eq_true h4
     refine Ci true rfl (Ck (Qn (Cs (Cb (Cs (Cg (Jr 6 [(1, .idx s.ad i), (2, .ext [.int .i64 (s.at i).client, .int .i64 (s.at i).id, .int .i64 (s.at i).acked, .int .i64 (s.at i).last, .slice (s.at i).replies.A (s.at i).replies.n (s.at i).replies.c])] [5, 6, 18, 17, 16, 0, 1] 1 ⟨[(5, vI (i : Int)), (6, .p 0 0), (18, vI (i : Int)), (17, vI (s.n : Int)), (16, .v s.val), (0, .v s.val), (1, vI n)], [⟨80, (s.at i).cs⟩]⟩ [s.A = some s.ad, (i : Int) = (i : Int), i < s.n] [(s.ad.add (i * 5), [.int .i64 (s.at i).client, .int .i64 (s.at i).id, .int .i64 (s.at i).acked, .int .i64 (s.at i).last, .slice (s.at i).replies.A (s.at i).replies.n (s.at i).replies.c])] (by kernel_rfl) (oc (Sl.ok.own (s := s) (i := i) oks (by omega)) (oc rfl (oc (by omega) on))) (fun w hk hr => ⟨(Sl.rd.all (s := s) (i := i) (Sl.rd.kp hs hk) (by omega) rfl), trivial⟩) (Ln (Qn (Cs (Cs (Cg (Jq 4 [26, 5, 6, 18, 17, 16, 0, 1] 1 ⟨[(26, vB (decide ((s.at i).client < 1))), (5, vI (i : Int)), (6, .p 0 0), (18, vI (i : Int)), (17, vI (s.n : Int)), (16, .v s.val), (0, .v s.val), (1, vI n)], [⟨80, (s.at i).cs⟩]⟩ ?_)))))))))))))
     cases h5 : decide ((s.at i).client < 1) with
     | true =>
      have h5 := of_decide_eq_true h5
      refine Jq 32 [58, 5, 6, 18, 17, 16, 0, 1] 1 ⟨[(58, vB true), (5, vI (i : Int)), (6, .p 0 0), (18, vI (i : Int)), (17, vI (s.n : Int)), (16, .v s.val), (0, .v s.val), (1, vI n)], [⟨80, (s.at i).cs⟩]⟩ (Ln (Qn (Ci true rfl (Cs (Cg (Jq 1 [4] 0 ⟨[(4, vI 2)], []⟩ (Ln (Qn (Cr (Qr (Qb (Qr (Qr (Qb (Qr (Rt (.inl rfl) [vI 2] rfl (fun bs w hS => (⟨?_, hS.kp⟩))))))))))))))))))
      simp only [retOf, den, List.map_cons, List.map_nil]
      have hf : sessF (s.xs.map CSession.abs) n i = 2 := by
       unfold sessF
       simp only [hat, hq0, hq1, hq2, hq3]
       try simp only [h1, h2, h3, h4, h5, emp_size, ne_eq, not_true_eq_false, not_false_eq_true, true_or, or_true, false_or, or_false, and_true, true_and, and_false, false_and, and_self, or_self, if_true, if_false, Bool.true_eq_false, Bool.false_eq_true, reduceIte, Classical.not_not, Bool.and_eq_true, decide_eq_true_eq]
       repeat (first | rw [if_pos (by omega)] | rw [if_neg (by omega)])
       all_goals first | rfl | (exfalso; omega)
      rw [hI, firstF_here (by omega) hf (by omega)]
     | false =>
      have h5 := of_decide_eq_false h5
      refine Jq 5 [31, 5, 6, 18, 17, 16, 0, 1] 1 ⟨[(31, vB (decide ((9 : Int) < (s.at i).client))), (5, vI (i : Int)), (6, .p 0 0), (18, vI (i : Int)), (17, vI (s.n : Int)), (16, .v s.val), (0, .v s.val), (1, vI n)], [⟨80, (s.at i).cs⟩]⟩ ?_
      cases h6 : decide ((9 : Int) < (s.at i).client) with
      | true =>
       have h6 := of_decide_eq_true h6
       refine Jq 27 [58, 5, 6, 18, 17, 16, 0, 1] 1 ⟨[(58, vB true), (5, vI (i : Int)), (6, .p 0 0), (18, vI (i : Int)), (17, vI (s.n : Int)), (16, .v s.val), (0, .v s.val), (1, vI n)], [⟨80, (s.at i).cs⟩]⟩ (Ln (Qn (Ci true rfl (Cs (Cg (Jq 1 [4] 0 ⟨[(4, vI 2)], []⟩ (Ln (Qn (Cr (Qr (Qb (Qr (Qr (Qb (Qr (Rt (.inl rfl) [vI 2] rfl (fun bs w hS => (⟨?_, hS.kp⟩))))))))))))))))))
       simp only [retOf, den, List.map_cons, List.map_nil]
       have hf : sessF (s.xs.map CSession.abs) n i = 2 := by
        unfold sessF
        simp only [hat, hq0, hq1, hq2, hq3]
        try simp only [h1, h2, h3, h4, h5, h6, emp_size, ne_eq, not_true_eq_false, not_false_eq_true, true_or, or_true, false_or, or_false, and_true, true_and, and_false, false_and, and_self, or_self, if_true, if_false, Bool.true_eq_false, Bool.false_eq_true, reduceIte, Classical.not_not, Bool.and_eq_true, decide_eq_true_eq]
        repeat (first | rw [if_pos (by omega)] | rw [if_neg (by omega)])
        all_goals first | rfl | (exfalso; omega)
       rw [hI, firstF_here (by omega) hf (by omega)]
      | false =>
       have h6 := of_decide_eq_false h6
       refine Jq 5 [36, 5, 6, 18, 17, 16, 0, 1] 1 ⟨[(36, vB (decide ((s.at i).acked < 0))), (5, vI (i : Int)), (6, .p 0 0), (18, vI (i : Int)), (17, vI (s.n : Int)), (16, .v s.val), (0, .v s.val), (1, vI n)], [⟨80, (s.at i).cs⟩]⟩ ?_
       cases h7 : decide ((s.at i).acked < 0) with
       | true =>
        have h7 := of_decide_eq_true h7
        refine Jq 22 [58, 5, 6, 18, 17, 16, 0, 1] 1 ⟨[(58, vB true), (5, vI (i : Int)), (6, .p 0 0), (18, vI (i : Int)), (17, vI (s.n : Int)), (16, .v s.val), (0, .v s.val), (1, vI n)], [⟨80, (s.at i).cs⟩]⟩ (Ln (Qn (Ci true rfl (Cs (Cg (Jq 1 [4] 0 ⟨[(4, vI 2)], []⟩ (Ln (Qn (Cr (Qr (Qb (Qr (Qr (Qb (Qr (Rt (.inl rfl) [vI 2] rfl (fun bs w hS => (⟨?_, hS.kp⟩))))))))))))))))))
        simp only [retOf, den, List.map_cons, List.map_nil]
        have hf : sessF (s.xs.map CSession.abs) n i = 2 := by
         unfold sessF
         simp only [hat, hq0, hq1, hq2, hq3]
         try simp only [h1, h2, h3, h4, h5, h6, h7, emp_size, ne_eq, not_true_eq_false, not_false_eq_true, true_or, or_true, false_or, or_false, and_true, true_and, and_false, false_and, and_self, or_self, if_true, if_false, Bool.true_eq_false, Bool.false_eq_true, reduceIte, Classical.not_not, Bool.and_eq_true, decide_eq_true_eq]
         repeat (first | rw [if_pos (by omega)] | rw [if_neg (by omega)])
         all_goals first | rfl | (exfalso; omega)
        rw [hI, firstF_here (by omega) hf (by omega)]
       | false =>
        have h7 := of_decide_eq_false h7
        refine Jq 5 [41, 5, 6, 18, 17, 16, 0, 1] 1 ⟨[(41, vB (decide ((1048576 : Int) < (s.at i).acked))), (5, vI (i : Int)), (6, .p 0 0), (18, vI (i : Int)), (17, vI (s.n : Int)), (16, .v s.val), (0, .v s.val), (1, vI n)], [⟨80, (s.at i).cs⟩]⟩ ?_
        cases h8 : decide ((1048576 : Int) < (s.at i).acked) with
        | true =>
         have h8 := of_decide_eq_true h8
         refine Jq 17 [58, 5, 6, 18, 17, 16, 0, 1] 1 ⟨[(58, vB true), (5, vI (i : Int)), (6, .p 0 0), (18, vI (i : Int)), (17, vI (s.n : Int)), (16, .v s.val), (0, .v s.val), (1, vI n)], [⟨80, (s.at i).cs⟩]⟩ (Ln (Qn (Ci true rfl (Cs (Cg (Jq 1 [4] 0 ⟨[(4, vI 2)], []⟩ (Ln (Qn (Cr (Qr (Qb (Qr (Qr (Qb (Qr (Rt (.inl rfl) [vI 2] rfl (fun bs w hS => (⟨?_, hS.kp⟩))))))))))))))))))
         simp only [retOf, den, List.map_cons, List.map_nil]
         have hf : sessF (s.xs.map CSession.abs) n i = 2 := by
          unfold sessF
          simp only [hat, hq0, hq1, hq2, hq3]
          try simp only [h1, h2, h3, h4, h5, h6, h7, h8, emp_size, ne_eq, not_true_eq_false, not_false_eq_true, true_or, or_true, false_or, or_false, and_true, true_and, and_false, false_and, and_self, or_self, if_true, if_false, Bool.true_eq_false, Bool.false_eq_true, reduceIte, Classical.not_not, Bool.and_eq_true, decide_eq_true_eq]
          repeat (first | rw [if_pos (by omega)] | rw [if_neg (by omega)])
          all_goals first | rfl | (exfalso; omega)
         rw [hI, firstF_here (by omega) hf (by omega)]
        | false =>
         have h8 := of_decide_eq_false h8
         refine Jq 5 [46, 5, 6, 18, 17, 16, 0, 1] 1 ⟨[(46, vB (decide ((s.at i).id < 1))), (5, vI (i : Int)), (6, .p 0 0), (18, vI (i : Int)), (17, vI (s.n : Int)), (16, .v s.val), (0, .v s.val), (1, vI n)], [⟨80, (s.at i).cs⟩]⟩ ?_
         cases h9 : decide ((s.at i).id < 1) with
         | true =>
          have h9 := of_decide_eq_true h9
          refine Jq 12 [58, 5, 6, 18, 17, 16, 0, 1] 1 ⟨[(58, vB true), (5, vI (i : Int)), (6, .p 0 0), (18, vI (i : Int)), (17, vI (s.n : Int)), (16, .v s.val), (0, .v s.val), (1, vI n)], [⟨80, (s.at i).cs⟩]⟩ (Ln (Qn (Ci true rfl (Cs (Cg (Jq 1 [4] 0 ⟨[(4, vI 2)], []⟩ (Ln (Qn (Cr (Qr (Qb (Qr (Qr (Qb (Qr (Rt (.inl rfl) [vI 2] rfl (fun bs w hS => (⟨?_, hS.kp⟩))))))))))))))))))
          simp only [retOf, den, List.map_cons, List.map_nil]
          have hf : sessF (s.xs.map CSession.abs) n i = 2 := by
           unfold sessF
           simp only [hat, hq0, hq1, hq2, hq3]
           try simp only [h1, h2, h3, h4, h5, h6, h7, h8, h9, emp_size, ne_eq, not_true_eq_false, not_false_eq_true, true_or, or_true, false_or, or_false, and_true, true_and, and_false, false_and, and_self, or_self, if_true, if_false, Bool.true_eq_false, Bool.false_eq_true, reduceIte, Classical.not_not, Bool.and_eq_true, decide_eq_true_eq]
           repeat (first | rw [if_pos (by omega)] | rw [if_neg (by omega)])
           all_goals first | rfl | (exfalso; omega)
          rw [hI, firstF_here (by omega) hf (by omega)]
         | false =>
          have h9 := of_decide_eq_false h9
          refine Jq 7 [53, 5, 6, 18, 17, 16, 0, 1] 1 ⟨[(53, vB (decide ((s.at i).last < (s.at i).id))), (5, vI (i : Int)), (6, .p 0 0), (18, vI (i : Int)), (17, vI (s.n : Int)), (16, .v s.val), (0, .v s.val), (1, vI n)], [⟨80, (s.at i).cs⟩]⟩ ?_
          cases h10 : decide ((s.at i).last < (s.at i).id) with
          | true =>
           have h10 := of_decide_eq_true h10
           refine Jq 5 [58, 5, 6, 18, 17, 16, 0, 1] 1 ⟨[(58, vB true), (5, vI (i : Int)), (6, .p 0 0), (18, vI (i : Int)), (17, vI (s.n : Int)), (16, .v s.val), (0, .v s.val), (1, vI n)], [⟨80, (s.at i).cs⟩]⟩ (Ln (Qn (Ci true rfl (Cs (Cg (Jq 1 [4] 0 ⟨[(4, vI 2)], []⟩ (Ln (Qn (Cr (Qr (Qb (Qr (Qr (Qb (Qr (Rt (.inl rfl) [vI 2] rfl (fun bs w hS => (⟨?_, hS.kp⟩))))))))))))))))))
           simp only [retOf, den, List.map_cons, List.map_nil]
           have hf : sessF (s.xs.map CSession.abs) n i = 2 := by
            unfold sessF
            simp only [hat, hq0, hq1, hq2, hq3]
            try simp only [h1, h2, h3, h4, h5, h6, h7, h8, h9, h10, emp_size, ne_eq, not_true_eq_false, not_false_eq_true, true_or, or_true, false_or, or_false, and_true, true_and, and_false, false_and, and_self, or_self, if_true, if_false, Bool.true_eq_false, Bool.false_eq_true, reduceIte, Classical.not_not, Bool.and_eq_true, decide_eq_true_eq]
            repeat (first | rw [if_pos (by omega)] | rw [if_neg (by omega)])
            all_goals first | rfl | (exfalso; omega)
           rw [hI, firstF_here (by omega) hf (by omega)]
          | false =>
           have h10 := of_decide_eq_false h10
           refine Jq 5 [58, 5, 6, 18, 17, 16, 0, 1] 1 ⟨[(58, vB (decide (n < (s.at i).last))), (5, vI (i : Int)), (6, .p 0 0), (18, vI (i : Int)), (17, vI (s.n : Int)), (16, .v s.val), (0, .v s.val), (1, vI n)], [⟨80, (s.at i).cs⟩]⟩ (Ln (Qn ?_))
           cases h11 : decide (n < (s.at i).last) with
           | true =>
            have h11 := of_decide_eq_true h11
            refine Ci true rfl (Cs (Cg (Jq 1 [4] 0 ⟨[(4, vI 2)], []⟩ (Ln (Qn (Cr (Qr (Qb (Qr (Qr (Qb (Qr (Rt (.inl rfl) [vI 2] rfl (fun bs w hS => (⟨?_, hS.kp⟩)))))))))))))))
            simp only [retOf, den, List.map_cons, List.map_nil]
            have hf : sessF (s.xs.map CSession.abs) n i = 2 := by
             unfold sessF
             simp only [hat, hq0, hq1, hq2, hq3]
             try simp only [h1, h2, h3, h4, h5, h6, h7, h8, h9, h10, h11, emp_size, ne_eq, not_true_eq_false, not_false_eq_true, true_or, or_true, false_or, or_false, and_true, true_and, and_false, false_and, and_self, or_self, if_true, if_false, Bool.true_eq_false, Bool.false_eq_true, reduceIte, Classical.not_not, Bool.and_eq_true, decide_eq_true_eq]
             repeat (first | rw [if_pos (by omega)] | rw [if_neg (by omega)])
             all_goals first | rfl | (exfalso; omega)
            rw [hI, firstF_here (by omega) hf (by omega)]
           | false =>
            have h11 := of_decide_eq_false h11
            refine Ci false rfl (Ck (Qn (Cs (Cs (Cg (Jq 1 [59, 5, 6, 18, 17, 16, 0, 1] 1 ⟨[(59, .v (s.at i).val), (5, vI (i : Int)), (6, .p 0 0), (18, vI (i : Int)), (17, vI (s.n : Int)), (16, .v s.val), (0, .v s.val), (1, vI n)], [⟨80, (s.at i).cs⟩]⟩ (Lp 82 [] [.v (s.at i).val] (.bool (mReplies (s.at i).abs)) Try.call82 rfl rfl rfl rfl (fun bs w hS => session_replies (s.at i) w (Sl.rd.sub (s := s) (i := i) (Sl.rd.kp hs hS.kp) (by omega)) (by first | exact ⟨by omega, by omega⟩ | (simp only [] at *; exact ⟨by omega, by omega⟩))) (Jq 1 [61, 5, 6, 18, 17, 16, 0, 1] 1 ⟨[(61, vB (!(mReplies (s.at i).abs))), (5, vI (i : Int)), (6, .p 0 0), (18, vI (i : Int)), (17, vI (s.n : Int)), (16, .v s.val), (0, .v s.val), (1, vI n)], [⟨80, (s.at i).cs⟩]⟩ (Ln (Qn ?_))))))))))
            cases h12 : mReplies (s.at i).abs with
            | true =>
             refine Ci false rfl (Ck (Qn (Cs (Cd 13 [] (.p 0 (.p 1 (.p 2 (.p 3 (.p 4 (.p 5 (.p 6 (.p 7 (.q 8 (.p 9 (.q 10 (.p 11 (.p 12 .nil))))))))))))) [] [] Try_mixed (by kernel_rfl) (pq_then (pq_block (pq_then (pq_then (pq_block (pq_then pq_body)))))) .slnil (Hq [] [(0, true), (1, true), (2, true)] [(64, vB (decide ((0 : Int) < (i : Int)))), (63, vB (decide ((0 : Int) < (i : Int)))), (62, vI (i : Int)), (61, vB false), (5, vI (i : Int)), (6, .p 0 0), (18, vI (i : Int)), (17, vI (s.n : Int)), (16, .v s.val), (0, .v s.val), (1, vI n)] [] [] rfl (by kernel_rfl) on wn ?_)))))
             cases h13 : decide ((0 : Int) < (i : Int)) with
             | true =>
              have h13 := of_decide_eq_true h13
              refine Hq [(6, .idx s.ad (i - 1)), (8, .ext [.int .i64 (s.at (i - 1)).client])] [(3, true), (4, true), (5, true), (6, true), (7, true), (8, false), (9, true), (10, false), (11, true), (12, true)] [(74, vB (decide ((s.at i).client ≤ (s.at (i - 1)).client))), (73, vB (decide ((s.at i).client ≤ (s.at (i - 1)).client))), (72, vI (s.at i).client), (71, .p 0 0), (70, vI (s.at (i - 1)).client), (69, .v (.pointer (some ((s.ad.add ((i - 1) * 5)).add 0)))), (68, .v (.pointer (some (s.ad.add ((i - 1) * 5))))), (67, vI ((i : Int) - 1)), (66, vI (i : Int)), (65, .v s.val), (64, vB true), (63, vB true), (62, vI (i : Int)), (61, vB false), (5, vI (i : Int)), (6, .p 0 0), (18, vI (i : Int)), (17, vI (s.n : Int)), (16, .v s.val), (0, .v s.val), (1, vI n)] [inR ((i : Int) - 1), s.A = some s.ad, (i : Int) - 1 = (((i - 1) : Nat) : Int), (i - 1) < s.n] [((s.ad.add ((i - 1) * 5)).add 0, [.int .i64 (s.at (i - 1)).client])] rfl (by kernel_rfl) (oc (by unfold inR; omega) (oc (Sl.ok.own (s := s) (i := (i - 1)) oks (by omega)) (oc (by omega) (oc (by omega) on)))) (fun w hk hr => ⟨(Sl.rd.fld (s := s) (i := (i - 1)) (Sl.rd.kp hs hk) (by omega) 0 1 rfl), trivial⟩) ?_
              refine Hn (Ln (Qn ?_))
              cases h14 : decide ((s.at i).client ≤ (s.at (i - 1)).client) with
              | true =>
               have h14 := of_decide_eq_true h14
               refine Ci true rfl (Cs (Cg (Jq 1 [4] 0 ⟨[(4, vI 14)], []⟩ (Ln (Qn (Cr (Qb (Qr (Qr (Qb (Qr (Rt (.inl rfl) [vI 14] rfl (fun bs w hS => (⟨?_, hS.kp⟩))))))))))))))
               simp only [retOf, den, List.map_cons, List.map_nil]
               have hf : sessF (s.xs.map CSession.abs) n i = 14 := by
                unfold sessF
                simp only [hat, hq0, hq1, hq2, hq3]
                try simp only [h1, h2, h3, h4, h5, h6, h7, h8, h9, h10, h11, h12, h13, h14, emp_size, ne_eq, not_true_eq_false, not_false_eq_true, true_or, or_true, false_or, or_false, and_true, true_and, and_false, false_and, and_self, or_self, if_true, if_false, Bool.true_eq_false, Bool.false_eq_true, reduceIte, Classical.not_not, Bool.and_eq_true, decide_eq_true_eq]
                repeat (first | rw [if_pos (by omega)] | rw [if_neg (by omega)])
                all_goals first | rfl | (exfalso; omega)
               rw [hI, firstF_here (by omega) hf (by omega)]
              | false =>
               have h14 := of_decide_eq_false h14
               refine Ci false rfl (Ck (q_block_normal (Qn (Cg (Jr 2 [] [18, 17, 16, 0, 1] 0 ⟨[(18, vI ((i : Int) + 1)), (17, vI (s.n : Int)), (16, .v s.val), (0, .v s.val), (1, vI n)], []⟩ [inR ((i : Int) + 1)] [] (by kernel_rfl) (oc (by unfold inR; omega) on) wn ?_)))))
               have hf0 : sessF (s.xs.map CSession.abs) n i = 0 := by
                unfold sessF
                simp only [hat, hq0, hq1, hq2, hq3]
                try simp only [h1, h2, h3, h4, h5, h6, h7, h8, h9, h10, h11, h12, h13, h14, emp_size, ne_eq, not_true_eq_false, not_false_eq_true, true_or, or_true, false_or, or_false, and_true, true_and, and_false, false_and, and_self, or_self, if_true, if_false, Bool.true_eq_false, Bool.false_eq_true, reduceIte, Classical.not_not, Bool.and_eq_true, decide_eq_true_eq]
                repeat (first | rw [if_pos (by omega)] | rw [if_neg (by omega)])
                all_goals first | rfl | (exfalso; omega)
               refine Ln (Ql (x := (i : Nat)) ((i + 1) : Nat) ⟨by omega, by rw [hI]; exact firstF_step (by omega) hf0⟩ (by omega) (Ss [18, 17, 16, 0, 1] 0 (by kernel_rfl) rfl))
             | false =>
              have h13 := of_decide_eq_false h13
              refine Hq [] [(3, true), (4, true), (5, true), (6, true), (7, true), (8, false), (9, true), (10, false), (11, true), (12, true)] [(74, vB false), (73, .v (undef)), (72, .v (undef)), (71, .v (undef)), (70, .v (undef)), (69, .v (undef)), (68, .v (undef)), (67, .v (undef)), (66, .v (undef)), (65, .v (undef)), (64, vB false), (63, vB false), (62, vI (i : Int)), (61, vB false), (5, vI (i : Int)), (6, .p 0 0), (18, vI (i : Int)), (17, vI (s.n : Int)), (16, .v s.val), (0, .v s.val), (1, vI n)] [] [] rfl (by kernel_rfl) on wn ?_
              refine Hn (Ln (Qn (Ci false rfl (Ck (q_block_normal (Qn (Cg (Jr 2 [] [18, 17, 16, 0, 1] 0 ⟨[(18, vI ((i : Int) + 1)), (17, vI (s.n : Int)), (16, .v s.val), (0, .v s.val), (1, vI n)], []⟩ [inR ((i : Int) + 1)] [] (by kernel_rfl) (oc (by unfold inR; omega) on) wn ?_))))))))
              have hf0 : sessF (s.xs.map CSession.abs) n i = 0 := by
               unfold sessF
               simp only [hat, hq0, hq1, hq2, hq3]
               try simp only [h1, h2, h3, h4, h5, h6, h7, h8, h9, h10, h11, h12, h13, emp_size, ne_eq, not_true_eq_false, not_false_eq_true, true_or, or_true, false_or, or_false, and_true, true_and, and_false, false_and, and_self, or_self, if_true, if_false, Bool.true_eq_false, Bool.false_eq_true, reduceIte, Classical.not_not, Bool.and_eq_true, decide_eq_true_eq]
               repeat (first | rw [if_pos (by omega)] | rw [if_neg (by omega)])
               all_goals first | rfl | (exfalso; omega)
              refine Ln (Ql (x := (i : Nat)) ((i + 1) : Nat) ⟨by omega, by rw [hI]; exact firstF_step (by omega) hf0⟩ (by omega) (Ss [18, 17, 16, 0, 1] 0 (by kernel_rfl) rfl))
            | false =>
             refine Ci true rfl (Cs (Cg (Jq 1 [4] 0 ⟨[(4, vI 4)], []⟩ (Ln (Qn (Cr (Qr (Qb (Qr (Qr (Qb (Qr (Rt (.inl rfl) [vI 4] rfl (fun bs w hS => (⟨?_, hS.kp⟩)))))))))))))))
             simp only [retOf, den, List.map_cons, List.map_nil]
             have hf : sessF (s.xs.map CSession.abs) n i = 4 := by
              unfold sessF
              simp only [hat, hq0, hq1, hq2, hq3]
              try simp only [h1, h2, h3, h4, h5, h6, h7, h8, h9, h10, h11, h12, emp_size, ne_eq, not_true_eq_false, not_false_eq_true, true_or, or_true, false_or, or_false, and_true, true_and, and_false, false_and, and_self, or_self, if_true, if_false, Bool.true_eq_false, Bool.false_eq_true, reduceIte, Classical.not_not, Bool.and_eq_true, decide_eq_true_eq]
              repeat (first | rw [if_pos (by omega)] | rw [if_neg (by omega)])
              all_goals first | rfl | (exfalso; omega)
             rw [hI, firstF_here (by omega) hf (by omega)]
    | false =>
     have h4 := of_decide_eq_false h4
     refine Ci false rfl (c_exit (Qe (Qe (Qh (Qn (Cs (Cg (Jq 1 [4] 0 ⟨[(4, vI 0)], []⟩ (Ln (Qn (Cr (Rt (.inl rfl) [vI 0] rfl (fun bs w hS => (⟨?_, hS.kp⟩))))))))))))))
     simp only [retOf, den, List.map_cons, List.map_nil]
     rw [hI, firstF_end (by omega)]

theorem ref_SessionsFault {B : Nat → Prop} (s : Sl CSession) (n : Int) (w : World) (hs : s.rd B w) : Calls Try.prog 66 #[.slice s.A s.n s.c, .int .i64 n] w fun e w' => e = .returned (.int .i64 (mSess (s.xs.map CSession.abs) n)) ∧ Kp [] w w' := by
 have oks := Sl.rd.ok hs
 have ncs := Sl.ok.nc oks
 have hns : s.n = s.xs.length := rfl
 have hat : ∀ q, (s.xs.map CSession.abs).getD q default = (s.at q).abs := fun q => sabs_at q
 have hq0 : ∀ q, (s.at q).abs.client = (s.at q).client := fun _ => rfl
 have hq1 : ∀ q, (s.at q).abs.id = (s.at q).id := fun _ => rfl
 have hq2 : ∀ q, (s.at q).abs.acked = (s.at q).acked := fun _ => rfl
 have hq3 : ∀ q, (s.at q).abs.last = (s.at q).last := fun _ => rfl
 have hml : (s.xs.map CSession.abs).length = s.n := by simp
 refine calls_J0 65 Try.func66 rfl rfl [.slice s.A s.n s.c, .int .i64 n] rfl ?_
 refine Cs (Cg (Jq 1 [0, 1] 0 ⟨[(0, .v s.val), (1, vI n)], []⟩ (Ln (Qn (Cs (Cs (Cg (Jq 1 [7, 0, 1] 0 ⟨[(7, vI n), (0, .v s.val), (1, vI n)], []⟩ (Lp 41 [] [vI n, vI 0, vI 1073741824] (.bool (inB n 0 1073741824)) Try.call41 rfl rfl rfl rfl (fun bs w hS => ref_In _ _ _ w) (Jq 1 [9, 0, 1] 0 ⟨[(9, vB (!(inB n 0 1073741824))), (0, .v s.val), (1, vI n)], []⟩ (Ln (Qn ?_))))))))))))
 cases h1 : inB n 0 1073741824 with
 | true =>
  simp only [inB, Bool.and_eq_true, Bool.and_eq_false_iff, decide_eq_true_eq, decide_eq_false_iff_not] at h1
  refine Ci false rfl (Ck (Qn (Cs (Cs (Cg (Jq 3 [12, 0, 1] 0 ⟨[(12, vB (decide ((4 : Int) < (s.n : Int)))), (0, .v s.val), (1, vI n)], []⟩ (Ln (Qn ?_))))))))
  cases h2 : decide ((4 : Int) < (s.n : Int)) with
  | true =>
   have h2 := of_decide_eq_true h2
   refine Ci true rfl (Cs (Cg (Jq 1 [4] 0 ⟨[(4, vI 1)], []⟩ (Ln (Qn (Cr (Qr (Rt (.inl rfl) [vI 1] rfl (fun bs w hS => (⟨?_, hS.kp⟩))))))))))
   simp only [retOf, den, List.map_cons, List.map_nil]
   have hm : mSess (s.xs.map CSession.abs) n = 1 := by
    unfold mSess; rw [hml]
    first | rw [if_pos (by omega)] | rw [if_neg (by omega), if_pos (by omega)]
   rw [hm]
  | false =>
   have h2 := of_decide_eq_false h2
   refine Ci false rfl (Ck (Qn (Cs (Cs (Cg (Jq 1 [5, 0, 1] 0 ⟨[(5, vI 0), (0, .v s.val), (1, vI n)], []⟩ (Ln (Qn (Cb (Cl (σ := Nat) (fun i => i ≤ s.n ∧ mSess (s.xs.map CSession.abs) n = firstF (sessF (s.xs.map CSession.abs) n) (s.n - i) i) (fun i => s.n - i) (fun i => []) (fun i => ⟨[(5, vI (i : Int)), (0, .v s.val), (1, vI n)], []⟩) 0 ⟨Nat.zero_le _, by unfold mSess; rw [hml, if_neg (by omega), if_neg (by omega)]⟩ (Ss [5, 0, 1] 0 (by kernel_rfl) rfl) ?_))))))))))
   rintro i ⟨hi, hI⟩
   refine Cs (Cs (Cg (Jq 4 [16, 5, 0, 1] 0 ⟨[(16, vB (decide ((i : Int) < (s.n : Int)))), (5, vI (i : Int)), (0, .v s.val), (1, vI n)], []⟩ (Ln (Qn ?_)))))
   cases h3 : decide ((i : Int) < (s.n : Int)) with
   | true =>
    have h3 := of_decide_eq_true h3
    refine Ci true rfl (Ck (Qn (Cs (Cb (Cs (Cg (Jr 6 [(2, .idx s.ad i), (3, .ext [.int .i64 (s.at i).client, .int .i64 (s.at i).id, .int .i64 (s.at i).acked, .int .i64 (s.at i).last, .slice (s.at i).replies.A (s.at i).replies.n (s.at i).replies.c])] [6, 5, 0, 1] 1 ⟨[(6, .p 0 0), (5, vI (i : Int)), (0, .v s.val), (1, vI n)], [⟨80, (s.at i).cs⟩]⟩ [s.A = some s.ad, (i : Int) = (i : Int), i < s.n] [(s.ad.add (i * 5), [.int .i64 (s.at i).client, .int .i64 (s.at i).id, .int .i64 (s.at i).acked, .int .i64 (s.at i).last, .slice (s.at i).replies.A (s.at i).replies.n (s.at i).replies.c])] (by kernel_rfl) (oc (Sl.ok.own (s := s) (i := i) oks (by omega)) (oc rfl (oc (by omega) on))) (fun w hk hr => ⟨(Sl.rd.all (s := s) (i := i) (Sl.rd.kp hs hk) (by omega) rfl), trivial⟩) (Ln (Qn (Cs (Cs (Cg (Jq 2 [24, 6, 5, 0, 1] 1 ⟨[(24, vI (s.at i).client), (6, .p 0 0), (5, vI (i : Int)), (0, .v s.val), (1, vI n)], [⟨80, (s.at i).cs⟩]⟩ (Lp 41 [] [vI (s.at i).client, vI 1, vI 9] (.bool (inB (s.at i).client 1 9)) Try.call41 rfl rfl rfl rfl (fun bs w hS => ref_In _ _ _ w) (Jq 2 [27, 6, 5, 0, 1] 1 ⟨[(27, vB (!(inB (s.at i).client 1 9))), (6, .p 0 0), (5, vI (i : Int)), (0, .v s.val), (1, vI n)], [⟨80, (s.at i).cs⟩]⟩ ?_)))))))))))))))
    cases h4 : inB (s.at i).client 1 9 with
    | true =>
     simp only [inB, Bool.and_eq_true, Bool.and_eq_false_iff, decide_eq_true_eq, decide_eq_false_iff_not] at h4
     refine Jq 2 [29, 27, 6, 5, 0, 1] 1 ⟨[(29, vI (s.at i).acked), (27, vB false), (6, .p 0 0), (5, vI (i : Int)), (0, .v s.val), (1, vI n)], [⟨80, (s.at i).cs⟩]⟩ (Lp 41 [] [vI (s.at i).acked, vI 0, vI 1048576] (.bool (inB (s.at i).acked 0 1048576)) Try.call41 rfl rfl rfl rfl (fun bs w hS => ref_In _ _ _ w) (Jq 3 [33, 6, 5, 0, 1] 1 ⟨[(33, vB (!(inB (s.at i).acked 0 1048576))), (6, .p 0 0), (5, vI (i : Int)), (0, .v s.val), (1, vI n)], [⟨80, (s.at i).cs⟩]⟩ ?_))
     cases h5 : inB (s.at i).acked 0 1048576 with
     | true =>
      simp only [inB, Bool.and_eq_true, Bool.and_eq_false_iff, decide_eq_true_eq, decide_eq_false_iff_not] at h5
      refine Jq 3 [36, 35, 33, 6, 5, 0, 1] 1 ⟨[(36, vI n), (35, vI (s.at i).id), (33, vB false), (6, .p 0 0), (5, vI (i : Int)), (0, .v s.val), (1, vI n)], [⟨80, (s.at i).cs⟩]⟩ (Lp 41 [] [vI (s.at i).id, vI 1, vI n] (.bool (inB (s.at i).id 1 n)) Try.call41 rfl rfl rfl rfl (fun bs w hS => ref_In _ _ _ w) (Jq 3 [40, 6, 5, 0, 1] 1 ⟨[(40, vB (!(inB (s.at i).id 1 n))), (6, .p 0 0), (5, vI (i : Int)), (0, .v s.val), (1, vI n)], [⟨80, (s.at i).cs⟩]⟩ ?_))
      cases h6 : inB (s.at i).id 1 n with
      | true =>
       simp only [inB, Bool.and_eq_true, Bool.and_eq_false_iff, decide_eq_true_eq, decide_eq_false_iff_not] at h6
       refine Jq 5 [45, 44, 42, 40, 6, 5, 0, 1] 1 ⟨[(45, vI n), (44, vI (s.at i).id), (42, vI (s.at i).last), (40, vB false), (6, .p 0 0), (5, vI (i : Int)), (0, .v s.val), (1, vI n)], [⟨80, (s.at i).cs⟩]⟩ (Lp 41 [] [vI (s.at i).last, vI (s.at i).id, vI n] (.bool (inB (s.at i).last (s.at i).id n)) Try.call41 rfl rfl rfl rfl (fun bs w hS => ref_In _ _ _ w) (Jq 2 [48, 6, 5, 0, 1] 1 ⟨[(48, vB (!(inB (s.at i).last (s.at i).id n))), (6, .p 0 0), (5, vI (i : Int)), (0, .v s.val), (1, vI n)], [⟨80, (s.at i).cs⟩]⟩ (Ln (Qn ?_))))
       cases h7 : inB (s.at i).last (s.at i).id n with
       | true =>
        simp only [inB, Bool.and_eq_true, Bool.and_eq_false_iff, decide_eq_true_eq, decide_eq_false_iff_not] at h7
        refine Ci false rfl (Ck (Qn (Cs (Cs (Cg (Jq 1 [49, 6, 5, 0, 1] 1 ⟨[(49, .v (s.at i).val), (6, .p 0 0), (5, vI (i : Int)), (0, .v s.val), (1, vI n)], [⟨80, (s.at i).cs⟩]⟩ (Lp 88 [] [.v (s.at i).val] (.bool (mReplies (s.at i).abs)) Try.call88 rfl rfl rfl rfl (fun bs w hS => ref_repliesMay (s.at i) w (Sl.rd.sub (s := s) (i := i) (Sl.rd.kp hs hS.kp) (by omega)) (by first | exact ⟨by omega, by omega⟩ | (simp only [] at *; exact ⟨by omega, by omega⟩))) (Jq 1 [51, 6, 5, 0, 1] 1 ⟨[(51, vB (!(mReplies (s.at i).abs))), (6, .p 0 0), (5, vI (i : Int)), (0, .v s.val), (1, vI n)], [⟨80, (s.at i).cs⟩]⟩ (Ln (Qn ?_))))))))))
        cases h8 : mReplies (s.at i).abs with
        | true =>
         refine Ci false rfl (Ck (Qn (Cs (Cd 13 [] (.p 0 (.p 1 (.p 2 (.p 3 (.q 4 (.p 5 (.p 6 (.p 7 (.p 8 (.p 9 (.q 10 (.p 11 (.p 12 .nil))))))))))))) [] [] Try_mixed (by kernel_rfl) (pq_then (pq_block (pq_then (pq_then (pq_block (pq_then pq_body)))))) .slnil (Hq [] [(0, true), (1, true), (2, true)] [(54, vB (decide ((0 : Int) < (i : Int)))), (53, vB (decide ((0 : Int) < (i : Int)))), (52, vI (i : Int)), (51, vB false), (6, .p 0 0), (5, vI (i : Int)), (0, .v s.val), (1, vI n)] [] [] rfl (by kernel_rfl) on wn ?_)))))
         cases h9 : decide ((0 : Int) < (i : Int)) with
         | true =>
          have h9 := of_decide_eq_true h9
          refine Hq [(8, .idx s.ad (i - 1)), (10, .ext [.int .i64 (s.at (i - 1)).client])] [(3, true), (4, false), (5, true), (6, true), (7, true), (8, true), (9, true), (10, false), (11, true), (12, true)] [(64, vB (decide ((s.at i).client ≤ (s.at (i - 1)).client))), (63, vB (decide ((s.at i).client ≤ (s.at (i - 1)).client))), (62, vI (s.at (i - 1)).client), (61, .v (.pointer (some ((s.ad.add ((i - 1) * 5)).add 0)))), (60, .v (.pointer (some (s.ad.add ((i - 1) * 5))))), (59, vI ((i : Int) - 1)), (58, vI (i : Int)), (57, .v s.val), (56, vI (s.at i).client), (55, .p 0 0), (54, vB true), (53, vB true), (52, vI (i : Int)), (51, vB false), (6, .p 0 0), (5, vI (i : Int)), (0, .v s.val), (1, vI n)] [inR ((i : Int) - 1), s.A = some s.ad, (i : Int) - 1 = (((i - 1) : Nat) : Int), (i - 1) < s.n] [((s.ad.add ((i - 1) * 5)).add 0, [.int .i64 (s.at (i - 1)).client])] rfl (by kernel_rfl) (oc (by unfold inR; omega) (oc (Sl.ok.own (s := s) (i := (i - 1)) oks (by omega)) (oc (by omega) (oc (by omega) on)))) (fun w hk hr => ⟨(Sl.rd.fld (s := s) (i := (i - 1)) (Sl.rd.kp hs hk) (by omega) 0 1 rfl), trivial⟩) ?_
          refine Hn (Ln (Qn ?_))
          cases h10 : decide ((s.at i).client ≤ (s.at (i - 1)).client) with
          | true =>
           have h10 := of_decide_eq_true h10
           refine Ci true rfl (Cs (Cg (Jq 1 [4] 0 ⟨[(4, vI 14)], []⟩ (Ln (Qn (Cr (Qb (Qr (Qr (Qb (Qr (Rt (.inl rfl) [vI 14] rfl (fun bs w hS => (⟨?_, hS.kp⟩))))))))))))))
           simp only [retOf, den, List.map_cons, List.map_nil]
           have hf : sessF (s.xs.map CSession.abs) n i = 14 := by
            unfold sessF
            simp only [hat, hq0, hq1, hq2, hq3]
            try simp only [h1, h2, h3, h4, h5, h6, h7, h8, h9, h10, emp_size, ne_eq, not_true_eq_false, not_false_eq_true, true_or, or_true, false_or, or_false, and_true, true_and, and_false, false_and, and_self, or_self, if_true, if_false, Bool.true_eq_false, Bool.false_eq_true, reduceIte, Classical.not_not, Bool.and_eq_true, decide_eq_true_eq]
            repeat (first | rw [if_pos (by omega)] | rw [if_neg (by omega)])
            all_goals first | rfl | (exfalso; omega)
           rw [hI, firstF_here (by omega) hf (by omega)]
          | false =>
           have h10 := of_decide_eq_false h10
           refine Ci false rfl (Ck (q_block_normal (Qn (Cg (Jr 3 [] [5, 0, 1] 0 ⟨[(5, vI ((i : Int) + 1)), (0, .v s.val), (1, vI n)], []⟩ [inR ((i : Int) + 1)] [] (by kernel_rfl) (oc (by unfold inR; omega) on) wn ?_)))))
           have hf0 : sessF (s.xs.map CSession.abs) n i = 0 := by
            unfold sessF
            simp only [hat, hq0, hq1, hq2, hq3]
            try simp only [h1, h2, h3, h4, h5, h6, h7, h8, h9, h10, emp_size, ne_eq, not_true_eq_false, not_false_eq_true, true_or, or_true, false_or, or_false, and_true, true_and, and_false, false_and, and_self, or_self, if_true, if_false, Bool.true_eq_false, Bool.false_eq_true, reduceIte, Classical.not_not, Bool.and_eq_true, decide_eq_true_eq]
            repeat (first | rw [if_pos (by omega)] | rw [if_neg (by omega)])
            all_goals first | rfl | (exfalso; omega)
           refine Ln (Ql (x := (i : Nat)) ((i + 1) : Nat) ⟨by omega, by rw [hI]; exact firstF_step (by omega) hf0⟩ (by omega) (Ss [5, 0, 1] 0 (by kernel_rfl) rfl))
         | false =>
          have h9 := of_decide_eq_false h9
          refine Hq [] [(3, true), (4, false), (5, true), (6, true), (7, true), (8, true), (9, true), (10, false), (11, true), (12, true)] [(64, vB false), (63, .v (undef)), (62, .v (undef)), (61, .v (undef)), (60, .v (undef)), (59, .v (undef)), (58, .v (undef)), (57, .v (undef)), (56, .v (undef)), (55, .v (undef)), (54, vB false), (53, vB false), (52, vI (i : Int)), (51, vB false), (6, .p 0 0), (5, vI (i : Int)), (0, .v s.val), (1, vI n)] [] [] rfl (by kernel_rfl) on wn ?_
          refine Hn (Ln (Qn (Ci false rfl (Ck (q_block_normal (Qn (Cg (Jr 3 [] [5, 0, 1] 0 ⟨[(5, vI ((i : Int) + 1)), (0, .v s.val), (1, vI n)], []⟩ [inR ((i : Int) + 1)] [] (by kernel_rfl) (oc (by unfold inR; omega) on) wn ?_))))))))
          have hf0 : sessF (s.xs.map CSession.abs) n i = 0 := by
           unfold sessF
           simp only [hat, hq0, hq1, hq2, hq3]
           try simp only [h1, h2, h3, h4, h5, h6, h7, h8, h9, emp_size, ne_eq, not_true_eq_false, not_false_eq_true, true_or, or_true, false_or, or_false, and_true, true_and, and_false, false_and, and_self, or_self, if_true, if_false, Bool.true_eq_false, Bool.false_eq_true, reduceIte, Classical.not_not, Bool.and_eq_true, decide_eq_true_eq]
           repeat (first | rw [if_pos (by omega)] | rw [if_neg (by omega)])
           all_goals first | rfl | (exfalso; omega)
          refine Ln (Ql (x := (i : Nat)) ((i + 1) : Nat) ⟨by omega, by rw [hI]; exact firstF_step (by omega) hf0⟩ (by omega) (Ss [5, 0, 1] 0 (by kernel_rfl) rfl))
        | false =>
         refine Ci true rfl (Cs (Cg (Jq 1 [4] 0 ⟨[(4, vI 4)], []⟩ (Ln (Qn (Cr (Qr (Qb (Qr (Qr (Qb (Qr (Rt (.inl rfl) [vI 4] rfl (fun bs w hS => (⟨?_, hS.kp⟩)))))))))))))))
         simp only [retOf, den, List.map_cons, List.map_nil]
         have hf : sessF (s.xs.map CSession.abs) n i = 4 := by
          unfold sessF
          simp only [hat, hq0, hq1, hq2, hq3]
          try simp only [h1, h2, h3, h4, h5, h6, h7, h8, emp_size, ne_eq, not_true_eq_false, not_false_eq_true, true_or, or_true, false_or, or_false, and_true, true_and, and_false, false_and, and_self, or_self, if_true, if_false, Bool.true_eq_false, Bool.false_eq_true, reduceIte, Classical.not_not, Bool.and_eq_true, decide_eq_true_eq]
          repeat (first | rw [if_pos (by omega)] | rw [if_neg (by omega)])
          all_goals first | rfl | (exfalso; omega)
         rw [hI, firstF_here (by omega) hf (by omega)]
       | false =>
        simp only [inB, Bool.and_eq_true, Bool.and_eq_false_iff, decide_eq_true_eq, decide_eq_false_iff_not] at h7
        refine Ci true rfl (Cs (Cg (Jq 1 [4] 0 ⟨[(4, vI 2)], []⟩ (Ln (Qn (Cr (Qr (Qb (Qr (Qr (Qb (Qr (Rt (.inl rfl) [vI 2] rfl (fun bs w hS => (⟨?_, hS.kp⟩)))))))))))))))
        simp only [retOf, den, List.map_cons, List.map_nil]
        have hf : sessF (s.xs.map CSession.abs) n i = 2 := by
         unfold sessF
         simp only [hat, hq0, hq1, hq2, hq3]
         try simp only [h1, h2, h3, h4, h5, h6, h7, emp_size, ne_eq, not_true_eq_false, not_false_eq_true, true_or, or_true, false_or, or_false, and_true, true_and, and_false, false_and, and_self, or_self, if_true, if_false, Bool.true_eq_false, Bool.false_eq_true, reduceIte, Classical.not_not, Bool.and_eq_true, decide_eq_true_eq]
         repeat (first | rw [if_pos (by omega)] | rw [if_neg (by omega)])
         all_goals first | rfl | (exfalso; omega)
        rw [hI, firstF_here (by omega) hf (by omega)]
      | false =>
       simp only [inB, Bool.and_eq_true, Bool.and_eq_false_iff, decide_eq_true_eq, decide_eq_false_iff_not] at h6
       refine Jq 8 [48, 6, 5, 0, 1] 1 ⟨[(48, vB true), (6, .p 0 0), (5, vI (i : Int)), (0, .v s.val), (1, vI n)], [⟨80, (s.at i).cs⟩]⟩ (Ln (Qn (Ci true rfl (Cs (Cg (Jq 1 [4] 0 ⟨[(4, vI 2)], []⟩ (Ln (Qn (Cr (Qr (Qb (Qr (Qr (Qb (Qr (Rt (.inl rfl) [vI 2] rfl (fun bs w hS => (⟨?_, hS.kp⟩))))))))))))))))))
       simp only [retOf, den, List.map_cons, List.map_nil]
       have hf : sessF (s.xs.map CSession.abs) n i = 2 := by
        unfold sessF
        simp only [hat, hq0, hq1, hq2, hq3]
        try simp only [h1, h2, h3, h4, h5, h6, emp_size, ne_eq, not_true_eq_false, not_false_eq_true, true_or, or_true, false_or, or_false, and_true, true_and, and_false, false_and, and_self, or_self, if_true, if_false, Bool.true_eq_false, Bool.false_eq_true, reduceIte, Classical.not_not, Bool.and_eq_true, decide_eq_true_eq]
        repeat (first | rw [if_pos (by omega)] | rw [if_neg (by omega)])
        all_goals first | rfl | (exfalso; omega)
       rw [hI, firstF_here (by omega) hf (by omega)]
     | false =>
      simp only [inB, Bool.and_eq_true, Bool.and_eq_false_iff, decide_eq_true_eq, decide_eq_false_iff_not] at h5
      refine Jq 15 [48, 6, 5, 0, 1] 1 ⟨[(48, vB true), (6, .p 0 0), (5, vI (i : Int)), (0, .v s.val), (1, vI n)], [⟨80, (s.at i).cs⟩]⟩ (Ln (Qn (Ci true rfl (Cs (Cg (Jq 1 [4] 0 ⟨[(4, vI 2)], []⟩ (Ln (Qn (Cr (Qr (Qb (Qr (Qr (Qb (Qr (Rt (.inl rfl) [vI 2] rfl (fun bs w hS => (⟨?_, hS.kp⟩))))))))))))))))))
      simp only [retOf, den, List.map_cons, List.map_nil]
      have hf : sessF (s.xs.map CSession.abs) n i = 2 := by
       unfold sessF
       simp only [hat, hq0, hq1, hq2, hq3]
       try simp only [h1, h2, h3, h4, h5, emp_size, ne_eq, not_true_eq_false, not_false_eq_true, true_or, or_true, false_or, or_false, and_true, true_and, and_false, false_and, and_self, or_self, if_true, if_false, Bool.true_eq_false, Bool.false_eq_true, reduceIte, Classical.not_not, Bool.and_eq_true, decide_eq_true_eq]
       repeat (first | rw [if_pos (by omega)] | rw [if_neg (by omega)])
       all_goals first | rfl | (exfalso; omega)
      rw [hI, firstF_here (by omega) hf (by omega)]
    | false =>
     simp only [inB, Bool.and_eq_true, Bool.and_eq_false_iff, decide_eq_true_eq, decide_eq_false_iff_not] at h4
     refine Jq 21 [48, 6, 5, 0, 1] 1 ⟨[(48, vB true), (6, .p 0 0), (5, vI (i : Int)), (0, .v s.val), (1, vI n)], [⟨80, (s.at i).cs⟩]⟩ (Ln (Qn (Ci true rfl (Cs (Cg (Jq 1 [4] 0 ⟨[(4, vI 2)], []⟩ (Ln (Qn (Cr (Qr (Qb (Qr (Qr (Qb (Qr (Rt (.inl rfl) [vI 2] rfl (fun bs w hS => (⟨?_, hS.kp⟩))))))))))))))))))
     simp only [retOf, den, List.map_cons, List.map_nil]
     have hf : sessF (s.xs.map CSession.abs) n i = 2 := by
      unfold sessF
      simp only [hat, hq0, hq1, hq2, hq3]
      try simp only [h1, h2, h3, h4, emp_size, ne_eq, not_true_eq_false, not_false_eq_true, true_or, or_true, false_or, or_false, and_true, true_and, and_false, false_and, and_self, or_self, if_true, if_false, Bool.true_eq_false, Bool.false_eq_true, reduceIte, Classical.not_not, Bool.and_eq_true, decide_eq_true_eq]
      repeat (first | rw [if_pos (by omega)] | rw [if_neg (by omega)])
      all_goals first | rfl | (exfalso; omega)
     rw [hI, firstF_here (by omega) hf (by omega)]
   | false =>
    have h3 := of_decide_eq_false h3
    refine Ci false rfl (c_exit (Qe (Qe (Qh (Qn (Cs (Cg (Jq 1 [4] 0 ⟨[(4, vI 0)], []⟩ (Ln (Qn (Cr (Rt (.inl rfl) [vI 0] rfl (fun bs w hS => (⟨?_, hS.kp⟩))))))))))))))
    simp only [retOf, den, List.map_cons, List.map_nil]
    rw [hI, firstF_end (by omega)]
 | false =>
  simp only [inB, Bool.and_eq_true, Bool.and_eq_false_iff, decide_eq_true_eq, decide_eq_false_iff_not] at h1
  refine Ci true rfl (Cs (Cg (Jq 1 [4] 0 ⟨[(4, vI 2)], []⟩ (Ln (Qn (Cr (Qr (Rt (.inl rfl) [vI 2] rfl (fun bs w hS => (⟨?_, hS.kp⟩))))))))))
  simp only [retOf, den, List.map_cons, List.map_nil]
  have hm : mSess (s.xs.map CSession.abs) n = 2 := by
   unfold mSess; rw [hml]
   first | rw [if_pos (by omega)] | rw [if_neg (by omega), if_pos (by omega)]
  rw [hm]

theorem pair_Check {B : Nat → Prop} (s : Sl DPair) (w : World) (hs : s.rd B w) : Calls Try.prog 60 #[.slice s.A s.n s.c] w fun e w' => e = .returned (.int .i64 (mPairs s.xs)) ∧ Kp [] w w' := by
 have oks := Sl.rd.ok hs
 have ncs := Sl.ok.nc oks
 have hns : s.n = s.xs.length := rfl
 refine calls_J0 45 Try.func60 rfl rfl [.slice s.A s.n s.c] rfl ?_
 refine Cs (Cg (Jq 1 [0] 0 ⟨[(0, .v s.val)], []⟩ (Ln (Qn (Cs (Cs (Cg (Jq 3 [7, 0] 0 ⟨[(7, vB (decide ((5 : Int) < (s.n : Int)))), (0, .v s.val)], []⟩ (Ln (Qn ?_))))))))))
 cases h1 : decide ((5 : Int) < (s.n : Int)) with
 | true =>
  have h1 := of_decide_eq_true h1
  refine Ci true rfl (Cs (Cg (Jq 1 [2] 0 ⟨[(2, vI 1)], []⟩ (Ln (Qn (Cr (Qr (Rt (.inl rfl) [vI 1] rfl (fun bs w hS => (⟨?_, hS.kp⟩))))))))))
  simp only [retOf, den, List.map_cons, List.map_nil]
  have hm : mPairs s.xs = 1 := by
   unfold mPairs; rw [if_pos (by omega)]
  rw [hm]
 | false =>
  have h1 := of_decide_eq_false h1
  refine Ci false rfl (Ck (Qn (Cs (Cs (Cg (Jq 3 [10, 9, 8, 0] 0 ⟨[(10, vI 0), (9, vI (s.n : Int)), (8, .v s.val), (0, .v s.val)], []⟩ (Ln (Qn (Cb (Cl (σ := Nat) (fun i => i ≤ s.n ∧ mPairs s.xs = firstF (pairF s.xs) (s.n - i) i) (fun i => s.n - i) (fun i => []) (fun i => ⟨[(10, vI (i : Int)), (9, vI (s.n : Int)), (8, .v s.val), (0, .v s.val)], []⟩) 0 ⟨Nat.zero_le _, by unfold mPairs; rw [if_neg (by omega)]⟩ (Ss [10, 9, 8, 0] 0 (by kernel_rfl) rfl) ?_))))))))))
  rintro i ⟨hi, hI⟩
  have hlt := hi
  refine Cs (Cg (Jq 1 [11, 10, 9, 8, 0] 0 ⟨[(11, vB (decide ((i : Int) < (s.n : Int)))), (10, vI (i : Int)), (9, vI (s.n : Int)), (8, .v s.val), (0, .v s.val)], []⟩ (Ln (Qn (Cs ?_)))))
  cases h2 : decide ((i : Int) < (s.n : Int)) with
  | true =>
   have h2 := of_decide_eq_true h2
   refine Ci true rfl (Ck (Qn (Cs (Cb (Cs (Cg (Jr 6 [(1, .idx s.ad i), (2, .ext [.string (s.at i).name, .string (s.at i).value, .int .i64 (s.at i).version])] [3, 4, 10, 9, 8, 0] 1 ⟨[(3, vI (i : Int)), (4, .p 0 0), (10, vI (i : Int)), (9, vI (s.n : Int)), (8, .v s.val), (0, .v s.val)], [⟨77, (s.at i).cs⟩]⟩ [s.A = some s.ad, (i : Int) = (i : Int), i < s.n] [(s.ad.add (i * 3), [.string (s.at i).name, .string (s.at i).value, .int .i64 (s.at i).version])] (by kernel_rfl) (oc (Sl.ok.own (s := s) (i := i) oks (by omega)) (oc rfl (oc (by omega) on))) (fun w hk hr => ⟨(Sl.rd.all (s := s) (i := i) (Sl.rd.kp hs hk) (by omega) rfl), trivial⟩) (Ln (Qn (Cs (Cs (Cg (Jq 2 [16, 3, 4, 10, 9, 8, 0] 1 ⟨[(16, vS (s.at i).name), (3, vI (i : Int)), (4, .p 0 0), (10, vI (i : Int)), (9, vI (s.n : Int)), (8, .v s.val), (0, .v s.val)], [⟨77, (s.at i).cs⟩]⟩ (Lp 83 [] [vS (s.at i).name] (.bool (mName (s.at i).name)) Try.call83 rfl rfl rfl rfl (fun bs w hS => lock_Name _ w (And.left (Sl.ok.at (s := s) (i := i) oks (by omega)))) (Jq 1 [18, 3, 4, 10, 9, 8, 0] 1 ⟨[(18, vB (!(mName (s.at i).name))), (3, vI (i : Int)), (4, .p 0 0), (10, vI (i : Int)), (9, vI (s.n : Int)), (8, .v s.val), (0, .v s.val)], [⟨77, (s.at i).cs⟩]⟩ (Ln (Qn ?_)))))))))))))))))
   cases h3 : mName (s.at i).name with
   | true =>
    refine Ci false rfl (Ck (Qn (Cs (Cs (Cg (Jq 4 [22, 3, 4, 10, 9, 8, 0] 1 ⟨[(22, vB (decide ((12 : Int) < ((s.at i).value.size : Int)))), (3, vI (i : Int)), (4, .p 0 0), (10, vI (i : Int)), (9, vI (s.n : Int)), (8, .v s.val), (0, .v s.val)], [⟨77, (s.at i).cs⟩]⟩ (Ln (Qn ?_))))))))
    cases h4 : decide ((12 : Int) < ((s.at i).value.size : Int)) with
    | true =>
     have h4 := of_decide_eq_true h4
     refine Ci true rfl (Cs (Cg (Jq 1 [2] 0 ⟨[(2, vI 1)], []⟩ (Ln (Qn (Cr (Qr (Qb (Qr (Qr (Qb (Qr (Rt (.inl rfl) [vI 1] rfl (fun bs w hS => (⟨?_, hS.kp⟩)))))))))))))))
     simp only [retOf, den, List.map_cons, List.map_nil]
     have hf : pairF s.xs i = 1 := by
      have hat : ∀ q, s.xs.getD q default = s.at q := fun _ => rfl
      unfold pairF
      simp only [hat]
      try simp only [h1, h2, h3, h4, emp_size, ne_eq, not_true_eq_false, not_false_eq_true, true_or, or_true, false_or, or_false, and_true, true_and, and_false, false_and, and_self, or_self, if_true, if_false, Bool.true_eq_false, Bool.false_eq_true, reduceIte, Classical.not_not, Bool.and_eq_true, decide_eq_true_eq]
      repeat (first | rw [if_pos (by omega)] | rw [if_neg (by omega)])
      all_goals first | rfl | (exfalso; omega)
     rw [hI, firstF_here (by omega) hf (by omega)]
    | false =>
     have h4 := of_decide_eq_false h4
     refine Ci false rfl (Ck (Qn (Cs (Cs (Cg (Jq 4 [26, 3, 4, 10, 9, 8, 0] 1 ⟨[(26, vB (decide ((s.at i).version < 1))), (3, vI (i : Int)), (4, .p 0 0), (10, vI (i : Int)), (9, vI (s.n : Int)), (8, .v s.val), (0, .v s.val)], [⟨77, (s.at i).cs⟩]⟩ ?_))))))
     cases h5 : decide ((s.at i).version < 1) with
     | true =>
      have h5 := of_decide_eq_true h5
      refine Jq 4 [30, 3, 4, 10, 9, 8, 0] 1 ⟨[(30, vB true), (3, vI (i : Int)), (4, .p 0 0), (10, vI (i : Int)), (9, vI (s.n : Int)), (8, .v s.val), (0, .v s.val)], [⟨77, (s.at i).cs⟩]⟩ (Ln (Qn (Ci true rfl (Cs (Cg (Jq 1 [2] 0 ⟨[(2, vI 2)], []⟩ (Ln (Qn (Cr (Qr (Qb (Qr (Qr (Qb (Qr (Rt (.inl rfl) [vI 2] rfl (fun bs w hS => (⟨?_, hS.kp⟩))))))))))))))))))
      simp only [retOf, den, List.map_cons, List.map_nil]
      have hf : pairF s.xs i = 2 := by
       have hat : ∀ q, s.xs.getD q default = s.at q := fun _ => rfl
       unfold pairF
       simp only [hat]
       try simp only [h1, h2, h3, h4, h5, emp_size, ne_eq, not_true_eq_false, not_false_eq_true, true_or, or_true, false_or, or_false, and_true, true_and, and_false, false_and, and_self, or_self, if_true, if_false, Bool.true_eq_false, Bool.false_eq_true, reduceIte, Classical.not_not, Bool.and_eq_true, decide_eq_true_eq]
       repeat (first | rw [if_pos (by omega)] | rw [if_neg (by omega)])
       all_goals first | rfl | (exfalso; omega)
      rw [hI, firstF_here (by omega) hf (by omega)]
     | false =>
      have h5 := of_decide_eq_false h5
      refine Jq 4 [30, 3, 4, 10, 9, 8, 0] 1 ⟨[(30, vB (decide ((1073741824 : Int) < (s.at i).version))), (3, vI (i : Int)), (4, .p 0 0), (10, vI (i : Int)), (9, vI (s.n : Int)), (8, .v s.val), (0, .v s.val)], [⟨77, (s.at i).cs⟩]⟩ (Ln (Qn ?_))
      cases h6 : decide ((1073741824 : Int) < (s.at i).version) with
      | true =>
       have h6 := of_decide_eq_true h6
       refine Ci true rfl (Cs (Cg (Jq 1 [2] 0 ⟨[(2, vI 2)], []⟩ (Ln (Qn (Cr (Qr (Qb (Qr (Qr (Qb (Qr (Rt (.inl rfl) [vI 2] rfl (fun bs w hS => (⟨?_, hS.kp⟩)))))))))))))))
       simp only [retOf, den, List.map_cons, List.map_nil]
       have hf : pairF s.xs i = 2 := by
        have hat : ∀ q, s.xs.getD q default = s.at q := fun _ => rfl
        unfold pairF
        simp only [hat]
        try simp only [h1, h2, h3, h4, h5, h6, emp_size, ne_eq, not_true_eq_false, not_false_eq_true, true_or, or_true, false_or, or_false, and_true, true_and, and_false, false_and, and_self, or_self, if_true, if_false, Bool.true_eq_false, Bool.false_eq_true, reduceIte, Classical.not_not, Bool.and_eq_true, decide_eq_true_eq]
        repeat (first | rw [if_pos (by omega)] | rw [if_neg (by omega)])
        all_goals first | rfl | (exfalso; omega)
       rw [hI, firstF_here (by omega) hf (by omega)]
      | false =>
       have h6 := of_decide_eq_false h6
       refine Ci false rfl (Ck (Qn (Cs (Cd 13 [] (.p 0 (.p 1 (.p 2 (.p 3 (.p 4 (.p 5 (.p 6 (.p 7 (.q 8 (.p 9 (.q 10 (.p 11 (.p 12 .nil))))))))))))) [] [] Try_mixed (by kernel_rfl) (pq_then (pq_block (pq_then (pq_then (pq_block (pq_then pq_body)))))) .slnil (Hq [] [(0, true), (1, true), (2, true)] [(33, vB (decide ((0 : Int) < (i : Int)))), (32, vB (decide ((0 : Int) < (i : Int)))), (31, vI (i : Int)), (30, vB false), (3, vI (i : Int)), (4, .p 0 0), (10, vI (i : Int)), (9, vI (s.n : Int)), (8, .v s.val), (0, .v s.val)] [] [] rfl (by kernel_rfl) on wn ?_)))))
       cases h7 : decide ((0 : Int) < (i : Int)) with
       | true =>
        have h7 := of_decide_eq_true h7
        refine Hq [(6, .idx s.ad (i - 1)), (8, .ext [.string (s.at (i - 1)).name])] [(3, true), (4, true), (5, true), (6, true), (7, true), (8, false), (9, true), (10, false), (11, true), (12, true)] [(43, vB (!(Op.bytesLess ((s.at (i - 1)).name).toList ((s.at i).name).toList))), (42, vB (!(Op.bytesLess ((s.at (i - 1)).name).toList ((s.at i).name).toList))), (41, vS (s.at i).name), (40, .p 0 0), (39, vS (s.at (i - 1)).name), (38, .v (.pointer (some ((s.ad.add ((i - 1) * 3)).add 0)))), (37, .v (.pointer (some (s.ad.add ((i - 1) * 3))))), (36, vI ((i : Int) - 1)), (35, vI (i : Int)), (34, .v s.val), (33, vB true), (32, vB true), (31, vI (i : Int)), (30, vB false), (3, vI (i : Int)), (4, .p 0 0), (10, vI (i : Int)), (9, vI (s.n : Int)), (8, .v s.val), (0, .v s.val)] [inR ((i : Int) - 1), s.A = some s.ad, (i : Int) - 1 = (((i - 1) : Nat) : Int), (i - 1) < s.n] [((s.ad.add ((i - 1) * 3)).add 0, [.string (s.at (i - 1)).name])] rfl (by kernel_rfl) (oc (by unfold inR; omega) (oc (Sl.ok.own (s := s) (i := (i - 1)) oks (by omega)) (oc (by omega) (oc (by omega) on)))) (fun w hk hr => ⟨(Sl.rd.fld (s := s) (i := (i - 1)) (Sl.rd.kp hs hk) (by omega) 0 1 rfl), trivial⟩) ?_
        refine Hn (Ln (Qn ?_))
        cases h8 : Op.bytesLess ((s.at (i - 1)).name).toList ((s.at i).name).toList with
        | true =>
         refine Ci false rfl (Ck (q_block_normal (Qn (Cg (Jr 2 [] [10, 9, 8, 0] 0 ⟨[(10, vI ((i : Int) + 1)), (9, vI (s.n : Int)), (8, .v s.val), (0, .v s.val)], []⟩ [inR ((i : Int) + 1)] [] (by kernel_rfl) (oc (by unfold inR; omega) on) wn ?_)))))
         have hf0 : pairF s.xs i = 0 := by
          have hat : ∀ q, s.xs.getD q default = s.at q := fun _ => rfl
          unfold pairF
          simp only [hat]
          try simp only [h1, h2, h3, h4, h5, h6, h7, h8, emp_size, ne_eq, not_true_eq_false, not_false_eq_true, true_or, or_true, false_or, or_false, and_true, true_and, and_false, false_and, and_self, or_self, if_true, if_false, Bool.true_eq_false, Bool.false_eq_true, reduceIte, Classical.not_not, Bool.and_eq_true, decide_eq_true_eq]
          repeat (first | rw [if_pos (by omega)] | rw [if_neg (by omega)])
          all_goals first | rfl | (exfalso; omega)
         refine Ln (Ql (x := (i : Nat)) ((i + 1) : Nat) ⟨by omega, by rw [hI]; exact firstF_step (by omega) hf0⟩ (by omega) (Ss [10, 9, 8, 0] 0 (by kernel_rfl) rfl))
        | false =>
         refine Ci true rfl (Cs (Cg (Jq 1 [2] 0 ⟨[(2, vI 14)], []⟩ (Ln (Qn (Cr (Qb (Qr (Qr (Qb (Qr (Rt (.inl rfl) [vI 14] rfl (fun bs w hS => (⟨?_, hS.kp⟩))))))))))))))
         simp only [retOf, den, List.map_cons, List.map_nil]
         have hf : pairF s.xs i = 14 := by
          have hat : ∀ q, s.xs.getD q default = s.at q := fun _ => rfl
          unfold pairF
          simp only [hat]
          try simp only [h1, h2, h3, h4, h5, h6, h7, h8, emp_size, ne_eq, not_true_eq_false, not_false_eq_true, true_or, or_true, false_or, or_false, and_true, true_and, and_false, false_and, and_self, or_self, if_true, if_false, Bool.true_eq_false, Bool.false_eq_true, reduceIte, Classical.not_not, Bool.and_eq_true, decide_eq_true_eq]
          repeat (first | rw [if_pos (by omega)] | rw [if_neg (by omega)])
          all_goals first | rfl | (exfalso; omega)
         rw [hI, firstF_here (by omega) hf (by omega)]
       | false =>
        have h7 := of_decide_eq_false h7
        refine Hq [] [(3, true), (4, true), (5, true), (6, true), (7, true), (8, false), (9, true), (10, false), (11, true), (12, true)] [(43, vB false), (42, .v (undef)), (41, .v (undef)), (40, .v (undef)), (39, .v (undef)), (38, .v (undef)), (37, .v (undef)), (36, .v (undef)), (35, .v (undef)), (34, .v (undef)), (33, vB false), (32, vB false), (31, vI (i : Int)), (30, vB false), (3, vI (i : Int)), (4, .p 0 0), (10, vI (i : Int)), (9, vI (s.n : Int)), (8, .v s.val), (0, .v s.val)] [] [] rfl (by kernel_rfl) on wn ?_
        refine Hn (Ln (Qn (Ci false rfl (Ck (q_block_normal (Qn (Cg (Jr 2 [] [10, 9, 8, 0] 0 ⟨[(10, vI ((i : Int) + 1)), (9, vI (s.n : Int)), (8, .v s.val), (0, .v s.val)], []⟩ [inR ((i : Int) + 1)] [] (by kernel_rfl) (oc (by unfold inR; omega) on) wn ?_))))))))
        have hf0 : pairF s.xs i = 0 := by
         have hat : ∀ q, s.xs.getD q default = s.at q := fun _ => rfl
         unfold pairF
         simp only [hat]
         try simp only [h1, h2, h3, h4, h5, h6, h7, emp_size, ne_eq, not_true_eq_false, not_false_eq_true, true_or, or_true, false_or, or_false, and_true, true_and, and_false, false_and, and_self, or_self, if_true, if_false, Bool.true_eq_false, Bool.false_eq_true, reduceIte, Classical.not_not, Bool.and_eq_true, decide_eq_true_eq]
         repeat (first | rw [if_pos (by omega)] | rw [if_neg (by omega)])
         all_goals first | rfl | (exfalso; omega)
        refine Ln (Ql (x := (i : Nat)) ((i + 1) : Nat) ⟨by omega, by rw [hI]; exact firstF_step (by omega) hf0⟩ (by omega) (Ss [10, 9, 8, 0] 0 (by kernel_rfl) rfl))
   | false =>
    refine Ci true rfl (Cs (Cg (Jq 1 [2] 0 ⟨[(2, vI 4)], []⟩ (Ln (Qn (Cr (Qr (Qb (Qr (Qr (Qb (Qr (Rt (.inl rfl) [vI 4] rfl (fun bs w hS => (⟨?_, hS.kp⟩)))))))))))))))
    simp only [retOf, den, List.map_cons, List.map_nil]
    have hf : pairF s.xs i = 4 := by
     have hat : ∀ q, s.xs.getD q default = s.at q := fun _ => rfl
     unfold pairF
     simp only [hat]
     try simp only [h1, h2, h3, emp_size, ne_eq, not_true_eq_false, not_false_eq_true, true_or, or_true, false_or, or_false, and_true, true_and, and_false, false_and, and_self, or_self, if_true, if_false, Bool.true_eq_false, Bool.false_eq_true, reduceIte, Classical.not_not, Bool.and_eq_true, decide_eq_true_eq]
     repeat (first | rw [if_pos (by omega)] | rw [if_neg (by omega)])
     all_goals first | rfl | (exfalso; omega)
    rw [hI, firstF_here (by omega) hf (by omega)]
  | false =>
   have h2 := of_decide_eq_false h2
   refine Ci false rfl (c_exit (Qe (Qe (Qh (Qn (Cs (Cg (Jq 1 [2] 0 ⟨[(2, vI 0)], []⟩ (Ln (Qn (Cr (Rt (.inl rfl) [vI 0] rfl (fun bs w hS => (⟨?_, hS.kp⟩))))))))))))))
   simp only [retOf, den, List.map_cons, List.map_nil]
   rw [hI, firstF_end (by omega)]

theorem ref_PairsFault {B : Nat → Prop} (s : Sl DPair) (w : World) (hs : s.rd B w) : Calls Try.prog 68 #[.slice s.A s.n s.c] w fun e w' => e = .returned (.int .i64 (mPairs s.xs)) ∧ Kp [] w w' := by
 have oks := Sl.rd.ok hs
 have ncs := Sl.ok.nc oks
 have hns : s.n = s.xs.length := rfl
 refine calls_J0 50 Try.func68 rfl rfl [.slice s.A s.n s.c] rfl ?_
 refine Cs (Cg (Jq 1 [0] 0 ⟨[(0, .v s.val)], []⟩ (Ln (Qn (Cs (Cs (Cg (Jq 3 [6, 0] 0 ⟨[(6, vB (decide ((5 : Int) < (s.n : Int)))), (0, .v s.val)], []⟩ (Ln (Qn ?_))))))))))
 cases h1 : decide ((5 : Int) < (s.n : Int)) with
 | true =>
  have h1 := of_decide_eq_true h1
  refine Ci true rfl (Cs (Cg (Jq 1 [2] 0 ⟨[(2, vI 1)], []⟩ (Ln (Qn (Cr (Qr (Rt (.inl rfl) [vI 1] rfl (fun bs w hS => (⟨?_, hS.kp⟩))))))))))
  simp only [retOf, den, List.map_cons, List.map_nil]
  have hm : mPairs s.xs = 1 := by
   unfold mPairs; rw [if_pos (by omega)]
  rw [hm]
 | false =>
  have h1 := of_decide_eq_false h1
  refine Ci false rfl (Ck (Qn (Cs (Cs (Cg (Jq 1 [3, 0] 0 ⟨[(3, vI 0), (0, .v s.val)], []⟩ (Ln (Qn (Cb (Cl (σ := Nat) (fun i => i ≤ s.n ∧ mPairs s.xs = firstF (pairF s.xs) (s.n - i) i) (fun i => s.n - i) (fun i => []) (fun i => ⟨[(3, vI (i : Int)), (0, .v s.val)], []⟩) 0 ⟨Nat.zero_le _, by unfold mPairs; rw [if_neg (by omega)]⟩ (Ss [3, 0] 0 (by kernel_rfl) rfl) ?_))))))))))
  rintro i ⟨hi, hI⟩
  have hlt := hi
  refine Cs (Cs (Cg (Jq 4 [10, 3, 0] 0 ⟨[(10, vB (decide ((i : Int) < (s.n : Int)))), (3, vI (i : Int)), (0, .v s.val)], []⟩ (Ln (Qn ?_)))))
  cases h2 : decide ((i : Int) < (s.n : Int)) with
  | true =>
   have h2 := of_decide_eq_true h2
   refine Ci true rfl (Ck (Qn (Cs (Cb (Cs (Cs (Cg (Jr 5 [(2, .idx s.ad i), (4, .ext [.string (s.at i).name])] [17, 3, 0] 0 ⟨[(17, vS (s.at i).name), (3, vI (i : Int)), (0, .v s.val)], []⟩ [s.A = some s.ad, (i : Int) = (i : Int), i < s.n] [((s.ad.add (i * 3)).add 0, [.string (s.at i).name])] (by kernel_rfl) (oc (Sl.ok.own (s := s) (i := i) oks (by omega)) (oc rfl (oc (by omega) on))) (fun w hk hr => ⟨(Sl.rd.fld (s := s) (i := i) (Sl.rd.kp hs hk) (by omega) 0 1 rfl), trivial⟩) (Lp 89 [] [vS (s.at i).name] (.bool (mName (s.at i).name)) Try.call89 rfl rfl rfl rfl (fun bs w hS => ref_NameMay _ w (And.left (Sl.ok.at (s := s) (i := i) oks (by omega)))) (Jq 1 [19, 3, 0] 0 ⟨[(19, vB (!(mName (s.at i).name))), (3, vI (i : Int)), (0, .v s.val)], []⟩ (Ln (Qn ?_))))))))))))
   cases h3 : mName (s.at i).name with
   | true =>
    refine Ci false rfl (Ck (Qn (Cs (Cs (Cg (Jr 7 [(2, .idx s.ad i), (4, .ext [.string (s.at i).value])] [26, 3, 0] 0 ⟨[(26, vB (decide ((12 : Int) < ((s.at i).value.size : Int)))), (3, vI (i : Int)), (0, .v s.val)], []⟩ [s.A = some s.ad, (i : Int) = (i : Int), i < s.n] [((s.ad.add (i * 3)).add 1, [.string (s.at i).value])] (by kernel_rfl) (oc (Sl.ok.own (s := s) (i := i) oks (by omega)) (oc rfl (oc (by omega) on))) (fun w hk hr => ⟨(Sl.rd.fld (s := s) (i := i) (Sl.rd.kp hs hk) (by omega) 1 1 rfl), trivial⟩) (Ln (Qn ?_))))))))
    cases h4 : decide ((12 : Int) < ((s.at i).value.size : Int)) with
    | true =>
     have h4 := of_decide_eq_true h4
     refine Ci true rfl (Cs (Cg (Jq 1 [2] 0 ⟨[(2, vI 1)], []⟩ (Ln (Qn (Cr (Qr (Qb (Qr (Qr (Qb (Qr (Rt (.inl rfl) [vI 1] rfl (fun bs w hS => (⟨?_, hS.kp⟩)))))))))))))))
     simp only [retOf, den, List.map_cons, List.map_nil]
     have hf : pairF s.xs i = 1 := by
      have hat : ∀ q, s.xs.getD q default = s.at q := fun _ => rfl
      unfold pairF
      simp only [hat]
      try simp only [h1, h2, h3, h4, emp_size, ne_eq, not_true_eq_false, not_false_eq_true, true_or, or_true, false_or, or_false, and_true, true_and, and_false, false_and, and_self, or_self, if_true, if_false, Bool.true_eq_false, Bool.false_eq_true, reduceIte, Classical.not_not, Bool.and_eq_true, decide_eq_true_eq]
      repeat (first | rw [if_pos (by omega)] | rw [if_neg (by omega)])
      all_goals first | rfl | (exfalso; omega)
     rw [hI, firstF_here (by omega) hf (by omega)]
    | false =>
     have h4 := of_decide_eq_false h4
     refine Ci false rfl (Ck (Qn (Cs (Cs (Cg (Jr 5 [(2, .idx s.ad i), (4, .ext [.int .i64 (s.at i).version])] [31, 3, 0] 0 ⟨[(31, vI (s.at i).version), (3, vI (i : Int)), (0, .v s.val)], []⟩ [s.A = some s.ad, (i : Int) = (i : Int), i < s.n] [((s.ad.add (i * 3)).add 2, [.int .i64 (s.at i).version])] (by kernel_rfl) (oc (Sl.ok.own (s := s) (i := i) oks (by omega)) (oc rfl (oc (by omega) on))) (fun w hk hr => ⟨(Sl.rd.fld (s := s) (i := i) (Sl.rd.kp hs hk) (by omega) 2 1 rfl), trivial⟩) (Lp 41 [] [vI (s.at i).version, vI 1, vI 1073741824] (.bool (inB (s.at i).version 1 1073741824)) Try.call41 rfl rfl rfl rfl (fun bs w hS => ref_In _ _ _ w) (Jq 1 [33, 3, 0] 0 ⟨[(33, vB (!(inB (s.at i).version 1 1073741824))), (3, vI (i : Int)), (0, .v s.val)], []⟩ (Ln (Qn ?_))))))))))
     cases h5 : inB (s.at i).version 1 1073741824 with
     | true =>
      simp only [inB, Bool.and_eq_true, Bool.and_eq_false_iff, decide_eq_true_eq, decide_eq_false_iff_not] at h5
      refine Ci false rfl (Ck (Qn (Cs (Cd 16 [] (.p 0 (.p 1 (.p 2 (.p 3 (.p 4 (.p 5 (.p 6 (.q 7 (.p 8 (.p 9 (.p 10 (.p 11 (.p 12 (.q 13 (.p 14 (.p 15 .nil)))))))))))))))) [] [] Try_mixed (by kernel_rfl) (pq_then (pq_block (pq_then (pq_then (pq_block (pq_then pq_body)))))) .slnil (Hq [] [(0, true), (1, true), (2, true)] [(36, vB (decide ((0 : Int) < (i : Int)))), (35, vB (decide ((0 : Int) < (i : Int)))), (34, vI (i : Int)), (33, vB false), (3, vI (i : Int)), (0, .v s.val)] [] [] rfl (by kernel_rfl) on wn ?_)))))
      cases h6 : decide ((0 : Int) < (i : Int)) with
      | true =>
       have h6 := of_decide_eq_true h6
       refine Hq [(5, .idx s.ad i), (7, .ext [.string (s.at i).name]), (11, .idx s.ad (i - 1)), (13, .ext [.string (s.at (i - 1)).name])] [(3, true), (4, true), (5, true), (6, true), (7, false), (8, true), (9, true), (10, true), (11, true), (12, true), (13, false), (14, true), (15, true)] [(49, vB (Op.bytesLess ((s.at i).name).toList ((s.at (i - 1)).name).toList || decide ((s.at i).name = (s.at (i - 1)).name))), (48, vB (Op.bytesLess ((s.at i).name).toList ((s.at (i - 1)).name).toList || decide ((s.at i).name = (s.at (i - 1)).name))), (47, vS (s.at (i - 1)).name), (46, .v (.pointer (some ((s.ad.add ((i - 1) * 3)).add 0)))), (45, .v (.pointer (some (s.ad.add ((i - 1) * 3))))), (44, vI ((i : Int) - 1)), (43, vI (i : Int)), (42, .v s.val), (41, vS (s.at i).name), (40, .v (.pointer (some ((s.ad.add (i * 3)).add 0)))), (39, .v (.pointer (some (s.ad.add (i * 3))))), (38, vI (i : Int)), (37, .v s.val), (36, vB true), (35, vB true), (34, vI (i : Int)), (33, vB false), (3, vI (i : Int)), (0, .v s.val)] [s.A = some s.ad, (i : Int) = (i : Int), i < s.n, inR ((i : Int) - 1), s.A = some s.ad, (i : Int) - 1 = (((i - 1) : Nat) : Int), (i - 1) < s.n] [((s.ad.add (i * 3)).add 0, [.string (s.at i).name]), ((s.ad.add ((i - 1) * 3)).add 0, [.string (s.at (i - 1)).name])] rfl (by kernel_rfl) (oc (Sl.ok.own (s := s) (i := i) oks (by omega)) (oc rfl (oc (by omega) (oc (by unfold inR; omega) (oc (Sl.ok.own (s := s) (i := (i - 1)) oks (by omega)) (oc (by omega) (oc (by omega) on))))))) (fun w hk hr => ⟨(Sl.rd.fld (s := s) (i := i) (Sl.rd.kp hs hk) (by omega) 0 1 rfl), ⟨(Sl.rd.fld (s := s) (i := (i - 1)) (Sl.rd.kp hs hk) (by omega) 0 1 rfl), trivial⟩⟩) ?_
       refine Hn (Ln (Qn ?_))
       cases h7 : Op.bytesLess ((s.at i).name).toList ((s.at (i - 1)).name).toList || decide ((s.at i).name = (s.at (i - 1)).name) with
       | true =>
        rw [bytes_total] at h7
        simp only [Bool.not_eq_true', Bool.not_eq_false', Bool.not_eq_true, Bool.not_eq_false] at h7
        refine Ci true rfl (Cs (Cg (Jq 1 [2] 0 ⟨[(2, vI 14)], []⟩ (Ln (Qn (Cr (Qb (Qr (Qr (Qb (Qr (Rt (.inl rfl) [vI 14] rfl (fun bs w hS => (⟨?_, hS.kp⟩))))))))))))))
        simp only [retOf, den, List.map_cons, List.map_nil]
        have hf : pairF s.xs i = 14 := by
         have hat : ∀ q, s.xs.getD q default = s.at q := fun _ => rfl
         unfold pairF
         simp only [hat]
         try simp only [h1, h2, h3, h4, h5, h6, h7, emp_size, ne_eq, not_true_eq_false, not_false_eq_true, true_or, or_true, false_or, or_false, and_true, true_and, and_false, false_and, and_self, or_self, if_true, if_false, Bool.true_eq_false, Bool.false_eq_true, reduceIte, Classical.not_not, Bool.and_eq_true, decide_eq_true_eq]
         repeat (first | rw [if_pos (by omega)] | rw [if_neg (by omega)])
         all_goals first | rfl | (exfalso; omega)
        rw [hI, firstF_here (by omega) hf (by omega)]
       | false =>
        rw [bytes_total] at h7
        simp only [Bool.not_eq_true', Bool.not_eq_false', Bool.not_eq_true, Bool.not_eq_false] at h7
        refine Ci false rfl (Ck (q_block_normal (Qn (Cg (Jr 3 [] [3, 0] 0 ⟨[(3, vI ((i : Int) + 1)), (0, .v s.val)], []⟩ [inR ((i : Int) + 1)] [] (by kernel_rfl) (oc (by unfold inR; omega) on) wn ?_)))))
        have hf0 : pairF s.xs i = 0 := by
         have hat : ∀ q, s.xs.getD q default = s.at q := fun _ => rfl
         unfold pairF
         simp only [hat]
         try simp only [h1, h2, h3, h4, h5, h6, h7, emp_size, ne_eq, not_true_eq_false, not_false_eq_true, true_or, or_true, false_or, or_false, and_true, true_and, and_false, false_and, and_self, or_self, if_true, if_false, Bool.true_eq_false, Bool.false_eq_true, reduceIte, Classical.not_not, Bool.and_eq_true, decide_eq_true_eq]
         repeat (first | rw [if_pos (by omega)] | rw [if_neg (by omega)])
         all_goals first | rfl | (exfalso; omega)
        refine Ln (Ql (x := (i : Nat)) ((i + 1) : Nat) ⟨by omega, by rw [hI]; exact firstF_step (by omega) hf0⟩ (by omega) (Ss [3, 0] 0 (by kernel_rfl) rfl))
      | false =>
       have h6 := of_decide_eq_false h6
       refine Hq [] [(3, true), (4, true), (5, true), (6, true), (7, false), (8, true), (9, true), (10, true), (11, true), (12, true), (13, false), (14, true), (15, true)] [(49, vB false), (48, .v (undef)), (47, .v (undef)), (46, .v (undef)), (45, .v (undef)), (44, .v (undef)), (43, .v (undef)), (42, .v (undef)), (41, .v (undef)), (40, .v (undef)), (39, .v (undef)), (38, .v (undef)), (37, .v (undef)), (36, vB false), (35, vB false), (34, vI (i : Int)), (33, vB false), (3, vI (i : Int)), (0, .v s.val)] [] [] rfl (by kernel_rfl) on wn ?_
       refine Hn (Ln (Qn (Ci false rfl (Ck (q_block_normal (Qn (Cg (Jr 3 [] [3, 0] 0 ⟨[(3, vI ((i : Int) + 1)), (0, .v s.val)], []⟩ [inR ((i : Int) + 1)] [] (by kernel_rfl) (oc (by unfold inR; omega) on) wn ?_))))))))
       have hf0 : pairF s.xs i = 0 := by
        have hat : ∀ q, s.xs.getD q default = s.at q := fun _ => rfl
        unfold pairF
        simp only [hat]
        try simp only [h1, h2, h3, h4, h5, h6, emp_size, ne_eq, not_true_eq_false, not_false_eq_true, true_or, or_true, false_or, or_false, and_true, true_and, and_false, false_and, and_self, or_self, if_true, if_false, Bool.true_eq_false, Bool.false_eq_true, reduceIte, Classical.not_not, Bool.and_eq_true, decide_eq_true_eq]
        repeat (first | rw [if_pos (by omega)] | rw [if_neg (by omega)])
        all_goals first | rfl | (exfalso; omega)
       refine Ln (Ql (x := (i : Nat)) ((i + 1) : Nat) ⟨by omega, by rw [hI]; exact firstF_step (by omega) hf0⟩ (by omega) (Ss [3, 0] 0 (by kernel_rfl) rfl))
     | false =>
      simp only [inB, Bool.and_eq_true, Bool.and_eq_false_iff, decide_eq_true_eq, decide_eq_false_iff_not] at h5
      refine Ci true rfl (Cs (Cg (Jq 1 [2] 0 ⟨[(2, vI 2)], []⟩ (Ln (Qn (Cr (Qr (Qb (Qr (Qr (Qb (Qr (Rt (.inl rfl) [vI 2] rfl (fun bs w hS => (⟨?_, hS.kp⟩)))))))))))))))
      simp only [retOf, den, List.map_cons, List.map_nil]
      have hf : pairF s.xs i = 2 := by
       have hat : ∀ q, s.xs.getD q default = s.at q := fun _ => rfl
       unfold pairF
       simp only [hat]
       try simp only [h1, h2, h3, h4, h5, emp_size, ne_eq, not_true_eq_false, not_false_eq_true, true_or, or_true, false_or, or_false, and_true, true_and, and_false, false_and, and_self, or_self, if_true, if_false, Bool.true_eq_false, Bool.false_eq_true, reduceIte, Classical.not_not, Bool.and_eq_true, decide_eq_true_eq]
       repeat (first | rw [if_pos (by omega)] | rw [if_neg (by omega)])
       all_goals first | rfl | (exfalso; omega)
      rw [hI, firstF_here (by omega) hf (by omega)]
   | false =>
    refine Ci true rfl (Cs (Cg (Jq 1 [2] 0 ⟨[(2, vI 4)], []⟩ (Ln (Qn (Cr (Qr (Qb (Qr (Qr (Qb (Qr (Rt (.inl rfl) [vI 4] rfl (fun bs w hS => (⟨?_, hS.kp⟩)))))))))))))))
    simp only [retOf, den, List.map_cons, List.map_nil]
    have hf : pairF s.xs i = 4 := by
     have hat : ∀ q, s.xs.getD q default = s.at q := fun _ => rfl
     unfold pairF
     simp only [hat]
     try simp only [h1, h2, h3, emp_size, ne_eq, not_true_eq_false, not_false_eq_true, true_or, or_true, false_or, or_false, and_true, true_and, and_false, false_and, and_self, or_self, if_true, if_false, Bool.true_eq_false, Bool.false_eq_true, reduceIte, Classical.not_not, Bool.and_eq_true, decide_eq_true_eq]
     repeat (first | rw [if_pos (by omega)] | rw [if_neg (by omega)])
     all_goals first | rfl | (exfalso; omega)
    rw [hI, firstF_here (by omega) hf (by omega)]
  | false =>
   have h2 := of_decide_eq_false h2
   refine Ci false rfl (c_exit (Qe (Qe (Qh (Qn (Cs (Cg (Jq 1 [2] 0 ⟨[(2, vI 0)], []⟩ (Ln (Qn (Cr (Rt (.inl rfl) [vI 0] rfl (fun bs w hS => (⟨?_, hS.kp⟩))))))))))))))
   simp only [retOf, den, List.map_cons, List.map_nil]
   rw [hI, firstF_end (by omega)]

theorem machine_Check {B : Nat → Prop} (x : CState) (w : World) (hx : Rds.sub B w x) : Calls Try.prog 34 #[.agg #[.int .i64 x.index, .slice x.locks.A x.locks.n x.locks.c, .slice x.pairs.A x.pairs.n x.pairs.c, .slice x.sessions.A x.sessions.n x.sessions.c]] w fun e w' => e = .returned (.int .i64 (mState x.abs)) ∧ Kp [] w w' := by
 have okx := Rds.okof hx
 refine calls_J0 22 Try.func34 rfl rfl [.agg #[.int .i64 x.index, .slice x.locks.A x.locks.n x.locks.c, .slice x.pairs.A x.pairs.n x.pairs.c, .slice x.sessions.A x.sessions.n x.sessions.c]] rfl ?_
 refine Cs (Cg (Jq 2 [1] 1 ⟨[(1, .p 0 0)], [⟨29, x.cs⟩]⟩ (Ln (Qn (Cs (Cs (Cg (Jq 4 [8, 6, 1] 1 ⟨[(8, vI x.index), (6, .v x.sessions.val), (1, .p 0 0)], [⟨29, x.cs⟩]⟩ (Lp 58 [] [.v x.sessions.val, vI x.index] (.int .i64 (mSess (x.sessions.xs.map CSession.abs) x.index)) Try.call58 rfl rfl rfl rfl (fun bs w hS => session_Check x.sessions x.index w (And.right (And.right (Rds.kp hx hS.kp)))) (Jq 1 [3, 1] 1 ⟨[(3, vI (mSess (x.sessions.xs.map CSession.abs) x.index)), (1, .p 0 0)], [⟨29, x.cs⟩]⟩ (Ln (Qn (Cs (Cg (Jq 2 [11, 3, 1] 1 ⟨[(11, vB (!(decide (mSess (x.sessions.xs.map CSession.abs) x.index = 0)))), (3, vI (mSess (x.sessions.xs.map CSession.abs) x.index)), (1, .p 0 0)], [⟨29, x.cs⟩]⟩ (Ln (Qn ?_)))))))))))))))))
 cases h1 : decide (mSess (x.sessions.xs.map CSession.abs) x.index = 0) with
 | true =>
  have h1 := of_decide_eq_true h1
  refine Ci false rfl (Ck (Qn (Cs (Cs (Cg (Jq 2 [14, 1] 1 ⟨[(14, .v x.locks.val), (1, .p 0 0)], [⟨29, x.cs⟩]⟩ (Lp 59 [] [.v x.locks.val] (.int .i64 (mLocks (x.locks.xs.map CLock.abs))) Try.call59 rfl rfl rfl rfl (fun bs w hS => lock_Check x.locks w (And.left (Rds.kp hx hS.kp))) (Jq 1 [4, 1] 1 ⟨[(4, vI (mLocks (x.locks.xs.map CLock.abs))), (1, .p 0 0)], [⟨29, x.cs⟩]⟩ (Ln (Qn (Cs (Cg (Jq 2 [17, 4, 1] 1 ⟨[(17, vB (!(decide (mLocks (x.locks.xs.map CLock.abs) = 0)))), (4, vI (mLocks (x.locks.xs.map CLock.abs))), (1, .p 0 0)], [⟨29, x.cs⟩]⟩ (Ln (Qn ?_)))))))))))))))
  cases h2 : decide (mLocks (x.locks.xs.map CLock.abs) = 0) with
  | true =>
   have h2 := of_decide_eq_true h2
   refine Ci false rfl (Ck (Qn (Cs (Cg (Jq 2 [20] 0 ⟨[(20, .v x.pairs.val)], []⟩ (Lp 60 [] [.v x.pairs.val] (.int .i64 (mPairs x.pairs.xs)) Try.call60 rfl rfl rfl rfl (fun bs w hS => pair_Check x.pairs w (And.left (And.right (Rds.kp hx hS.kp)))) (Jq 1 [2] 0 ⟨[(2, vI (mPairs x.pairs.xs))], []⟩ (Ln (Qn (Cr (Rt (.inl rfl) [vI (mPairs x.pairs.xs)] rfl (fun bs w hS => (⟨?_, hS.kp⟩)))))))))))))
   have hm : mState x.abs = mPairs x.pairs.xs := by
    have q1 : x.abs.sessions = x.sessions.xs.map CSession.abs := rfl
    have q2 : x.abs.locks = x.locks.xs.map CLock.abs := rfl
    have q3 : x.abs.pairs = x.pairs.xs := rfl
    have q4 : x.abs.index = x.index := rfl
    unfold mState; rw [q1, q2, q3, q4]; simp only [h1, h2, if_true, if_false, reduceIte]
   rw [hm]
   rfl
  | false =>
   have h2 := of_decide_eq_false h2
   refine Ci true rfl (Cs (Cg (Jq 2 [2] 0 ⟨[(2, vI (mLocks (x.locks.xs.map CLock.abs)))], []⟩ (Ln (Qn (Cr (Qr (Rt (.inl rfl) [vI (mLocks (x.locks.xs.map CLock.abs))] rfl (fun bs w hS => (⟨?_, hS.kp⟩))))))))))
   have hm : mState x.abs = mLocks (x.locks.xs.map CLock.abs) := by
    have q1 : x.abs.sessions = x.sessions.xs.map CSession.abs := rfl
    have q2 : x.abs.locks = x.locks.xs.map CLock.abs := rfl
    have q3 : x.abs.pairs = x.pairs.xs := rfl
    have q4 : x.abs.index = x.index := rfl
    unfold mState; rw [q1, q2, q3, q4]; simp only [h1, h2, if_true, if_false, reduceIte]
   rw [hm]
   rfl
 | false =>
  have h1 := of_decide_eq_false h1
  refine Ci true rfl (Cs (Cg (Jq 2 [2] 0 ⟨[(2, vI (mSess (x.sessions.xs.map CSession.abs) x.index))], []⟩ (Ln (Qn (Cr (Qr (Rt (.inl rfl) [vI (mSess (x.sessions.xs.map CSession.abs) x.index)] rfl (fun bs w hS => (⟨?_, hS.kp⟩))))))))))
  have hm : mState x.abs = mSess (x.sessions.xs.map CSession.abs) x.index := by
   have q1 : x.abs.sessions = x.sessions.xs.map CSession.abs := rfl
   have q2 : x.abs.locks = x.locks.xs.map CLock.abs := rfl
   have q3 : x.abs.pairs = x.pairs.xs := rfl
   have q4 : x.abs.index = x.index := rfl
   unfold mState; rw [q1, q2, q3, q4]; simp only [h1, if_true, if_false, reduceIte]
  rw [hm]
  rfl

theorem ref_StateFault {B : Nat → Prop} (x : CState) (w : World) (hx : Rds.sub B w x) : Calls Try.prog 40 #[.agg #[.int .i64 x.index, .slice x.locks.A x.locks.n x.locks.c, .slice x.pairs.A x.pairs.n x.pairs.c, .slice x.sessions.A x.sessions.n x.sessions.c]] w fun e w' => e = .returned (.int .i64 (mState x.abs)) ∧ Kp [] w w' := by
 have okx := Rds.okof hx
 refine calls_J0 20 Try.func40 rfl rfl [.agg #[.int .i64 x.index, .slice x.locks.A x.locks.n x.locks.c, .slice x.pairs.A x.pairs.n x.pairs.c, .slice x.sessions.A x.sessions.n x.sessions.c]] rfl ?_
 refine Cs (Cg (Jq 2 [1] 1 ⟨[(1, .p 0 0)], [⟨29, x.cs⟩]⟩ (Ln (Qn (Cs (Cg (Jq 4 [7, 5, 1] 1 ⟨[(7, vI x.index), (5, .v x.sessions.val), (1, .p 0 0)], [⟨29, x.cs⟩]⟩ (Lp 66 [] [.v x.sessions.val, vI x.index] (.int .i64 (mSess (x.sessions.xs.map CSession.abs) x.index)) Try.call66 rfl rfl rfl rfl (fun bs w hS => ref_SessionsFault x.sessions x.index w (And.right (And.right (Rds.kp hx hS.kp)))) (Jq 1 [3, 1] 1 ⟨[(3, vI (mSess (x.sessions.xs.map CSession.abs) x.index)), (1, .p 0 0)], [⟨29, x.cs⟩]⟩ (Ln (Qn (Cs (Cs (Cg (Jq 2 [10, 3, 1] 1 ⟨[(10, vB (decide (mSess (x.sessions.xs.map CSession.abs) x.index = 0))), (3, vI (mSess (x.sessions.xs.map CSession.abs) x.index)), (1, .p 0 0)], [⟨29, x.cs⟩]⟩ (Ln (Qn ?_)))))))))))))))))
 cases h1 : decide (mSess (x.sessions.xs.map CSession.abs) x.index = 0) with
 | true =>
  have h1 := of_decide_eq_true h1
  refine Ci true rfl (Cg (Jq 2 [12, 1] 1 ⟨[(12, .v x.locks.val), (1, .p 0 0)], [⟨29, x.cs⟩]⟩ (Lp 67 [] [.v x.locks.val] (.int .i64 (mLocks (x.locks.xs.map CLock.abs))) Try.call67 rfl rfl rfl rfl (fun bs w hS => ref_LocksFault x.locks w (And.left (Rds.kp hx hS.kp))) (Jq 1 [3, 1] 1 ⟨[(3, vI (mLocks (x.locks.xs.map CLock.abs))), (1, .p 0 0)], [⟨29, x.cs⟩]⟩ (Ln (Qn (Cs (Cs (Cg (Jq 2 [15, 3, 1] 1 ⟨[(15, vB (decide (mLocks (x.locks.xs.map CLock.abs) = 0))), (3, vI (mLocks (x.locks.xs.map CLock.abs))), (1, .p 0 0)], [⟨29, x.cs⟩]⟩ (Ln (Qn ?_))))))))))))
  cases h2 : decide (mLocks (x.locks.xs.map CLock.abs) = 0) with
  | true =>
   have h2 := of_decide_eq_true h2
   refine Ci true rfl (Cg (Jq 2 [17] 0 ⟨[(17, .v x.pairs.val)], []⟩ (Lp 68 [] [.v x.pairs.val] (.int .i64 (mPairs x.pairs.xs)) Try.call68 rfl rfl rfl rfl (fun bs w hS => ref_PairsFault x.pairs w (And.left (And.right (Rds.kp hx hS.kp)))) (Jq 1 [3] 0 ⟨[(3, vI (mPairs x.pairs.xs))], []⟩ (Ln (Qn (Cs (Cg (Jq 2 [2] 0 ⟨[(2, vI (mPairs x.pairs.xs))], []⟩ (Ln (Qn (Cr (Rt (.inl rfl) [vI (mPairs x.pairs.xs)] rfl (fun bs w hS => (⟨?_, hS.kp⟩)))))))))))))))
   have hm : mState x.abs = mPairs x.pairs.xs := by
    have q1 : x.abs.sessions = x.sessions.xs.map CSession.abs := rfl
    have q2 : x.abs.locks = x.locks.xs.map CLock.abs := rfl
    have q3 : x.abs.pairs = x.pairs.xs := rfl
    have q4 : x.abs.index = x.index := rfl
    unfold mState; rw [q1, q2, q3, q4]; simp only [h1, h2, if_true, if_false, reduceIte]
   rw [hm]
   rfl
  | false =>
   have h2 := of_decide_eq_false h2
   refine Ci false rfl (Ck (Qn (Cs (Cg (Jq 2 [2] 0 ⟨[(2, vI (mLocks (x.locks.xs.map CLock.abs)))], []⟩ (Ln (Qn (Cr (Rt (.inl rfl) [vI (mLocks (x.locks.xs.map CLock.abs))] rfl (fun bs w hS => (⟨?_, hS.kp⟩)))))))))))
   have hm : mState x.abs = mLocks (x.locks.xs.map CLock.abs) := by
    have q1 : x.abs.sessions = x.sessions.xs.map CSession.abs := rfl
    have q2 : x.abs.locks = x.locks.xs.map CLock.abs := rfl
    have q3 : x.abs.pairs = x.pairs.xs := rfl
    have q4 : x.abs.index = x.index := rfl
    unfold mState; rw [q1, q2, q3, q4]; simp only [h1, h2, if_true, if_false, reduceIte]
   rw [hm]
   rfl
 | false =>
  have h1 := of_decide_eq_false h1
  refine Ci false rfl (Ck (Qn (Cs (Cs (Cg (Jq 2 [15, 3, 1] 1 ⟨[(15, vB (decide (mSess (x.sessions.xs.map CSession.abs) x.index = 0))), (3, vI (mSess (x.sessions.xs.map CSession.abs) x.index)), (1, .p 0 0)], [⟨29, x.cs⟩]⟩ (Ln (Qn ?_))))))))
  cases h3 : decide (mSess (x.sessions.xs.map CSession.abs) x.index = 0) with
  | true =>
   have h3 := of_decide_eq_true h3
   exact absurd h3 h1
  | false =>
   have h3 := of_decide_eq_false h3
   refine Ci false rfl (Ck (Qn (Cs (Cg (Jq 2 [2] 0 ⟨[(2, vI (mSess (x.sessions.xs.map CSession.abs) x.index))], []⟩ (Ln (Qn (Cr (Rt (.inl rfl) [vI (mSess (x.sessions.xs.map CSession.abs) x.index)] rfl (fun bs w hS => (⟨?_, hS.kp⟩)))))))))))
   have hm : mState x.abs = mSess (x.sessions.xs.map CSession.abs) x.index := by
    have q1 : x.abs.sessions = x.sessions.xs.map CSession.abs := rfl
    have q2 : x.abs.locks = x.locks.xs.map CLock.abs := rfl
    have q3 : x.abs.pairs = x.pairs.xs := rfl
    have q4 : x.abs.index = x.index := rfl
    unfold mState; rw [q1, q2, q3, q4]; simp only [h1, h3, if_true, if_false, reduceIte]
   rw [hm]
   rfl

theorem codec_Seal (s : ByteArray) (w : World) (hs : s.size ≤ 9223372036854775807) : Calls Try.prog 36 #[.string s] w fun e w' => e = .returned (.string (mSeal s)) ∧ Kp [] w w' := by
 refine calls_J0 35 Try.func36 rfl rfl [.string s] rfl ?_
 refine Cs (Cg (Jq 1 [0] 0 ⟨[(0, vS s)], []⟩ (Ln (Qn (Cs (Cg (Jq 2 [4, 3, 0] 0 ⟨[(4, vI 0), (3, vI 1), (0, vS s)], []⟩ (Ln (Qn (Cs (Cs (Cg (Jq 3 [8, 7, 4, 3, 0] 0 ⟨[(8, vI 0), (7, vI (s.size : Int)), (4, vI 0), (3, vI 1), (0, vS s)], []⟩ (Ln (Qn (Cb (Cl (σ := Nat) (fun k => k ≤ s.size) (fun k => s.size - k) (fun k => []) (fun k => ⟨[(8, vI (k : Int)), (7, vI (s.size : Int)), (4, vI (sealTo s k).2), (3, vI (sealTo s k).1), (0, vS s)], []⟩) 0 (Nat.zero_le _) (Ss [8, 7, 4, 3, 0] 0 (by kernel_rfl) rfl) ?_)))))))))))))))))
 rintro k hk
 have hb := sealTo_bd s k
 have hu := (s.data.getD k 0).toNat_lt
 refine Cs (Cg (Jq 1 [9, 8, 7, 4, 3, 0] 0 ⟨[(9, vB (decide ((k : Int) < (s.size : Int)))), (8, vI (k : Int)), (7, vI (s.size : Int)), (4, vI (sealTo s k).2), (3, vI (sealTo s k).1), (0, vS s)], []⟩ (Ln (Qn (Cs ?_)))))
 cases h1 : decide ((k : Int) < (s.size : Int)) with
 | true =>
  have h1 := of_decide_eq_true h1
  refine Ci true rfl (Ck (Qn (Cs (Cb (Cs (Cg (Jq 2 [5, 8, 7, 4, 3, 0] 0 ⟨[(5, vI (k : Int)), (8, vI (k : Int)), (7, vI (s.size : Int)), (4, vI (sealTo s k).2), (3, vI (sealTo s k).1), (0, vS s)], []⟩ (Ln (Qn (Cs (Cg (Jr 8 [(3, .sidx k)] [3, 8, 7, 4, 0] 0 ⟨[(3, vI (((sealTo s k).1 + ((s.data.getD k 0).toNat : Int)) % 65521)), (8, vI (k : Int)), (7, vI (s.size : Int)), (4, vI (sealTo s k).2), (0, vS s)], []⟩ [(k : Int) = (k : Int), k < s.size, 0 ≤ ((s.data.getD k 0).toNat : Int), ((s.data.getD k 0).toNat : Int) ≤ 255, inR ((sealTo s k).1 + ((s.data.getD k 0).toNat : Int)), 0 ≤ (sealTo s k).1 + ((s.data.getD k 0).toNat : Int), (0 : Int) < 65521] [] (by kernel_rfl) (oc rfl (oc (by omega) (oc (by omega) (oc (by omega) (oc (by unfold inR; omega) (oc (by omega) (oc (by omega) on))))))) wn (Ln (Qn (Cg (Jr 5 [] [4, 3, 8, 7, 0] 0 ⟨[(4, vI (((sealTo s k).2 + (((sealTo s k).1 + ((s.data.getD k 0).toNat : Int)) % 65521)) % 65521)), (3, vI (((sealTo s k).1 + ((s.data.getD k 0).toNat : Int)) % 65521)), (8, vI (k : Int)), (7, vI (s.size : Int)), (0, vS s)], []⟩ [inR ((sealTo s k).2 + (((sealTo s k).1 + ((s.data.getD k 0).toNat : Int)) % 65521)), 0 ≤ (sealTo s k).2 + (((sealTo s k).1 + ((s.data.getD k 0).toNat : Int)) % 65521), (0 : Int) < 65521] [] (by kernel_rfl) (oc (by unfold inR; omega) (oc (by omega) (oc (by omega) on))) wn (Ln (q_block_normal (Qn (Cg (Jr 2 [] [8, 4, 3, 7, 0] 0 ⟨[(8, vI ((k : Int) + 1)), (4, vI (((sealTo s k).2 + (((sealTo s k).1 + ((s.data.getD k 0).toNat : Int)) % 65521)) % 65521)), (3, vI (((sealTo s k).1 + ((s.data.getD k 0).toNat : Int)) % 65521)), (7, vI (s.size : Int)), (0, vS s)], []⟩ [inR ((k : Int) + 1)] [] (by kernel_rfl) (oc (by unfold inR; omega) on) wn (Ln (Ql (x := (k : Nat)) ((k + 1) : Nat) (by omega) (by omega) (Ss [8, 7, 4, 3, 0] 0 (by kernel_rfl) rfl))))))))))))))))))))))))
 | false =>
  have h1 := of_decide_eq_false h1
  refine Ci false rfl (c_exit (Qe (Qe (Qh (Qn (Cs (Cg (Jr 11 [] [33] 1 ⟨[(33, .s 0 0 4 4)], [⟨5, [.v (.int .u8 (((sealTo s k).2 / 2 ^ (8 : Int).toNat) % 256)), .v (.int .u8 ((sealTo s k).2 % 256)), .v (.int .u8 (((sealTo s k).1 / 2 ^ (8 : Int).toNat) % 256)), .v (.int .u8 ((sealTo s k).1 % 256))]⟩]⟩ [(0 : Int) ≤ 8, 8 ≤ (64 : Int), (0 : Int) ≤ 8, 8 ≤ (64 : Int)] [] (by kernel_rfl) (oc (by omega) (oc (by omega) (oc (by omega) (oc (by omega) on)))) wn (l_bytes 5 (.s 0 0 4 4) [((sealTo s k).2 / 2 ^ (8 : Int).toNat) % 256, (sealTo s k).2 % 256, ((sealTo s k).1 / 2 ^ (8 : Int).toNat) % 256, (sealTo s k).1 % 256] Try.underlying105 Try.underlying5 Try.underlying9 rfl rfl (fun bs w hS => src_loc (q := 4) hS rfl rfl) (Jq 1 [2] 0 ⟨[(2, vS (bstr ([((sealTo s k).2 / 2 ^ (8 : Int).toNat) % 256, (sealTo s k).2 % 256, ((sealTo s k).1 / 2 ^ (8 : Int).toNat) % 256, (sealTo s k).1 % 256])))], []⟩ (Ln (Qn (Cr (Rt (.inl rfl) [vS (bstr ([((sealTo s k).2 / 2 ^ (8 : Int).toNat) % 256, (sealTo s k).2 % 256, ((sealTo s k).1 / 2 ^ (8 : Int).toNat) % 256, (sealTo s k).1 % 256]))] rfl (fun bs w hS => (⟨?_, hS.kp⟩))))))))))))))))
  have e : k = s.size := by omega
  subst e
  simp [retOf, den, mSeal]

theorem ref_SealOf (s : ByteArray) (w : World) (hs : s.size ≤ 9223372036854775807) : Calls Try.prog 42 #[.string s] w fun e w' => e = .returned (.string (mSeal s)) ∧ Kp [] w w' := by
 refine calls_J0 37 Try.func42 rfl rfl [.string s] rfl ?_
 refine Cs (Cg (Jq 1 [0] 0 ⟨[(0, vS s)], []⟩ (Ln (Qn (Cs (Cg (Jq 1 [3, 0] 0 ⟨[(3, vI 1), (0, vS s)], []⟩ (Ln (Qn (Cs (Cg (Jq 1 [4, 3, 0] 0 ⟨[(4, vI 0), (3, vI 1), (0, vS s)], []⟩ (Ln (Qn (Cs (Cs (Cg (Jq 1 [5, 4, 3, 0] 0 ⟨[(5, vI 0), (4, vI 0), (3, vI 1), (0, vS s)], []⟩ (Ln (Qn (Cb (Cl (σ := Nat) (fun k => k ≤ s.size) (fun k => s.size - k) (fun k => []) (fun k => ⟨[(5, vI (k : Int)), (4, vI (sealTo s k).2), (3, vI (sealTo s k).1), (0, vS s)], []⟩) 0 (Nat.zero_le _) (Ss [5, 4, 3, 0] 0 (by kernel_rfl) rfl) ?_))))))))))))))))))))))
 rintro k hk
 have hb := sealTo_bd s k
 have hu := (s.data.getD k 0).toNat_lt
 refine Cs (Cs (Cg (Jq 4 [9, 5, 4, 3, 0] 0 ⟨[(9, vB (decide ((k : Int) < (s.size : Int)))), (5, vI (k : Int)), (4, vI (sealTo s k).2), (3, vI (sealTo s k).1), (0, vS s)], []⟩ (Ln (Qn ?_)))))
 cases h1 : decide ((k : Int) < (s.size : Int)) with
 | true =>
  have h1 := of_decide_eq_true h1
  refine Ci true rfl (Ck (Qn (Cs (Cb (Cs (Cg (Jr 8 [(3, .sidx k)] [3, 5, 4, 0] 0 ⟨[(3, vI (((sealTo s k).1 + ((s.data.getD k 0).toNat : Int)) % 65521)), (5, vI (k : Int)), (4, vI (sealTo s k).2), (0, vS s)], []⟩ [(k : Int) = (k : Int), k < s.size, 0 ≤ ((s.data.getD k 0).toNat : Int), ((s.data.getD k 0).toNat : Int) ≤ 255, inR ((sealTo s k).1 + ((s.data.getD k 0).toNat : Int)), 0 ≤ (sealTo s k).1 + ((s.data.getD k 0).toNat : Int), (0 : Int) < 65521] [] (by kernel_rfl) (oc rfl (oc (by omega) (oc (by omega) (oc (by omega) (oc (by unfold inR; omega) (oc (by omega) (oc (by omega) on))))))) wn (Ln (Qn (Cg (Jr 5 [] [4, 3, 5, 0] 0 ⟨[(4, vI (((sealTo s k).2 + (((sealTo s k).1 + ((s.data.getD k 0).toNat : Int)) % 65521)) % 65521)), (3, vI (((sealTo s k).1 + ((s.data.getD k 0).toNat : Int)) % 65521)), (5, vI (k : Int)), (0, vS s)], []⟩ [inR ((sealTo s k).2 + (((sealTo s k).1 + ((s.data.getD k 0).toNat : Int)) % 65521)), 0 ≤ (sealTo s k).2 + (((sealTo s k).1 + ((s.data.getD k 0).toNat : Int)) % 65521), (0 : Int) < 65521] [] (by kernel_rfl) (oc (by unfold inR; omega) (oc (by omega) (oc (by omega) on))) wn (Ln (q_block_normal (Qn (Cg (Jr 3 [] [5, 4, 3, 0] 0 ⟨[(5, vI ((k : Int) + 1)), (4, vI (((sealTo s k).2 + (((sealTo s k).1 + ((s.data.getD k 0).toNat : Int)) % 65521)) % 65521)), (3, vI (((sealTo s k).1 + ((s.data.getD k 0).toNat : Int)) % 65521)), (0, vS s)], []⟩ [inR ((k : Int) + 1)] [] (by kernel_rfl) (oc (by unfold inR; omega) on) wn (Ln (Ql (x := (k : Nat)) ((k + 1) : Nat) (by omega) (by omega) (Ss [5, 4, 3, 0] 0 (by kernel_rfl) rfl)))))))))))))))))))
 | false =>
  have h1 := of_decide_eq_false h1
  refine Ci false rfl (c_exit (Qe (Qe (Qh (Qn (Cs (Cg (Jr 13 [] [35] 1 ⟨[(35, .s 0 0 4 4)], [⟨5, [.v (.int .u8 (((sealTo s k).2 / 256) % 256)), .v (.int .u8 (((sealTo s k).2 % 256) % 256)), .v (.int .u8 (((sealTo s k).1 / 256) % 256)), .v (.int .u8 (((sealTo s k).1 % 256) % 256))]⟩]⟩ [0 ≤ (sealTo s k).2, (sealTo s k).2 ≤ 9223372036854775807, (0 : Int) < 256, 0 ≤ (sealTo s k).2, (0 : Int) < 256, 0 ≤ (sealTo s k).1, (sealTo s k).1 ≤ 9223372036854775807, (0 : Int) < 256, 0 ≤ (sealTo s k).1, (0 : Int) < 256] [] (by kernel_rfl) (oc (by omega) (oc (by omega) (oc (by omega) (oc (by omega) (oc (by omega) (oc (by omega) (oc (by omega) (oc (by omega) (oc (by omega) (oc (by omega) on)))))))))) wn (l_bytes 5 (.s 0 0 4 4) [((sealTo s k).2 / 256) % 256, ((sealTo s k).2 % 256) % 256, ((sealTo s k).1 / 256) % 256, ((sealTo s k).1 % 256) % 256] Try.underlying105 Try.underlying5 Try.underlying9 rfl rfl (fun bs w hS => src_loc (q := 4) hS rfl rfl) (Jq 1 [2] 0 ⟨[(2, vS (bstr ([((sealTo s k).2 / 256) % 256, ((sealTo s k).2 % 256) % 256, ((sealTo s k).1 / 256) % 256, ((sealTo s k).1 % 256) % 256])))], []⟩ (Ln (Qn (Cr (Rt (.inl rfl) [vS (bstr ([((sealTo s k).2 / 256) % 256, ((sealTo s k).2 % 256) % 256, ((sealTo s k).1 / 256) % 256, ((sealTo s k).1 % 256) % 256]))] rfl (fun bs w hS => (⟨?_, hS.kp⟩))))))))))))))))
  have e : k = s.size := by omega
  subst e
  simp [retOf, den, mSeal]

theorem clone_Pair {B : Nat → Prop} (s : Sl DPair) (w : World) (hs : s.rd B w) (hb : s.n ≤ 1048576) : Calls Try.prog 75 #[.slice s.A s.n s.c] w fun e w' => ∃ y : Sl DPair, e = .returned y.val ∧ y.xs = s.xs ∧ Kp [] w w' ∧ Fresh w w' (rowA 77 y.A y.c y.xs) := by
 have oks := Sl.rd.ok hs
 have ncs := Sl.ok.nc oks
 have hns : s.n = s.xs.length := rfl
 refine calls_J0 8 Try.func75 rfl rfl [.slice s.A s.n s.c] rfl ?_
 refine Cs (Cg (Jq 1 [0] 0 ⟨[(0, .v s.val)], []⟩ (Ln (Qn (Cs (Cs (Cg (Jr 2 [(1, .val (.bool s.A.isNone))] [4, 0] 0 ⟨[(4, vB s.A.isNone), (0, .v s.val)], []⟩ [∀ w, (do eqGuard .eql 26 (.tmp 3) (.const (.slice none 0 0)) (.slice s.A s.n s.c) (.slice none 0 0); binOp .eql 26 (.slice s.A s.n s.c) (.slice none 0 0) : Sem Value).run Try.prog w = .ok (.bool s.A.isNone) w] [] (by kernel_rfl) (oc (eq_nil Try.underlying26) on) wn (Ln (Qn ?_))))))))))
 cases h1 : s.A.isNone with
 | true =>
  refine Ci true rfl (Cs (Cg (Jq 1 [2] 0 ⟨[(2, .v (.slice none 0 0))], []⟩ (Ln (Qn (Cr (Qr (Rt (.inl rfl) [.v (.slice none 0 0)] rfl (fun bs w hS => ?_)))))))))
  have hnil : s.xs = [] := Sl.ok.empty oks (by cases h : s.A <;> simp_all)
  exact ⟨Sl.nil, rfl, hnil.symm, hS.kp, rowA_nil 77 w⟩
 | false =>
  refine Ci false rfl (Ck (Qn (Cs (Cg (l_row0A (α := DPair) 77 Try.underlying26 (by kernel_rfl) (by kernel_rfl) (by kernel_rfl) rfl ?_)))))
  intro A1
  refine Jq 1 [6, 5] 0 ⟨[(6, .v s.val), (5, .v (.slice A1 ([] : List DPair).length 0))], []⟩ (La (α := DPair) 77 40 A1 0 ([]) (.v (.slice s.A s.n s.c)) (s.xs) Try.underlying26 (by kernel_rfl) rfl rfl rfl (fun bs w hS => ⟨_, _, rfl, Sl.rd.src (s := s) (Sl.rd.kp hs hS.kp)⟩) (by simp only [List.length_nil]; omega) (by simp only [List.length_nil]; omega) ?_)
  intro A2 c2
  refine Jq 1 [2] 0 ⟨[(2, .v (.slice A2 ([] ++ s.xs).length c2))], []⟩ (Ln (Qn (Cr (Rt (.inl rfl) [.v (.slice A2 ([] ++ s.xs).length c2)] rfl (fun bs w hS => ?_)))))
  exact ⟨⟨A2, c2, [] ++ s.xs⟩, rfl, by simp, hS.kp, hS.out1⟩

theorem same_pairs {B B' : Nat → Prop} (a b : Sl DPair) (w : World) (ha : a.rd B w) (hb : b.rd B' w) (he : a.xs = b.xs) : Calls Try.prog 48 #[.slice a.A a.n a.c, .slice b.A b.n b.c] w fun e w' => e = .returned (.bool true) ∧ Kp [] w w' := by
 have oka := Sl.rd.ok ha
 have okb := Sl.rd.ok hb
 have hn := xs_n he
 have nca := Sl.ok.nc oka
 refine calls_J0 26 Try.func48 rfl rfl [.slice a.A a.n a.c, .slice b.A b.n b.c] rfl ?_
 refine Cs (Cg (Jq 1 [0, 1] 0 ⟨[(0, .v a.val), (1, .v b.val)], []⟩ (Ln (Qn (Cs (Cs (Cg (Jq 5 [10, 0, 1] 0 ⟨[(10, vB (!(decide ((a.n : Int) = (b.n : Int))))), (0, .v a.val), (1, .v b.val)], []⟩ (Ln (Qn ?_))))))))))
 cases h1 : decide ((a.n : Int) = (b.n : Int)) with
 | true =>
  have h1 := of_decide_eq_true h1
  refine Ci false rfl (Ck (Qn (Cs (Cs (Cg (Jq 1 [5, 0, 1] 0 ⟨[(5, vI 0), (0, .v a.val), (1, .v b.val)], []⟩ (Ln (Qn (Cb (Cl (σ := Nat) (fun i => True) (fun i => a.n - i) (fun i => []) (fun i => ⟨[(5, vI (i : Int)), (0, .v a.val), (1, .v b.val)], []⟩) 0 trivial (Ss [5, 0, 1] 0 (by kernel_rfl) rfl) ?_))))))))))
  rintro i _
  have hat := xs_at he i
  refine Cs (Cs (Cg (Jq 4 [14, 5, 0, 1] 0 ⟨[(14, vB (decide ((i : Int) < (a.n : Int)))), (5, vI (i : Int)), (0, .v a.val), (1, .v b.val)], []⟩ (Ln (Qn ?_)))))
  cases h2 : decide ((i : Int) < (a.n : Int)) with
  | true =>
   have h2 := of_decide_eq_true h2
   refine Ci true rfl (Ck (Qn (Cs (Cb (Cs (Cd 9 [] (.p 0 (.p 1 (.p 2 (.q 3 (.p 4 (.p 5 (.p 6 (.q 7 (.p 8 .nil))))))))) [] [] Try_mixed (by kernel_rfl) (pq_then (pq_block (pq_then (pq_then (pq_block (pq_then pq_body)))))) .slnil (Hq [(2, .idx a.ad i), (3, .ext [.string (a.at i).name, .string (a.at i).value, .int .i64 (a.at i).version]), (6, .idx b.ad i), (7, .ext [.string (b.at i).name, .string (b.at i).value, .int .i64 (b.at i).version]), (8, .val (.bool (!((decide ((a.at i).name = (b.at i).name)) && ((decide ((a.at i).value = (b.at i).value)) && ((decide ((a.at i).version = (b.at i).version)) && true))))))] [(0, true), (1, true), (2, true), (3, false), (4, true), (5, true), (6, true), (7, false), (8, true)] [(25, vB (!((decide ((a.at i).name = (b.at i).name)) && ((decide ((a.at i).value = (b.at i).value)) && ((decide ((a.at i).version = (b.at i).version)) && true))))), (24, .v (b.at i).val), (23, .v (.pointer (some (b.ad.add (i * 3))))), (22, vI (i : Int)), (21, .v b.val), (20, .v (a.at i).val), (19, .v (.pointer (some (a.ad.add (i * 3))))), (18, vI (i : Int)), (17, .v a.val), (14, vB true), (5, vI (i : Int)), (0, .v a.val), (1, .v b.val)] [a.A = some a.ad, (i : Int) = (i : Int), i < a.n, b.A = some b.ad, (i : Int) = (i : Int), i < b.n, ∀ w, (do eqGuard .neq 77 (.tmp 20) (.tmp 24) (a.at i).val (b.at i).val; binOp .neq 77 (a.at i).val (b.at i).val : Sem Value).run Try.prog w = .ok (.bool (!((decide ((a.at i).name = (b.at i).name)) && ((decide ((a.at i).value = (b.at i).value)) && ((decide ((a.at i).version = (b.at i).version)) && true))))) w] [(a.ad.add (i * 3), [.string (a.at i).name, .string (a.at i).value, .int .i64 (a.at i).version]), (b.ad.add (i * 3), [.string (b.at i).name, .string (b.at i).value, .int .i64 (b.at i).version])] rfl (by kernel_rfl) (oc (Sl.ok.own (s := a) (i := i) oka (by omega)) (oc rfl (oc (by omega) (oc (Sl.ok.own (s := b) (i := i) okb (by omega)) (oc rfl (oc (by omega) (oc (neq_agg (by kernel_rfl) (by kernel_rfl)) on))))))) (fun w hk hr => ⟨(Sl.rd.all (s := a) (i := i) (Sl.rd.kp ha hk) (by omega) rfl), ⟨(Sl.rd.all (s := b) (i := i) (Sl.rd.kp hb hk) (by omega) rfl), trivial⟩⟩) (Hn (Ln (Qn ?_))))))))))
   cases h3 : (decide ((a.at i).name = (b.at i).name)) && ((decide ((a.at i).value = (b.at i).value)) && ((decide ((a.at i).version = (b.at i).version)) && true)) with
   | true =>
    refine Ci false rfl (Ck (q_block_normal (Qn (Cg (Jr 3 [] [5, 0, 1] 0 ⟨[(5, vI ((i : Int) + 1)), (0, .v a.val), (1, .v b.val)], []⟩ [inR ((i : Int) + 1)] [] (by kernel_rfl) (oc (by unfold inR; omega) on) wn (Ln (Ql (x := (i : Nat)) ((i + 1) : Nat) trivial (by omega) (Ss [5, 0, 1] 0 (by kernel_rfl) rfl))))))))
   | false =>
    exfalso; simp [xs_at he i] at h3
  | false =>
   have h2 := of_decide_eq_false h2
   refine Ci false rfl (c_exit (Qe (Qe (Qh (Qn (Cs (Cg (Jq 1 [4] 0 ⟨[(4, vB true)], []⟩ (Ln (Qn (Cr (Rt (.inl rfl) [vB true] rfl (fun bs w hS => ?_)))))))))))))
   exact ⟨rfl, hS.kp⟩
 | false =>
  have h1 := of_decide_eq_false h1
  exfalso; first | omega | exact h1 (xs_at he i)

theorem clone_Int {B : Nat → Prop} (s : Sl Int) (w : World) (hs : s.rd B w) (hb : s.n ≤ 1048576) : Calls Try.prog 92 #[.slice s.A s.n s.c] w fun e w' => ∃ y : Sl Int, e = .returned y.val ∧ y.xs = s.xs ∧ Kp [] w w' ∧ Fresh w w' (rowA 3 y.A y.c y.xs) := by
 have oks := Sl.rd.ok hs
 have ncs := Sl.ok.nc oks
 have hns : s.n = s.xs.length := rfl
 refine calls_J0 8 Try.func92 rfl rfl [.slice s.A s.n s.c] rfl ?_
 refine Cs (Cg (Jq 1 [0] 0 ⟨[(0, .v s.val)], []⟩ (Ln (Qn (Cs (Cs (Cg (Jr 2 [(1, .val (.bool s.A.isNone))] [4, 0] 0 ⟨[(4, vB s.A.isNone), (0, .v s.val)], []⟩ [∀ w, (do eqGuard .eql 72 (.tmp 3) (.const (.slice none 0 0)) (.slice s.A s.n s.c) (.slice none 0 0); binOp .eql 72 (.slice s.A s.n s.c) (.slice none 0 0) : Sem Value).run Try.prog w = .ok (.bool s.A.isNone) w] [] (by kernel_rfl) (oc (eq_nil Try.underlying72) on) wn (Ln (Qn ?_))))))))))
 cases h1 : s.A.isNone with
 | true =>
  refine Ci true rfl (Cs (Cg (Jq 1 [2] 0 ⟨[(2, .v (.slice none 0 0))], []⟩ (Ln (Qn (Cr (Qr (Rt (.inl rfl) [.v (.slice none 0 0)] rfl (fun bs w hS => ?_)))))))))
  have hnil : s.xs = [] := Sl.ok.empty oks (by cases h : s.A <;> simp_all)
  exact ⟨Sl.nil, rfl, hnil.symm, hS.kp, rowA_nil 3 w⟩
 | false =>
  refine Ci false rfl (Ck (Qn (Cs (Cg (l_row0A (α := Int) 3 Try.underlying72 (by kernel_rfl) (by kernel_rfl) (by kernel_rfl) rfl ?_)))))
  intro A1
  refine Jq 1 [6, 5] 0 ⟨[(6, .v s.val), (5, .v (.slice A1 ([] : List Int).length 0))], []⟩ (La (α := Int) 3 8 A1 0 ([]) (.v (.slice s.A s.n s.c)) (s.xs) Try.underlying72 (by kernel_rfl) rfl rfl rfl (fun bs w hS => ⟨_, _, rfl, Sl.rd.src (s := s) (Sl.rd.kp hs hS.kp)⟩) (by simp only [List.length_nil]; omega) (by simp only [List.length_nil]; omega) ?_)
  intro A2 c2
  refine Jq 1 [2] 0 ⟨[(2, .v (.slice A2 ([] ++ s.xs).length c2))], []⟩ (Ln (Qn (Cr (Rt (.inl rfl) [.v (.slice A2 ([] ++ s.xs).length c2)] rfl (fun bs w hS => ?_)))))
  exact ⟨⟨A2, c2, [] ++ s.xs⟩, rfl, by simp, hS.kp, hS.out1⟩

end Go.Proofs.Ytececkgjacccmae.W
