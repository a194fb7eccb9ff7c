/-
  The functions that the law LockGone reaches, walked: each returns what its model says.
  Conditions: those that each theorem states.
-/
import Derived.Test.YtececkgjacccmacMc
import Derived.Test.YtececkgjacccmacChecked
set_option linter.unusedVariables false
set_option linter.unusedSimpArgs false
set_option maxRecDepth 100000
namespace Go.Proofs.Ytececkgjacccmac.W
open Go.Proofs.Ytececkgjacccmac.Fw Go.RowKit

theorem Try_mixed : Try.prog.follows .mixedOrders = true := by kernel_rfl
theorem laid : laidOutB Try.prog = true := by kernel_rfl

theorem ref_In (n lo hi : Int) (w : World) : Calls Try.prog 68 #[.int .i64 n, .int .i64 lo, .int .i64 hi] w fun e w' => e = .returned (.bool (inB n lo hi)) ∧ Kp [] w w' := by
 refine calls_J0 15 Try.func68 rfl rfl [.int .i64 n, .int .i64 lo, .int .i64 hi] rfl ?_
 refine Cs (Cg (Jq 1 [0, 1, 2] 0 ⟨[(0, vI n), (1, vI lo), (2, vI hi)], []⟩ (Ln (Qn (Cs (Cg (Jq 4 [10, 0, 2] 0 ⟨[(10, vB (decide (lo ≤ n))), (0, vI n), (2, vI hi)], []⟩ ?_)))))))
 cases h1 : decide (lo ≤ n) with
 | true =>
  have h1 := of_decide_eq_true h1
  refine Jq 5 [6] 0 ⟨[(6, vB (decide (n ≤ hi)))], []⟩ (Ln (Qn (Cr (Rt (.inl rfl) [vB (decide (n ≤ hi))] rfl (fun bs w hS => ?_)))))
  exact ⟨by simp [retOf, den, inB, h1], hS.kp⟩
 | false =>
  have h1 := of_decide_eq_false h1
  refine Jq 5 [6] 0 ⟨[(6, vB false)], []⟩ (Ln (Qn (Cr (Rt (.inl rfl) [vB false] rfl (fun bs w hS => ?_)))))
  exact ⟨by simp [retOf, den, inB, h1], hS.kp⟩

theorem lock_Name1 (c : UInt8) (w : World) : Calls Try.prog 111 #[.int .u8 (c.toNat : Int)] w fun e w' => e = .returned (.bool (nameBad c)) ∧ Kp [] w w' := by
 refine calls_J0 9 Try.func111 rfl rfl [.int .u8 (c.toNat : Int)] rfl ?_
 refine Cs (Cg (Jq 1 [0] 0 ⟨[(0, .v (.int .u8 (c.toNat : Int)))], []⟩ (Ln (Qn (Cs (Cg (Jq 3 [5, 0] 0 ⟨[(5, vB (decide ((c.toNat : Int) < 97))), (0, .v (.int .u8 (c.toNat : Int)))], []⟩ ?_)))))))
 cases h1 : decide ((c.toNat : Int) < 97) with
 | true =>
  have h1 := of_decide_eq_true h1
  refine Jq 4 [2] 0 ⟨[(2, vB true)], []⟩ (Ln (Qn (Cr (Rt (.inl rfl) [vB true] rfl (fun bs w hS => ?_)))))
  exact ⟨by simp [retOf, den, nameBad, h1], hS.kp⟩
 | false =>
  have h1 := of_decide_eq_false h1
  refine Jq 4 [2] 0 ⟨[(2, vB (decide ((122 : Int) < (c.toNat : Int))))], []⟩ (Ln (Qn (Cr (Rt (.inl rfl) [vB (decide ((122 : Int) < (c.toNat : Int)))] rfl (fun bs w hS => ?_)))))
  exact ⟨by simp [retOf, den, nameBad, h1], hS.kp⟩

theorem idx_bytes {B : Nat → Prop} (s : Sl UInt8) (w : World) (hs : s.rd B w) : Calls Try.prog 114 #[.slice s.A s.n s.c, .func (.func 111) #[] #[]] w fun e w' => e = .returned (.int .i64 (mIdx nameBad s.xs)) ∧ Kp [] w w' := by
 have oks := Sl.rd.ok hs
 have ncs := Sl.ok.nc oks
 have hns : s.n = s.xs.length := rfl
 refine calls_J 19 [] Try.func114 rfl rfl [] [] [] [.v s.val, .fn 111 []] [.slice s.A s.n s.c, .func (.func 111) #[] #[]] rfl rfl (WS.start w) ?_
 refine Cs (Cg (Jq 1 [0, 1] 0 ⟨[(0, .v s.val), (1, .fn 111 [])], []⟩ (Ln (Qn (Cs (Cs (Cg (Jq 3 [8, 7, 0, 1] 0 ⟨[(8, vI 0), (7, vI ((s.n : Nat) : Int)), (0, .v s.val), (1, .fn 111 [])], []⟩ (Ln (Qn (Cb (Cl (σ := Nat) (fun i => i ≤ s.n ∧ ∀ j, j < i → nameBad (s.at j) = false) (fun i => s.n - i) (fun i => []) (fun i => ⟨[(8, vI (i : Int)), (7, vI ((s.n : Nat) : Int)), (0, .v s.val), (1, .fn 111 [])], []⟩) 0 ⟨Nat.zero_le _, fun j hj => absurd hj (Nat.not_lt_zero _)⟩ (Ss [8, 7, 0, 1] 0 (by kernel_rfl) rfl) ?_))))))))))))
 rintro i ⟨hi, hI⟩
 refine Cs (Cg (Jq 1 [9, 8, 7, 0, 1] 0 ⟨[(9, vB (decide ((i : Int) < ((s.n : Nat) : Int)))), (8, vI (i : Int)), (7, vI ((s.n : Nat) : Int)), (0, .v s.val), (1, .fn 111 [])], []⟩ (Ln (Qn (Cs ?_)))))
 cases h1 : decide ((i : Int) < ((s.n : Nat) : Int)) with
 | true =>
  have h1 := of_decide_eq_true h1
  refine Ci true rfl (Ck (Qn (Cs (Cb (Cs (Cg (Jq 2 [5, 8, 7, 0, 1] 0 ⟨[(5, vI (i : Int)), (8, vI (i : Int)), (7, vI ((s.n : Nat) : Int)), (0, .v s.val), (1, .fn 111 [])], []⟩ (Ln (Qn (Cs (Cg (Jr 5 [(3, .idx s.ad i), (4, .ext [.int .u8 ((s.at i).toNat : Int)])] [15, 11, 5, 8, 7, 0, 1] 0 ⟨[(15, .v (.int .u8 ((s.at i).toNat : Int))), (11, .fn 111 []), (5, vI (i : Int)), (8, vI (i : Int)), (7, vI ((s.n : Nat) : Int)), (0, .v s.val), (1, .fn 111 [])], []⟩ [s.A = some s.ad, (i : Int) = (i : Int), i < s.n] [(s.ad.add (i * 1), [.int .u8 ((s.at i).toNat : Int)])] (by kernel_rfl) (oc (Sl.ok.own (s := s) (i := i) oks (by omega)) (oc rfl (oc (by omega) on))) (fun w hk hr => ⟨(Sl.rd.all (s := s) (i := i) (Sl.rd.kp hs hk) (by omega) rfl), trivial⟩) (Lp 111 [] [.v (.int .u8 ((s.at i).toNat : Int))] (.bool (nameBad (s.at i))) Try.call111 rfl rfl rfl rfl (fun bs w hS => lock_Name1 _ w) (Ln (Qn ?_)))))))))))))))
  cases h2 : nameBad (s.at i) with
  | true =>
   refine Ci true rfl (Cs (Cg (Jq 2 [4] 0 ⟨[(4, vI (i : Int))], []⟩ (Ln (Qn (Cr (Qb (Qr (Qr (Qb (Qr (Rt (.inl rfl) [vI (i : Int)] rfl (fun bs w hS => (⟨?_, hS.kp⟩))))))))))))))
   rw [mIdx_here (by omega) (by assumption) hI]
   rfl
  | false =>
   refine Ci false rfl (Ck (q_block_normal (Qn (Cg (Jr 2 [] [8, 7, 0, 1] 0 ⟨[(8, vI ((i : Int) + 1)), (7, vI ((s.n : Nat) : Int)), (0, .v s.val), (1, .fn 111 [])], []⟩ [inR ((i : Int) + 1)] [] (by kernel_rfl) (oc (by unfold inR; omega) on) wn (Ln (q_loop (x := (i : Nat)) ((i + 1) : Nat) ⟨by omega, fun j hj => by rcases Nat.lt_succ_iff_lt_or_eq.1 hj with h | h; exact hI j h; subst h; assumption⟩ (by omega) (Ss [8, 7, 0, 1] 0 (by kernel_rfl) rfl))))))))
 | false =>
  have h1 := of_decide_eq_false h1
  refine Ci false rfl (c_exit (Qe (Qe (Qh (Qn (Cs (Cg (Jq 1 [4] 0 ⟨[(4, vI (-1))], []⟩ (Ln (Qn (Cr (Rt (.inl rfl) [vI (-1)] rfl (fun bs w hS => (⟨?_, hS.kp⟩))))))))))))))
  rw [mIdx_none fun j hj => hI j (by omega)]
  rfl

theorem has_bytes {B : Nat → Prop} (s : Sl UInt8) (w : World) (hs : s.rd B w) : Calls Try.prog 110 #[.slice s.A s.n s.c, .func (.func 111) #[] #[]] w fun e w' => e = .returned (.bool (s.xs.any nameBad)) ∧ Kp [] w w' := by
 have oks := Sl.rd.ok hs
 have ncs := Sl.ok.nc oks
 have hns : s.n = s.xs.length := rfl
 refine calls_J 9 [] Try.func110 rfl rfl [] [] [] [.v s.val, .fn 111 []] [.slice s.A s.n s.c, .func (.func 111) #[] #[]] rfl rfl (WS.start w) ?_
 refine Cs (Cg (Jq 1 [0, 1] 0 ⟨[(0, .v s.val), (1, .fn 111 [])], []⟩ (Ln (Qn (Cs (Cg (Jq 2 [6, 5] 0 ⟨[(6, .fn 111 []), (5, .v s.val)], []⟩ (Lp 114 [] [.v s.val, .fn 111 []] (.int .i64 (mIdx nameBad s.xs)) Try.call114 rfl rfl rfl rfl (fun bs w hS => idx_bytes _ w (Sl.rd.kp hs hS.kp)) (Jq 2 [4] 0 ⟨[(4, vB (decide ((0 : Int) ≤ mIdx nameBad s.xs)))], []⟩ (Ln (Qn (Cr (Rt (.inl rfl) [vB (decide ((0 : Int) ≤ mIdx nameBad s.xs))] rfl (fun bs w hS => (⟨?_, hS.kp⟩)))))))))))))))
 simp only [retOf, den, List.map_cons, List.map_nil, mIdx_nonneg]

theorem lock_Name (s : ByteArray) (w : World) (hs : s.size ≤ 9223372036854775807) : Calls Try.prog 92 #[.string s] w fun e w' => e = .returned (.bool (mName s)) ∧ Kp [] w w' := by
 refine calls_J0 16 Try.func92 rfl rfl [.string s] rfl ?_
 refine Cs (Cg (Jq 1 [0] 0 ⟨[(0, vS s)], []⟩ (Ln (Qn (Cs (Cg (Jq 3 [5, 0] 0 ⟨[(5, vB (!(decide (s = emp)))), (0, vS s)], []⟩ ?_)))))))
 cases h1 : decide (s = emp) with
 | true =>
  have h1 := of_decide_eq_true h1
  refine Jq 11 [2] 0 ⟨[(2, vB false)], []⟩ (Ln (Qn (Cr (Rt (.inl rfl) [vB false] rfl (fun bs w hS => (⟨?_, hS.kp⟩))))))
  simp [retOf, den, mName, *]
 | false =>
  have h1 := of_decide_eq_false h1
  refine Jq 5 [10, 0] 0 ⟨[(10, vB (decide ((s.size : Int) ≤ 6))), (0, vS s)], []⟩ ?_
  cases h2 : decide ((s.size : Int) ≤ 6) with
  | true =>
   have h2 := of_decide_eq_true h2
   refine Jq 1 [11, 10] 0 ⟨[(11, vS s), (10, vB true)], []⟩ (l_strbytes 5 s Try.underlying9 Try.underlying137 Try.underlying5 (by unfold maxLen; omega) rfl rfl rfl ?_)
   rintro fp1 y1 hF1 hok1
   refine Lp 110 [] [.v y1.val, .fn 111 []] (.bool (y1.xs.any nameBad)) Try.call110 rfl rfl rfl rfl (fun bs w hS => has_bytes _ w (hS.res _ (.head _))) ?_
   refine Jq 3 [2] 0 ⟨[(2, vB (!(y1.xs.any nameBad)))], []⟩ (Ln (Qn (Cr (Rt (.inl rfl) [vB (!(y1.xs.any nameBad))] rfl (fun bs w hS => (⟨?_, hS.kp⟩))))))
   simp [retOf, den, mName, *]
  | false =>
   have h2 := of_decide_eq_false h2
   refine Jq 6 [2] 0 ⟨[(2, vB false)], []⟩ (Ln (Qn (Cr (Rt (.inl rfl) [vB false] rfl (fun bs w hS => (⟨?_, hS.kp⟩))))))
   simp [retOf, den, mName, *]

theorem ref_NameMay (s : ByteArray) (w : World) (hs : s.size ≤ 9223372036854775807) : Calls Try.prog 94 #[.string s] w fun e w' => e = .returned (.bool (mName s)) ∧ Kp [] w w' := by
 refine calls_J0 19 Try.func94 rfl rfl [.string s] rfl ?_
 refine Cs (Cg (Jq 1 [0] 0 ⟨[(0, vS s)], []⟩ (Ln (Qn (Cs (Cs (Cg (Jq 1 [3, 0] 0 ⟨[(3, vI 0), (0, vS s)], []⟩ (Ln (Qn (Cb (Cl (σ := Nat) (fun i => i ≤ s.size ∧ ∀ j, j < i → nameBad (s.data.getD j 0) = false) (fun i => s.size - i) (fun i => []) (fun i => ⟨[(3, vI (i : Int)), (0, vS s)], []⟩) 0 ⟨Nat.zero_le _, fun j hj => absurd hj (Nat.not_lt_zero _)⟩ (Ss [3, 0] 0 (by kernel_rfl) rfl) ?_))))))))))))
 rintro i ⟨hi, hI⟩
 have hu := (s.data.getD i 0).toNat_lt
 refine Cs (Cs (Cg (Jq 4 [7, 3, 0] 0 ⟨[(7, vB (decide ((i : Int) < (s.size : Int)))), (3, vI (i : Int)), (0, vS s)], []⟩ (Ln (Qn ?_)))))
 cases h1 : decide ((i : Int) < (s.size : Int)) with
 | true =>
  have h1 := of_decide_eq_true h1
  refine Ci true rfl (Ck (Qn (Cs (Cb (Cs (Cg (Jr 4 [(2, .sidx i)] [13, 3, 0] 0 ⟨[(13, vI ((s.data.getD i 0).toNat : Int)), (3, vI (i : Int)), (0, vS s)], []⟩ [(i : Int) = (i : Int), i < s.size, 0 ≤ ((s.data.getD i 0).toNat : Int), ((s.data.getD i 0).toNat : Int) ≤ 255] [] (by kernel_rfl) (oc rfl (oc (by omega) (oc (by omega) (oc (by omega) on)))) wn (Lp 68 [] [vI ((s.data.getD i 0).toNat : Int), vI 97, vI 122] (.bool (inB ((s.data.getD i 0).toNat : Int) 97 122)) Try.call68 rfl rfl rfl rfl (fun bs w hS => ref_In _ _ _ w) (Jq 1 [15, 3, 0] 0 ⟨[(15, vB (!(inB ((s.data.getD i 0).toNat : Int) 97 122))), (3, vI (i : Int)), (0, vS s)], []⟩ (Ln (Qn ?_)))))))))))
  cases h2 : inB ((s.data.getD i 0).toNat : Int) 97 122 with
  | true =>
   refine Ci false rfl (Ck (q_block_normal (Qn (Cg (Jr 3 [] [3, 0] 0 ⟨[(3, vI ((i : Int) + 1)), (0, vS s)], []⟩ [inR ((i : Int) + 1)] [] (by kernel_rfl) (oc (by unfold inR; omega) on) wn (Ln (q_loop (x := (i : Nat)) ((i + 1) : Nat) ⟨by omega, fun j hj => by rcases Nat.lt_succ_iff_lt_or_eq.1 hj with h | h; exact hI j h; subst h; simp only [inB, nameBad, Bool.and_eq_true, Bool.or_eq_false_iff, decide_eq_true_eq, decide_eq_false_iff_not] at *; omega⟩ (by omega) (Ss [3, 0] 0 (by kernel_rfl) rfl))))))))
  | false =>
   refine Ci true rfl (Cs (Cg (Jq 1 [2] 0 ⟨[(2, vB false)], []⟩ (Ln (Qn (Cr (Qb (Qr (Qr (Qb (Qr (Rt (.inl rfl) [vB false] rfl (fun bs w hS => (⟨?_, hS.kp⟩))))))))))))))
   rw [mName_bad (i := i) (by omega) (by simp only [inB, nameBad, Bool.and_eq_false_iff, Bool.or_eq_true, decide_eq_true_eq, decide_eq_false_iff_not] at *; omega)]
   rfl
 | false =>
  have h1 := of_decide_eq_false h1
  refine Ci false rfl (c_exit (Qe (Qe (Qh (Qn (Cs (Cg (Jq 2 [17] 0 ⟨[(17, vI (s.size : Int))], []⟩ (Lp 68 [] [vI (s.size : Int), vI 1, vI 6] (.bool (inB (s.size : Int) 1 6)) Try.call68 rfl rfl rfl rfl (fun bs w hS => ref_In _ _ _ w) (Jq 1 [2] 0 ⟨[(2, vB (inB (s.size : Int) 1 6))], []⟩ (Ln (Qn (Cr (Rt (.inl rfl) [vB (inB (s.size : Int) 1 6)] rfl (fun bs w hS => (⟨?_, hS.kp⟩))))))))))))))))
  simp only [retOf, den, List.map_cons, List.map_nil, mName_good fun j hj => hI j (by omega)]

theorem lock_client (n : Int) (w : World) : Calls Try.prog 71 #[.int .i64 n] w fun e w' => e = .returned (.bool (inB n 1 9)) ∧ Kp [] w w' := by
 refine calls_J0 9 Try.func71 rfl rfl [.int .i64 n] rfl ?_
 refine Cs (Cg (Jq 1 [0] 0 ⟨[(0, vI n)], []⟩ (Ln (Qn (Cs (Cg (Jq 3 [5, 0] 0 ⟨[(5, vB (decide ((1 : Int) ≤ n))), (0, vI n)], []⟩ ?_)))))))
 cases h1 : decide ((1 : Int) ≤ n) with
 | true =>
  have h1 := of_decide_eq_true h1
  refine Jq 4 [2] 0 ⟨[(2, vB (decide (n ≤ 9)))], []⟩ (Ln (Qn (Cr (Rt (.inl rfl) [vB (decide (n ≤ 9))] rfl (fun bs w hS => ?_)))))
  exact ⟨by simp [retOf, den, inB, h1], hS.kp⟩
 | false =>
  have h1 := of_decide_eq_false h1
  refine Jq 4 [2] 0 ⟨[(2, vB false)], []⟩ (Ln (Qn (Cr (Rt (.inl rfl) [vB false] rfl (fun bs w hS => ?_)))))
  exact ⟨by simp [retOf, den, inB, h1], hS.kp⟩

theorem idx_ints {B : Nat → Prop} (s : Sl Int) (k : Nat) (n : Int) (w : World) (hs : s.rd B w) (hk : k ≤ s.n) : Calls Try.prog 73 #[.slice s.A k s.c, .int .i64 n] w fun e w' => e = .returned (.int .i64 (mIdx (fun z => decide (z = n)) (s.xs.take k))) ∧ Kp [] w w' := by
 have oks := Sl.rd.ok hs
 have ncs := Sl.ok.nc oks
 have hns : s.n = s.xs.length := rfl
 refine calls_J0 19 Try.func73 rfl rfl [.slice s.A k s.c, .int .i64 n] rfl ?_
 refine Cs (Cg (Jq 1 [0, 1] 0 ⟨[(0, .v (.slice s.A k s.c)), (1, vI n)], []⟩ (Ln (Qn (Cs (Cs (Cg (Jq 3 [8, 7, 0, 1] 0 ⟨[(8, vI 0), (7, vI (k : Int)), (0, .v (.slice s.A k s.c)), (1, vI n)], []⟩ (Ln (Qn (Cb (Cl (σ := Nat) (fun i => i ≤ k ∧ ∀ j, j < i → decide (s.at j = n) = false) (fun i => k - i) (fun i => []) (fun i => ⟨[(8, vI (i : Int)), (7, vI (k : Int)), (0, .v (.slice s.A k s.c)), (1, vI n)], []⟩) 0 ⟨Nat.zero_le _, fun j hj => absurd hj (Nat.not_lt_zero _)⟩ (Ss [8, 7, 0, 1] 0 (by kernel_rfl) rfl) ?_))))))))))))
 rintro i ⟨hi, hI⟩
 refine Cs (Cg (Jq 1 [9, 8, 7, 0, 1] 0 ⟨[(9, vB (decide ((i : Int) < (k : Int)))), (8, vI (i : Int)), (7, vI (k : Int)), (0, .v (.slice s.A k s.c)), (1, vI n)], []⟩ (Ln (Qn (Cs ?_)))))
 cases h1 : decide ((i : Int) < (k : Int)) with
 | true =>
  have h1 := of_decide_eq_true h1
  refine Ci true rfl (Ck (Qn (Cs (Cb (Cs (Cg (Jq 2 [5, 8, 7, 0, 1] 0 ⟨[(5, vI (i : Int)), (8, vI (i : Int)), (7, vI (k : Int)), (0, .v (.slice s.A k s.c)), (1, vI n)], []⟩ (Ln (Qn (Cs (Cg (Jr 6 [(3, .idx s.ad i), (4, .ext [.int .i64 (s.at i)])] [16, 5, 8, 7, 0, 1] 0 ⟨[(16, vB (decide (n = (s.at i)))), (5, vI (i : Int)), (8, vI (i : Int)), (7, vI (k : Int)), (0, .v (.slice s.A k s.c)), (1, vI n)], []⟩ [s.A = some s.ad, (i : Int) = (i : Int), i < k] [(s.ad.add (i * 1), [.int .i64 (s.at i)])] (by kernel_rfl) (oc (Sl.ok.own (s := s) (i := i) oks (by omega)) (oc rfl (oc (by omega) on))) (fun w hk hr => ⟨(Sl.rd.all (s := s) (i := i) (Sl.rd.kp hs hk) (by omega) rfl), trivial⟩) (Ln (Qn ?_))))))))))))))
  cases h2 : decide (n = (s.at i)) with
  | true =>
   have h2 := of_decide_eq_true h2
   refine Ci true rfl (Cs (Cg (Jq 2 [4] 0 ⟨[(4, vI (i : Int))], []⟩ (Ln (Qn (Cr (Qb (Qr (Qr (Qb (Qr (Rt (.inl rfl) [vI (i : Int)] rfl (fun bs w hS => (⟨?_, hS.kp⟩))))))))))))))
   rw [mIdxT_here (i := i) hk (by omega) (decide_eq_true (by omega)) hI]
   rfl
  | false =>
   have h2 := of_decide_eq_false h2
   refine Ci false rfl (Ck (q_block_normal (Qn (Cg (Jr 2 [] [8, 7, 0, 1] 0 ⟨[(8, vI ((i : Int) + 1)), (7, vI (k : Int)), (0, .v (.slice s.A k s.c)), (1, vI n)], []⟩ [inR ((i : Int) + 1)] [] (by kernel_rfl) (oc (by unfold inR; omega) on) wn (Ln (q_loop (x := (i : Nat)) ((i + 1) : Nat) ⟨by omega, fun j hj => by rcases Nat.lt_succ_iff_lt_or_eq.1 hj with h | h; exact hI j h; subst h; exact decide_eq_false (fun e => by omega)⟩ (by omega) (Ss [8, 7, 0, 1] 0 (by kernel_rfl) rfl))))))))
 | false =>
  have h1 := of_decide_eq_false h1
  refine Ci false rfl (c_exit (Qe (Qe (Qh (Qn (Cs (Cg (Jq 1 [4] 0 ⟨[(4, vI (-1))], []⟩ (Ln (Qn (Cr (Rt (.inl rfl) [vI (-1)] rfl (fun bs w hS => (⟨?_, hS.kp⟩))))))))))))))
  rw [mIdxT_none hk fun j hj => hI j (by omega)]
  rfl

theorem has_ints {B : Nat → Prop} (s : Sl Int) (k : Nat) (n : Int) (w : World) (hs : s.rd B w) (hk : k ≤ s.n) : Calls Try.prog 112 #[.slice s.A k s.c, .int .i64 n] w fun e w' => e = .returned (.bool ((s.xs.take k).any fun z => decide (z = n))) ∧ Kp [] w w' := by
 have oks := Sl.rd.ok hs
 have ncs := Sl.ok.nc oks
 have hns : s.n = s.xs.length := rfl
 refine calls_J0 9 Try.func112 rfl rfl [.slice s.A k s.c, .int .i64 n] rfl ?_
 refine Cs (Cg (Jq 1 [0, 1] 0 ⟨[(0, .v (.slice s.A k s.c)), (1, vI n)], []⟩ (Ln (Qn (Cs (Cg (Jq 2 [6, 5] 0 ⟨[(6, vI n), (5, .v (.slice s.A k s.c))], []⟩ (Lp 73 [] [.v (.slice s.A k s.c), vI n] (.int .i64 (mIdx (fun z => decide (z = n)) (s.xs.take k))) Try.call73 rfl rfl rfl rfl (fun bs w hS => idx_ints s k n w (Sl.rd.kp hs hS.kp) (by omega)) (Jq 2 [4] 0 ⟨[(4, vB (decide ((0 : Int) ≤ mIdx (fun z => decide (z = n)) (s.xs.take k))))], []⟩ (Ln (Qn (Cr (Rt (.inl rfl) [vB (decide ((0 : Int) ≤ mIdx (fun z => decide (z = n)) (s.xs.take k)))] rfl (fun bs w hS => (⟨?_, hS.kp⟩)))))))))))))))
 simp only [retOf, den, List.map_cons, List.map_nil, mIdx_nonneg]

theorem ref_has {B : Nat → Prop} (s : Sl Int) (k : Nat) (n : Int) (w : World) (hs : s.rd B w) (hk : k ≤ s.n) : Calls Try.prog 97 #[.slice s.A k s.c, .int .i64 n] w fun e w' => e = .returned (.bool ((s.xs.take k).any fun z => decide (z = n))) ∧ Kp [] w w' := by
 have oks := Sl.rd.ok hs
 have ncs := Sl.ok.nc oks
 have hns : s.n = s.xs.length := rfl
 refine calls_J0 18 Try.func97 rfl rfl [.slice s.A k s.c, .int .i64 n] rfl ?_
 refine Cs (Cg (Jq 1 [0, 1] 0 ⟨[(0, .v (.slice s.A k s.c)), (1, vI n)], []⟩ (Ln (Qn (Cs (Cs (Cg (Jq 1 [5, 0, 1] 0 ⟨[(5, vI 0), (0, .v (.slice s.A k s.c)), (1, vI n)], []⟩ (Ln (Qn (Cb (Cl (σ := Nat) (fun i => i ≤ k ∧ ∀ j, j < i → ¬ s.at j = n) (fun i => k - i) (fun i => []) (fun i => ⟨[(5, vI (i : Int)), (0, .v (.slice s.A k s.c)), (1, vI n)], []⟩) 0 ⟨Nat.zero_le _, fun j hj => absurd hj (Nat.not_lt_zero _)⟩ (Ss [5, 0, 1] 0 (by kernel_rfl) rfl) ?_))))))))))))
 rintro i ⟨hi, hI⟩
 refine Cs (Cs (Cg (Jq 4 [9, 5, 0, 1] 0 ⟨[(9, vB (decide ((i : Int) < (k : Int)))), (5, vI (i : Int)), (0, .v (.slice s.A k s.c)), (1, vI n)], []⟩ (Ln (Qn ?_)))))
 cases h1 : decide ((i : Int) < (k : Int)) with
 | true =>
  have h1 := of_decide_eq_true h1
  refine Ci true rfl (Ck (Qn (Cs (Cb (Cs (Cg (Jr 6 [(2, .idx s.ad i), (3, .ext [.int .i64 (s.at i)])] [17, 5, 0, 1] 0 ⟨[(17, vB (decide ((s.at i) = n))), (5, vI (i : Int)), (0, .v (.slice s.A k s.c)), (1, vI n)], []⟩ [s.A = some s.ad, (i : Int) = (i : Int), i < k] [(s.ad.add (i * 1), [.int .i64 (s.at i)])] (by kernel_rfl) (oc (Sl.ok.own (s := s) (i := i) oks (by omega)) (oc rfl (oc (by omega) on))) (fun w hk hr => ⟨(Sl.rd.all (s := s) (i := i) (Sl.rd.kp hs hk) (by omega) rfl), trivial⟩) (Ln (Qn ?_)))))))))
  cases h2 : decide ((s.at i) = n) with
  | true =>
   have h2 := of_decide_eq_true h2
   refine Ci true rfl (Cs (Cg (Jq 1 [4] 0 ⟨[(4, vB true)], []⟩ (Ln (Qn (Cr (Qb (Qr (Qr (Qb (Qr (Rt (.inl rfl) [vB true] rfl (fun bs w hS => (⟨?_, hS.kp⟩))))))))))))))
   rw [any_here (j := i) hk (by omega) (by assumption)]
   rfl
  | false =>
   have h2 := of_decide_eq_false h2
   refine Ci false rfl (Ck (q_block_normal (Qn (Cg (Jr 3 [] [5, 0, 1] 0 ⟨[(5, vI ((i : Int) + 1)), (0, .v (.slice s.A k s.c)), (1, vI n)], []⟩ [inR ((i : Int) + 1)] [] (by kernel_rfl) (oc (by unfold inR; omega) on) wn (Ln (q_loop (x := (i : Nat)) ((i + 1) : Nat) ⟨by omega, fun j hj => by rcases Nat.lt_succ_iff_lt_or_eq.1 hj with h | h; exact hI j h; subst h; assumption⟩ (by omega) (Ss [5, 0, 1] 0 (by kernel_rfl) rfl))))))))
 | false =>
  have h1 := of_decide_eq_false h1
  refine Ci false rfl (c_exit (Qe (Qe (Qh (Qn (Cs (Cg (Jq 1 [4] 0 ⟨[(4, vB false)], []⟩ (Ln (Qn (Cr (Rt (.inl rfl) [vB false] rfl (fun bs w hS => (⟨?_, hS.kp⟩))))))))))))))
  rw [any_none hk fun j hj => hI j (by omega)]
  rfl

theorem lock_line {B : Nat → Prop} (x : CLock) (w : World) (hx : Rds.sub B w x) : Calls Try.prog 95 #[.agg #[.string x.name, .int .i64 x.holder, .int .i64 x.fence, .slice x.line.A x.line.n x.line.c]] w fun e w' => e = .returned (.bool (lineOk x.abs)) ∧ Kp [] w w' := by
 have okx := Rds.okof hx
 have ncx := Sl.ok.nc okx.2
 have hnx : x.line.n = x.line.xs.length := rfl
 have hll : x.abs.line.length = x.line.n := rfl
 have hho : x.abs.holder = x.holder := rfl
 have hp : ∀ q, posOk x.abs q = (inB (x.line.at q) 1 9 && (!decide (x.line.at q = x.holder) && !((x.line.xs.take q).any fun z => decide (z = x.line.at q)))) := fun _ => rfl
 refine calls_J0 46 Try.func95 rfl rfl [.agg #[.string x.name, .int .i64 x.holder, .int .i64 x.fence, .slice x.line.A x.line.n x.line.c]] rfl ?_
 refine Cs (Cg (Jq 2 [1] 1 ⟨[(1, .p 0 0)], [⟨89, x.cs⟩]⟩ (Ln (Qn (Cs (Cs (Cg (Jq 4 [8, 7, 6, 1] 1 ⟨[(8, vI 0), (7, vI ((x.line.n : Nat) : Int)), (6, .v x.line.val), (1, .p 0 0)], [⟨89, x.cs⟩]⟩ (Ln (Qn (Cb (Cl (σ := Nat) (fun i => i ≤ x.line.n ∧ allTo (posOk x.abs) i = true) (fun i => x.line.n - i) (fun i => []) (fun i => ⟨[(8, vI (i : Int)), (7, vI ((x.line.n : Nat) : Int)), (6, .v x.line.val), (1, .p 0 0)], [⟨89, x.cs⟩]⟩) 0 ⟨Nat.zero_le _, rfl⟩ (Ss [8, 7, 6, 1] 1 (by kernel_rfl) rfl) ?_))))))))))))
 rintro i ⟨hi, hI⟩
 refine Cs (Cg (Jq 1 [9, 8, 7, 6, 1] 1 ⟨[(9, vB (decide ((i : Int) < ((x.line.n : Nat) : Int)))), (8, vI (i : Int)), (7, vI ((x.line.n : Nat) : Int)), (6, .v x.line.val), (1, .p 0 0)], [⟨89, x.cs⟩]⟩ (Ln (Qn (Cs ?_)))))
 cases h1 : decide ((i : Int) < ((x.line.n : Nat) : Int)) with
 | true =>
  have h1 := of_decide_eq_true h1
  refine Ci true rfl (Ck (Qn (Cs (Cb (Cs (Cg (Jr 5 [(1, .idx x.line.ad i), (2, .ext [.int .i64 (x.line.at i)])] [4, 3, 8, 7, 6, 1] 1 ⟨[(4, vI (x.line.at i)), (3, vI (i : Int)), (8, vI (i : Int)), (7, vI ((x.line.n : Nat) : Int)), (6, .v x.line.val), (1, .p 0 0)], [⟨89, x.cs⟩]⟩ [x.line.A = some x.line.ad, (i : Int) = (i : Int), i < x.line.n] [(x.line.ad.add (i * 1), [.int .i64 (x.line.at i)])] (by kernel_rfl) (oc (Sl.ok.own (s := x.line) (i := i) (And.right okx) (by omega)) (oc rfl (oc (by omega) on))) (fun w hk hr => ⟨(Sl.rd.all (s := x.line) (i := i) (And.right (Rds.kp hx hk)) (by omega) rfl), trivial⟩) (Ln (Qn (Cs (Cg (Jq 1 [13, 4, 3, 8, 7, 6, 1] 1 ⟨[(13, vI (x.line.at i)), (4, vI (x.line.at i)), (3, vI (i : Int)), (8, vI (i : Int)), (7, vI ((x.line.n : Nat) : Int)), (6, .v x.line.val), (1, .p 0 0)], [⟨89, x.cs⟩]⟩ (Lp 71 [] [vI (x.line.at i)] (.bool (inB (x.line.at i) 1 9)) Try.call71 rfl rfl rfl rfl (fun bs w hS => lock_client (x.line.at i) w) (Jq 2 [16, 4, 3, 8, 7, 6, 1] 1 ⟨[(16, vB (!(inB (x.line.at i) 1 9))), (4, vI (x.line.at i)), (3, vI (i : Int)), (8, vI (i : Int)), (7, vI ((x.line.n : Nat) : Int)), (6, .v x.line.val), (1, .p 0 0)], [⟨89, x.cs⟩]⟩ ?_))))))))))))))
  cases h2 : inB (x.line.at i) 1 9 with
  | true =>
   refine Jq 6 [22, 4, 3, 8, 7, 6, 1] 1 ⟨[(22, vB (decide ((x.line.at i) = x.holder))), (4, vI (x.line.at i)), (3, vI (i : Int)), (8, vI (i : Int)), (7, vI ((x.line.n : Nat) : Int)), (6, .v x.line.val), (1, .p 0 0)], [⟨89, x.cs⟩]⟩ ?_
   cases h3 : decide ((x.line.at i) = x.holder) with
   | true =>
    have h3 := of_decide_eq_true h3
    refine Jq 7 [29, 8, 7, 6, 1] 1 ⟨[(29, vB true), (8, vI (i : Int)), (7, vI ((x.line.n : Nat) : Int)), (6, .v x.line.val), (1, .p 0 0)], [⟨89, x.cs⟩]⟩ (Ln (Qn (Ci true rfl (Cs (Cg (Jq 1 [2] 0 ⟨[(2, vB false)], []⟩ (Ln (Qn (Cr (Qb (Qr (Qr (Qb (Qr (Rt (.inl rfl) [vB false] rfl (fun bs w hS => (⟨?_, hS.kp⟩)))))))))))))))))
    have hb : posOk x.abs i = false := by rw [hp]; simp [h1, h2, h3]
    have hm : lineOk x.abs = false := by unfold lineOk; rw [allTo_bad hb (show i < x.abs.line.length by rw [hll]; omega)]; rfl
    rw [hm]
    rfl
   | false =>
    have h3 := of_decide_eq_false h3
    refine Jr 5 [(3, .sl 0 i)] [27, 26, 22, 8, 7, 6, 1] 1 ⟨[(27, vI (x.line.at i)), (26, .v (.slice x.line.A i x.line.c)), (22, vB false), (8, vI (i : Int)), (7, vI ((x.line.n : Nat) : Int)), (6, .v x.line.val), (1, .p 0 0)], [⟨89, x.cs⟩]⟩ [0 = 0, (i : Int) = (i : Int), i ≤ x.line.c] [] (by kernel_rfl) (oc rfl (oc rfl (oc (by omega) on))) wn ?_
    refine Lp 112 [] [.v (.slice x.line.A i x.line.c), vI (x.line.at i)] (.bool ((x.line.xs.take i).any fun z => decide (z = (x.line.at i)))) Try.call112 rfl rfl rfl rfl (fun bs w hS => has_ints x.line i (x.line.at i) w (And.right (Rds.kp hx hS.kp)) (by omega)) ?_
    refine Jq 1 [29, 8, 7, 6, 1] 1 ⟨[(29, vB ((x.line.xs.take i).any fun z => decide (z = (x.line.at i)))), (8, vI (i : Int)), (7, vI ((x.line.n : Nat) : Int)), (6, .v x.line.val), (1, .p 0 0)], [⟨89, x.cs⟩]⟩ (Ln (Qn ?_))
    cases h4 : (x.line.xs.take i).any fun z => decide (z = (x.line.at i)) with
    | true =>
     refine Ci true rfl (Cs (Cg (Jq 1 [2] 0 ⟨[(2, vB false)], []⟩ (Ln (Qn (Cr (Qb (Qr (Qr (Qb (Qr (Rt (.inl rfl) [vB false] rfl (fun bs w hS => (⟨?_, hS.kp⟩))))))))))))))
     have hb : posOk x.abs i = false := by rw [hp]; simp [h1, h2, h3, h4]
     have hm : lineOk x.abs = false := by unfold lineOk; rw [allTo_bad hb (show i < x.abs.line.length by rw [hll]; omega)]; rfl
     rw [hm]
     rfl
    | false =>
     refine Ci false rfl (Ck (q_block_normal (Qn (Cg (Jr 2 [] [8, 7, 6, 1] 1 ⟨[(8, vI ((i : Int) + 1)), (7, vI ((x.line.n : Nat) : Int)), (6, .v x.line.val), (1, .p 0 0)], [⟨89, x.cs⟩]⟩ [inR ((i : Int) + 1)] [] (by kernel_rfl) (oc (by unfold inR; omega) on) wn (Ln (q_loop (x := (i : Nat)) ((i + 1) : Nat) ⟨by omega, by show (allTo _ i && posOk x.abs i) = true; rw [hI, hp]; simp [*]⟩ (by omega) (Ss [8, 7, 6, 1] 1 (by kernel_rfl) rfl))))))))
  | false =>
   refine Jq 13 [29, 8, 7, 6, 1] 1 ⟨[(29, vB true), (8, vI (i : Int)), (7, vI ((x.line.n : Nat) : Int)), (6, .v x.line.val), (1, .p 0 0)], [⟨89, x.cs⟩]⟩ (Ln (Qn (Ci true rfl (Cs (Cg (Jq 1 [2] 0 ⟨[(2, vB false)], []⟩ (Ln (Qn (Cr (Qb (Qr (Qr (Qb (Qr (Rt (.inl rfl) [vB false] rfl (fun bs w hS => (⟨?_, hS.kp⟩)))))))))))))))))
   have hb : posOk x.abs i = false := by rw [hp]; simp [h1, h2]
   have hm : lineOk x.abs = false := by unfold lineOk; rw [allTo_bad hb (show i < x.abs.line.length by rw [hll]; omega)]; rfl
   rw [hm]
   rfl
 | false =>
  have h1 := of_decide_eq_false h1
  refine Ci false rfl (c_exit (Qe (Qe (Qh (Qn (Cs (Cg (Jq 5 [35, 1] 1 ⟨[(35, vB (decide (((x.line.n : Nat) : Int) ≤ 3))), (1, .p 0 0)], [⟨89, x.cs⟩]⟩ ?_))))))))
  cases h5 : decide (((x.line.n : Nat) : Int) ≤ 3) with
  | true =>
   have h5 := of_decide_eq_true h5
   refine Jq 4 [39, 35, 1] 1 ⟨[(39, vB (!(decide (x.holder = 0)))), (35, vB true), (1, .p 0 0)], [⟨89, x.cs⟩]⟩ ?_
   cases h6 : decide (x.holder = 0) with
   | true =>
    have h6 := of_decide_eq_true h6
    refine Jq 7 [2] 0 ⟨[(2, vB (decide (((x.line.n : Nat) : Int) = 0)))], []⟩ (Ln (Qn (Cr (Rt (.inl rfl) [vB (decide (((x.line.n : Nat) : Int) = 0))] rfl (fun bs w hS => (⟨?_, hS.kp⟩))))))
    have hall : allTo (posOk x.abs) x.line.n = true := by rw [show x.line.n = i by omega]; exact hI
    have hm : lineOk x.abs = (decide (((x.line.n : Nat) : Int) = 0)) := by
     rw [Bool.eq_iff_iff]
     simp only [lineOk, hll, hho, hall, Bool.true_and, Bool.and_eq_true, Bool.or_eq_true, Bool.not_eq_true', decide_eq_true_eq, decide_eq_false_iff_not, Bool.false_eq_true, iff_true, iff_false]
     omega
    rw [hm]
    rfl
   | false =>
    have h6 := of_decide_eq_false h6
    refine Jq 7 [2] 0 ⟨[(2, vB true)], []⟩ (Ln (Qn (Cr (Rt (.inl rfl) [vB true] rfl (fun bs w hS => (⟨?_, hS.kp⟩))))))
    have hall : allTo (posOk x.abs) x.line.n = true := by rw [show x.line.n = i by omega]; exact hI
    have hm : lineOk x.abs = (true) := by
     rw [Bool.eq_iff_iff]
     simp only [lineOk, hll, hho, hall, Bool.true_and, Bool.and_eq_true, Bool.or_eq_true, Bool.not_eq_true', decide_eq_true_eq, decide_eq_false_iff_not, Bool.false_eq_true, iff_true, iff_false]
     omega
    rw [hm]
    rfl
  | false =>
   have h5 := of_decide_eq_false h5
   refine Jq 11 [2] 0 ⟨[(2, vB false)], []⟩ (Ln (Qn (Cr (Rt (.inl rfl) [vB false] rfl (fun bs w hS => (⟨?_, hS.kp⟩))))))
   have hall : allTo (posOk x.abs) x.line.n = true := by rw [show x.line.n = i by omega]; exact hI
   have hm : lineOk x.abs = (false) := by
    rw [Bool.eq_iff_iff]
    simp only [lineOk, hll, hho, hall, Bool.true_and, Bool.and_eq_true, Bool.or_eq_true, Bool.not_eq_true', decide_eq_true_eq, decide_eq_false_iff_not, Bool.false_eq_true, iff_true, iff_false]
    omega
   rw [hm]
   rfl

theorem lock_Check {B : Nat → Prop} (s : Sl CLock) (w : World) (hs : s.rd B w) : Calls Try.prog 52 #[.slice s.A s.n s.c] w fun e w' => e = .returned (.int .i64 (mLocks (s.xs.map CLock.abs))) ∧ Kp [] w w' := by
 have oks := Sl.rd.ok hs
 have ncs := Sl.ok.nc oks
 have hns : s.n = s.xs.length := rfl
 have hat : ∀ q, (s.xs.map CLock.abs).getD q default = (s.at q).abs := fun q => abs_at q
 have hq1 : ∀ q, (s.at q).abs.name = (s.at q).name := fun _ => rfl
 have hq2 : ∀ q, (s.at q).abs.holder = (s.at q).holder := fun _ => rfl
 have hq3 : ∀ q, (s.at q).abs.fence = (s.at q).fence := fun _ => rfl
 have hml : (s.xs.map CLock.abs).length = s.n := by simp
 refine calls_J0 57 Try.func52 rfl rfl [.slice s.A s.n s.c] rfl ?_
 refine Cs (Cg (Jq 1 [0] 0 ⟨[(0, .v s.val)], []⟩ (Ln (Qn (Cs (Cs (Cg (Jq 3 [7, 0] 0 ⟨[(7, vB (decide ((5 : Int) < ((s.n : Nat) : Int)))), (0, .v s.val)], []⟩ (Ln (Qn ?_))))))))))
 cases h1 : decide ((5 : Int) < ((s.n : Nat) : Int)) with
 | true =>
  have h1 := of_decide_eq_true h1
  refine Ci true rfl (Cs (Cg (Jq 1 [2] 0 ⟨[(2, vI 1)], []⟩ (Ln (Qn (Cr (Qr (Rt (.inl rfl) [vI 1] rfl (fun bs w hS => (⟨?_, hS.kp⟩))))))))))
  simp only [retOf, den, List.map_cons, List.map_nil]
  have hm : mLocks (s.xs.map CLock.abs) = 1 := by
   unfold mLocks; rw [hml, if_pos (by omega)]
  rw [hm]
 | false =>
  have h1 := of_decide_eq_false h1
  refine Ci false rfl (Ck (Qn (Cs (Cs (Cg (Jq 3 [10, 9, 8, 0] 0 ⟨[(10, vI 0), (9, vI ((s.n : Nat) : Int)), (8, .v s.val), (0, .v s.val)], []⟩ (Ln (Qn (Cb (Cl (σ := Nat) (fun i => i ≤ s.n ∧ mLocks (s.xs.map CLock.abs) = firstF (lockF (s.xs.map CLock.abs)) (s.n - i) i) (fun i => s.n - i) (fun i => []) (fun i => ⟨[(10, vI (i : Int)), (9, vI ((s.n : Nat) : Int)), (8, .v s.val), (0, .v s.val)], []⟩) 0 ⟨Nat.zero_le _, by unfold mLocks; rw [hml, if_neg (by omega)]⟩ (Ss [10, 9, 8, 0] 0 (by kernel_rfl) rfl) ?_))))))))))
  rintro i ⟨hi, hI⟩
  refine Cs (Cg (Jq 1 [11, 10, 9, 8, 0] 0 ⟨[(11, vB (decide ((i : Int) < ((s.n : Nat) : Int)))), (10, vI (i : Int)), (9, vI ((s.n : Nat) : Int)), (8, .v s.val), (0, .v s.val)], []⟩ (Ln (Qn (Cs ?_)))))
  cases h2 : decide ((i : Int) < ((s.n : Nat) : Int)) with
  | true =>
   have h2 := of_decide_eq_true h2
   refine Ci true rfl (Ck (Qn (Cs (Cb (Cs (Cg (Jr 6 [(1, .idx s.ad i), (2, .ext [.string (s.at i).name, .int .i64 (s.at i).holder, .int .i64 (s.at i).fence, .slice (s.at i).line.A (s.at i).line.n (s.at i).line.c])] [3, 4, 10, 9, 8, 0] 1 ⟨[(3, vI (i : Int)), (4, .p 0 0), (10, vI (i : Int)), (9, vI ((s.n : Nat) : Int)), (8, .v s.val), (0, .v s.val)], [⟨89, (s.at i).cs⟩]⟩ [s.A = some s.ad, (i : Int) = (i : Int), i < s.n] [(s.ad.add (i * 4), [.string (s.at i).name, .int .i64 (s.at i).holder, .int .i64 (s.at i).fence, .slice (s.at i).line.A (s.at i).line.n (s.at i).line.c])] (by kernel_rfl) (oc (Sl.ok.own (s := s) (i := i) oks (by omega)) (oc rfl (oc (by omega) on))) (fun w hk hr => ⟨(Sl.rd.all (s := s) (i := i) (Sl.rd.kp hs hk) (by omega) rfl), trivial⟩) (Ln (Qn (Cs (Cs (Cg (Jq 2 [16, 3, 4, 10, 9, 8, 0] 1 ⟨[(16, vS (s.at i).name), (3, vI (i : Int)), (4, .p 0 0), (10, vI (i : Int)), (9, vI ((s.n : Nat) : Int)), (8, .v s.val), (0, .v s.val)], [⟨89, (s.at i).cs⟩]⟩ (Lp 92 [] [vS (s.at i).name] (.bool (mName (s.at i).name)) Try.call92 rfl rfl rfl rfl (fun bs w hS => lock_Name _ w (And.left (Sl.ok.at (s := s) (i := i) oks (by omega)))) (Jq 2 [19, 3, 4, 10, 9, 8, 0] 1 ⟨[(19, vB (!(mName (s.at i).name))), (3, vI (i : Int)), (4, .p 0 0), (10, vI (i : Int)), (9, vI ((s.n : Nat) : Int)), (8, .v s.val), (0, .v s.val)], [⟨89, (s.at i).cs⟩]⟩ ?_)))))))))))))))
   cases h3 : mName (s.at i).name with
   | true =>
    refine Jq 4 [23, 19, 3, 4, 10, 9, 8, 0] 1 ⟨[(23, vB (!(decide ((s.at i).holder = 0)))), (19, vB false), (3, vI (i : Int)), (4, .p 0 0), (10, vI (i : Int)), (9, vI ((s.n : Nat) : Int)), (8, .v s.val), (0, .v s.val)], [⟨89, (s.at i).cs⟩]⟩ ?_
    cases h4 : decide ((s.at i).holder = 0) with
    | true =>
     have h4 := of_decide_eq_true h4
     refine Jq 8 [31, 30, 3, 4, 10, 9, 8, 0] 1 ⟨[(31, .v (s.at i).val), (30, vB false), (3, vI (i : Int)), (4, .p 0 0), (10, vI (i : Int)), (9, vI ((s.n : Nat) : Int)), (8, .v s.val), (0, .v s.val)], [⟨89, (s.at i).cs⟩]⟩ (Lp 95 [] [.v (s.at i).val] (.bool (lineOk (s.at i).abs)) Try.call95 rfl rfl rfl rfl (fun bs w hS => lock_line (s.at i) w (Sl.rd.sub (s := s) (i := i) (Sl.rd.kp hs hS.kp) (by omega))) (Jq 2 [34, 3, 4, 10, 9, 8, 0] 1 ⟨[(34, vB (!(lineOk (s.at i).abs))), (3, vI (i : Int)), (4, .p 0 0), (10, vI (i : Int)), (9, vI ((s.n : Nat) : Int)), (8, .v s.val), (0, .v s.val)], [⟨89, (s.at i).cs⟩]⟩ (Ln (Qn ?_))))
     cases h5 : lineOk (s.at i).abs with
     | true =>
      refine Ci false rfl (Ck (Qn (Cs (Cs (Cg (Jq 4 [38, 3, 4, 10, 9, 8, 0] 1 ⟨[(38, vB (decide ((s.at i).fence < 1))), (3, vI (i : Int)), (4, .p 0 0), (10, vI (i : Int)), (9, vI ((s.n : Nat) : Int)), (8, .v s.val), (0, .v s.val)], [⟨89, (s.at i).cs⟩]⟩ ?_))))))
      cases h6 : decide ((s.at i).fence < 1) with
      | true =>
       have h6 := of_decide_eq_true h6
       refine Jq 4 [42, 3, 4, 10, 9, 8, 0] 1 ⟨[(42, vB true), (3, vI (i : Int)), (4, .p 0 0), (10, vI (i : Int)), (9, vI ((s.n : Nat) : Int)), (8, .v s.val), (0, .v s.val)], [⟨89, (s.at i).cs⟩]⟩ (Ln (Qn (Ci true rfl (Cs (Cg (Jq 1 [2] 0 ⟨[(2, vI 2)], []⟩ (Ln (Qn (Cr (Qr (Qb (Qr (Qr (Qb (Qr (Rt (.inl rfl) [vI 2] rfl (fun bs w hS => (⟨?_, hS.kp⟩))))))))))))))))))
       simp only [retOf, den, List.map_cons, List.map_nil]
       have hf : lockF (s.xs.map CLock.abs) i = 2 := by
        unfold lockF
        simp only [hat, hq1, hq2, hq3]
        try simp only [h1, h2, h3, h4, h5, h6, emp_size, ne_eq, not_true_eq_false, not_false_eq_true, true_or, or_true, false_or, or_false, and_true, true_and, and_false, false_and, and_self, or_self, if_true, if_false, Bool.true_eq_false, Bool.false_eq_true, reduceIte, Classical.not_not, Bool.and_eq_true, decide_eq_true_eq]
        repeat (first | rw [if_pos (by omega)] | rw [if_neg (by omega)])
        all_goals first | rfl | (exfalso; omega)
       rw [hI, firstF_here (by omega) hf (by omega)]
      | false =>
       have h6 := of_decide_eq_false h6
       refine Jq 4 [42, 3, 4, 10, 9, 8, 0] 1 ⟨[(42, vB (decide ((1073741824 : Int) < (s.at i).fence))), (3, vI (i : Int)), (4, .p 0 0), (10, vI (i : Int)), (9, vI ((s.n : Nat) : Int)), (8, .v s.val), (0, .v s.val)], [⟨89, (s.at i).cs⟩]⟩ (Ln (Qn ?_))
       cases h7 : decide ((1073741824 : Int) < (s.at i).fence) with
       | true =>
        have h7 := of_decide_eq_true h7
        refine Ci true rfl (Cs (Cg (Jq 1 [2] 0 ⟨[(2, vI 2)], []⟩ (Ln (Qn (Cr (Qr (Qb (Qr (Qr (Qb (Qr (Rt (.inl rfl) [vI 2] rfl (fun bs w hS => (⟨?_, hS.kp⟩)))))))))))))))
        simp only [retOf, den, List.map_cons, List.map_nil]
        have hf : lockF (s.xs.map CLock.abs) i = 2 := by
         unfold lockF
         simp only [hat, hq1, hq2, hq3]
         try simp only [h1, h2, h3, h4, h5, h6, h7, emp_size, ne_eq, not_true_eq_false, not_false_eq_true, true_or, or_true, false_or, or_false, and_true, true_and, and_false, false_and, and_self, or_self, if_true, if_false, Bool.true_eq_false, Bool.false_eq_true, reduceIte, Classical.not_not, Bool.and_eq_true, decide_eq_true_eq]
         repeat (first | rw [if_pos (by omega)] | rw [if_neg (by omega)])
         all_goals first | rfl | (exfalso; omega)
        rw [hI, firstF_here (by omega) hf (by omega)]
       | false =>
        have h7 := of_decide_eq_false h7
        refine Ci false rfl (Ck (Qn (Cs (Cd 13 [] (.p 0 (.p 1 (.p 2 (.p 3 (.p 4 (.p 5 (.p 6 (.p 7 (.q 8 (.p 9 (.q 10 (.p 11 (.p 12 .nil))))))))))))) [] [] Try_mixed (by kernel_rfl) (pq_then (pq_block (pq_then (pq_then (pq_block (pq_then pq_body)))))) .slnil (Hq [] [(0, true), (1, true), (2, true)] [(45, vB (decide ((0 : Int) < (i : Int)))), (44, vB (decide ((0 : Int) < (i : Int)))), (43, vI (i : Int)), (42, vB false), (3, vI (i : Int)), (4, .p 0 0), (10, vI (i : Int)), (9, vI ((s.n : Nat) : Int)), (8, .v s.val), (0, .v s.val)] [] [] rfl (by kernel_rfl) on wn ?_)))))
        cases h8 : decide ((0 : Int) < (i : Int)) with
        | true =>
         have h8 := of_decide_eq_true h8
         refine Hq [(6, .idx s.ad (i - 1)), (8, .ext [.string (s.at (i - 1)).name])] [(3, true), (4, true), (5, true), (6, true), (7, true), (8, false), (9, true), (10, false), (11, true), (12, true)] [(55, vB (!(Op.bytesLess ((s.at (i - 1)).name).toList ((s.at i).name).toList))), (54, vB (!(Op.bytesLess ((s.at (i - 1)).name).toList ((s.at i).name).toList))), (53, vS (s.at i).name), (52, .p 0 0), (51, vS (s.at (i - 1)).name), (50, .v (.pointer (some ((s.ad.add ((i - 1) * 4)).add 0)))), (49, .v (.pointer (some (s.ad.add ((i - 1) * 4))))), (48, vI ((i : Int) - 1)), (47, vI (i : Int)), (46, .v s.val), (45, vB true), (44, vB true), (43, vI (i : Int)), (42, vB false), (3, vI (i : Int)), (4, .p 0 0), (10, vI (i : Int)), (9, vI ((s.n : Nat) : Int)), (8, .v s.val), (0, .v s.val)] [inR ((i : Int) - 1), s.A = some s.ad, (i : Int) - 1 = (((i - 1) : Nat) : Int), (i - 1) < s.n] [((s.ad.add ((i - 1) * 4)).add 0, [.string (s.at (i - 1)).name])] rfl (by kernel_rfl) (oc (by unfold inR; omega) (oc (Sl.ok.own (s := s) (i := (i - 1)) oks (by omega)) (oc (by omega) (oc (by omega) on)))) (fun w hk hr => ⟨(Sl.rd.fld (s := s) (i := (i - 1)) (Sl.rd.kp hs hk) (by omega) 0 1 rfl), trivial⟩) ?_
         refine Hn (Ln (Qn ?_))
         cases h9 : Op.bytesLess ((s.at (i - 1)).name).toList ((s.at i).name).toList with
         | true =>
          refine Ci false rfl (Ck (q_block_normal (Qn (Cg (Jr 2 [] [10, 9, 8, 0] 0 ⟨[(10, vI ((i : Int) + 1)), (9, vI ((s.n : Nat) : Int)), (8, .v s.val), (0, .v s.val)], []⟩ [inR ((i : Int) + 1)] [] (by kernel_rfl) (oc (by unfold inR; omega) on) wn ?_)))))
          have hf0 : lockF (s.xs.map CLock.abs) i = 0 := by
           unfold lockF
           simp only [hat, hq1, hq2, hq3]
           try simp only [h1, h2, h3, h4, h5, h6, h7, h8, h9, emp_size, ne_eq, not_true_eq_false, not_false_eq_true, true_or, or_true, false_or, or_false, and_true, true_and, and_false, false_and, and_self, or_self, if_true, if_false, Bool.true_eq_false, Bool.false_eq_true, reduceIte, Classical.not_not, Bool.and_eq_true, decide_eq_true_eq]
           repeat (first | rw [if_pos (by omega)] | rw [if_neg (by omega)])
           all_goals first | rfl | (exfalso; omega)
          refine Ln (q_loop (x := (i : Nat)) ((i + 1) : Nat) ⟨by omega, by rw [hI]; exact firstF_step (by omega) hf0⟩ (by omega) (Ss [10, 9, 8, 0] 0 (by kernel_rfl) rfl))
         | false =>
          refine Ci true rfl (Cs (Cg (Jq 1 [2] 0 ⟨[(2, vI 14)], []⟩ (Ln (Qn (Cr (Qb (Qr (Qr (Qb (Qr (Rt (.inl rfl) [vI 14] rfl (fun bs w hS => (⟨?_, hS.kp⟩))))))))))))))
          simp only [retOf, den, List.map_cons, List.map_nil]
          have hf : lockF (s.xs.map CLock.abs) i = 14 := by
           unfold lockF
           simp only [hat, hq1, hq2, hq3]
           try simp only [h1, h2, h3, h4, h5, h6, h7, h8, h9, emp_size, ne_eq, not_true_eq_false, not_false_eq_true, true_or, or_true, false_or, or_false, and_true, true_and, and_false, false_and, and_self, or_self, if_true, if_false, Bool.true_eq_false, Bool.false_eq_true, reduceIte, Classical.not_not, Bool.and_eq_true, decide_eq_true_eq]
           repeat (first | rw [if_pos (by omega)] | rw [if_neg (by omega)])
           all_goals first | rfl | (exfalso; omega)
          rw [hI, firstF_here (by omega) hf (by omega)]
        | false =>
         have h8 := of_decide_eq_false h8
         refine Hq [] [(3, true), (4, true), (5, true), (6, true), (7, true), (8, false), (9, true), (10, false), (11, true), (12, true)] [(55, vB false), (54, .v (undef)), (53, .v (undef)), (52, .v (undef)), (51, .v (undef)), (50, .v (undef)), (49, .v (undef)), (48, .v (undef)), (47, .v (undef)), (46, .v (undef)), (45, vB false), (44, vB false), (43, vI (i : Int)), (42, vB false), (3, vI (i : Int)), (4, .p 0 0), (10, vI (i : Int)), (9, vI ((s.n : Nat) : Int)), (8, .v s.val), (0, .v s.val)] [] [] rfl (by kernel_rfl) on wn ?_
         refine Hn (Ln (Qn (Ci false rfl (Ck (q_block_normal (Qn (Cg (Jr 2 [] [10, 9, 8, 0] 0 ⟨[(10, vI ((i : Int) + 1)), (9, vI ((s.n : Nat) : Int)), (8, .v s.val), (0, .v s.val)], []⟩ [inR ((i : Int) + 1)] [] (by kernel_rfl) (oc (by unfold inR; omega) on) wn ?_))))))))
         have hf0 : lockF (s.xs.map CLock.abs) i = 0 := by
          unfold lockF
          simp only [hat, hq1, hq2, hq3]
          try simp only [h1, h2, h3, h4, h5, h6, h7, h8, emp_size, ne_eq, not_true_eq_false, not_false_eq_true, true_or, or_true, false_or, or_false, and_true, true_and, and_false, false_and, and_self, or_self, if_true, if_false, Bool.true_eq_false, Bool.false_eq_true, reduceIte, Classical.not_not, Bool.and_eq_true, decide_eq_true_eq]
          repeat (first | rw [if_pos (by omega)] | rw [if_neg (by omega)])
          all_goals first | rfl | (exfalso; omega)
         refine Ln (q_loop (x := (i : Nat)) ((i + 1) : Nat) ⟨by omega, by rw [hI]; exact firstF_step (by omega) hf0⟩ (by omega) (Ss [10, 9, 8, 0] 0 (by kernel_rfl) rfl))
     | false =>
      refine Ci true rfl (Cs (Cg (Jq 1 [2] 0 ⟨[(2, vI 4)], []⟩ (Ln (Qn (Cr (Qr (Qb (Qr (Qr (Qb (Qr (Rt (.inl rfl) [vI 4] rfl (fun bs w hS => (⟨?_, hS.kp⟩)))))))))))))))
      simp only [retOf, den, List.map_cons, List.map_nil]
      have hf : lockF (s.xs.map CLock.abs) i = 4 := by
       unfold lockF
       simp only [hat, hq1, hq2, hq3]
       try simp only [h1, h2, h3, h4, h5, emp_size, ne_eq, not_true_eq_false, not_false_eq_true, true_or, or_true, false_or, or_false, and_true, true_and, and_false, false_and, and_self, or_self, if_true, if_false, Bool.true_eq_false, Bool.false_eq_true, reduceIte, Classical.not_not, Bool.and_eq_true, decide_eq_true_eq]
       repeat (first | rw [if_pos (by omega)] | rw [if_neg (by omega)])
       all_goals first | rfl | (exfalso; omega)
      rw [hI, firstF_here (by omega) hf (by omega)]
    | false =>
     have h4 := of_decide_eq_false h4
     refine Jq 2 [25, 23, 19, 3, 4, 10, 9, 8, 0] 1 ⟨[(25, vI (s.at i).holder), (23, vB true), (19, vB false), (3, vI (i : Int)), (4, .p 0 0), (10, vI (i : Int)), (9, vI ((s.n : Nat) : Int)), (8, .v s.val), (0, .v s.val)], [⟨89, (s.at i).cs⟩]⟩ (Lp 71 [] [vI (s.at i).holder] (.bool (inB (s.at i).holder 1 9)) Try.call71 rfl rfl rfl rfl (fun bs w hS => lock_client (s.at i).holder w) (Jq 4 [30, 3, 4, 10, 9, 8, 0] 1 ⟨[(30, vB (!(inB (s.at i).holder 1 9))), (3, vI (i : Int)), (4, .p 0 0), (10, vI (i : Int)), (9, vI ((s.n : Nat) : Int)), (8, .v s.val), (0, .v s.val)], [⟨89, (s.at i).cs⟩]⟩ ?_))
     cases h10 : inB (s.at i).holder 1 9 with
     | true =>
      simp only [inB, Bool.and_eq_true, Bool.and_eq_false_iff, decide_eq_true_eq, decide_eq_false_iff_not] at h10
      refine Jq 1 [31, 30, 3, 4, 10, 9, 8, 0] 1 ⟨[(31, .v (s.at i).val), (30, vB false), (3, vI (i : Int)), (4, .p 0 0), (10, vI (i : Int)), (9, vI ((s.n : Nat) : Int)), (8, .v s.val), (0, .v s.val)], [⟨89, (s.at i).cs⟩]⟩ (Lp 95 [] [.v (s.at i).val] (.bool (lineOk (s.at i).abs)) Try.call95 rfl rfl rfl rfl (fun bs w hS => lock_line (s.at i) w (Sl.rd.sub (s := s) (i := i) (Sl.rd.kp hs hS.kp) (by omega))) (Jq 2 [34, 3, 4, 10, 9, 8, 0] 1 ⟨[(34, vB (!(lineOk (s.at i).abs))), (3, vI (i : Int)), (4, .p 0 0), (10, vI (i : Int)), (9, vI ((s.n : Nat) : Int)), (8, .v s.val), (0, .v s.val)], [⟨89, (s.at i).cs⟩]⟩ (Ln (Qn ?_))))
      cases h11 : lineOk (s.at i).abs with
      | true =>
       refine Ci false rfl (Ck (Qn (Cs (Cs (Cg (Jq 4 [38, 3, 4, 10, 9, 8, 0] 1 ⟨[(38, vB (decide ((s.at i).fence < 1))), (3, vI (i : Int)), (4, .p 0 0), (10, vI (i : Int)), (9, vI ((s.n : Nat) : Int)), (8, .v s.val), (0, .v s.val)], [⟨89, (s.at i).cs⟩]⟩ ?_))))))
       cases h12 : decide ((s.at i).fence < 1) with
       | true =>
        have h12 := of_decide_eq_true h12
        refine Jq 4 [42, 3, 4, 10, 9, 8, 0] 1 ⟨[(42, vB true), (3, vI (i : Int)), (4, .p 0 0), (10, vI (i : Int)), (9, vI ((s.n : Nat) : Int)), (8, .v s.val), (0, .v s.val)], [⟨89, (s.at i).cs⟩]⟩ (Ln (Qn (Ci true rfl (Cs (Cg (Jq 1 [2] 0 ⟨[(2, vI 2)], []⟩ (Ln (Qn (Cr (Qr (Qb (Qr (Qr (Qb (Qr (Rt (.inl rfl) [vI 2] rfl (fun bs w hS => (⟨?_, hS.kp⟩))))))))))))))))))
        simp only [retOf, den, List.map_cons, List.map_nil]
        have hf : lockF (s.xs.map CLock.abs) i = 2 := by
         unfold lockF
         simp only [hat, hq1, hq2, hq3]
         try simp only [h1, h2, h3, h4, h10, h11, h12, emp_size, ne_eq, not_true_eq_false, not_false_eq_true, true_or, or_true, false_or, or_false, and_true, true_and, and_false, false_and, and_self, or_self, if_true, if_false, Bool.true_eq_false, Bool.false_eq_true, reduceIte, Classical.not_not, Bool.and_eq_true, decide_eq_true_eq]
         repeat (first | rw [if_pos (by omega)] | rw [if_neg (by omega)])
         all_goals first | rfl | (exfalso; omega)
        rw [hI, firstF_here (by omega) hf (by omega)]
       | false =>
        have h12 := of_decide_eq_false h12
        refine Jq 4 [42, 3, 4, 10, 9, 8, 0] 1 ⟨[(42, vB (decide ((1073741824 : Int) < (s.at i).fence))), (3, vI (i : Int)), (4, .p 0 0), (10, vI (i : Int)), (9, vI ((s.n : Nat) : Int)), (8, .v s.val), (0, .v s.val)], [⟨89, (s.at i).cs⟩]⟩ (Ln (Qn ?_))
        cases h13 : decide ((1073741824 : Int) < (s.at i).fence) with
        | true =>
         have h13 := of_decide_eq_true h13
         refine Ci true rfl (Cs (Cg (Jq 1 [2] 0 ⟨[(2, vI 2)], []⟩ (Ln (Qn (Cr (Qr (Qb (Qr (Qr (Qb (Qr (Rt (.inl rfl) [vI 2] rfl (fun bs w hS => (⟨?_, hS.kp⟩)))))))))))))))
         simp only [retOf, den, List.map_cons, List.map_nil]
         have hf : lockF (s.xs.map CLock.abs) i = 2 := by
          unfold lockF
          simp only [hat, hq1, hq2, hq3]
          try simp only [h1, h2, h3, h4, h10, h11, h12, h13, emp_size, ne_eq, not_true_eq_false, not_false_eq_true, true_or, or_true, false_or, or_false, and_true, true_and, and_false, false_and, and_self, or_self, if_true, if_false, Bool.true_eq_false, Bool.false_eq_true, reduceIte, Classical.not_not, Bool.and_eq_true, decide_eq_true_eq]
          repeat (first | rw [if_pos (by omega)] | rw [if_neg (by omega)])
          all_goals first | rfl | (exfalso; omega)
         rw [hI, firstF_here (by omega) hf (by omega)]
        | false =>
         have h13 := of_decide_eq_false h13
         refine Ci false rfl (Ck (Qn (Cs (Cd 13 [] (.p 0 (.p 1 (.p 2 (.p 3 (.p 4 (.p 5 (.p 6 (.p 7 (.q 8 (.p 9 (.q 10 (.p 11 (.p 12 .nil))))))))))))) [] [] Try_mixed (by kernel_rfl) (pq_then (pq_block (pq_then (pq_then (pq_block (pq_then pq_body)))))) .slnil (Hq [] [(0, true), (1, true), (2, true)] [(45, vB (decide ((0 : Int) < (i : Int)))), (44, vB (decide ((0 : Int) < (i : Int)))), (43, vI (i : Int)), (42, vB false), (3, vI (i : Int)), (4, .p 0 0), (10, vI (i : Int)), (9, vI ((s.n : Nat) : Int)), (8, .v s.val), (0, .v s.val)] [] [] rfl (by kernel_rfl) on wn ?_)))))
         cases h14 : decide ((0 : Int) < (i : Int)) with
         | true =>
          have h14 := of_decide_eq_true h14
          refine Hq [(6, .idx s.ad (i - 1)), (8, .ext [.string (s.at (i - 1)).name])] [(3, true), (4, true), (5, true), (6, true), (7, true), (8, false), (9, true), (10, false), (11, true), (12, true)] [(55, vB (!(Op.bytesLess ((s.at (i - 1)).name).toList ((s.at i).name).toList))), (54, vB (!(Op.bytesLess ((s.at (i - 1)).name).toList ((s.at i).name).toList))), (53, vS (s.at i).name), (52, .p 0 0), (51, vS (s.at (i - 1)).name), (50, .v (.pointer (some ((s.ad.add ((i - 1) * 4)).add 0)))), (49, .v (.pointer (some (s.ad.add ((i - 1) * 4))))), (48, vI ((i : Int) - 1)), (47, vI (i : Int)), (46, .v s.val), (45, vB true), (44, vB true), (43, vI (i : Int)), (42, vB false), (3, vI (i : Int)), (4, .p 0 0), (10, vI (i : Int)), (9, vI ((s.n : Nat) : Int)), (8, .v s.val), (0, .v s.val)] [inR ((i : Int) - 1), s.A = some s.ad, (i : Int) - 1 = (((i - 1) : Nat) : Int), (i - 1) < s.n] [((s.ad.add ((i - 1) * 4)).add 0, [.string (s.at (i - 1)).name])] rfl (by kernel_rfl) (oc (by unfold inR; omega) (oc (Sl.ok.own (s := s) (i := (i - 1)) oks (by omega)) (oc (by omega) (oc (by omega) on)))) (fun w hk hr => ⟨(Sl.rd.fld (s := s) (i := (i - 1)) (Sl.rd.kp hs hk) (by omega) 0 1 rfl), trivial⟩) ?_
          refine Hn (Ln (Qn ?_))
          cases h15 : Op.bytesLess ((s.at (i - 1)).name).toList ((s.at i).name).toList with
          | true =>
           refine Ci false rfl (Ck (q_block_normal (Qn (Cg (Jr 2 [] [10, 9, 8, 0] 0 ⟨[(10, vI ((i : Int) + 1)), (9, vI ((s.n : Nat) : Int)), (8, .v s.val), (0, .v s.val)], []⟩ [inR ((i : Int) + 1)] [] (by kernel_rfl) (oc (by unfold inR; omega) on) wn ?_)))))
           have hf0 : lockF (s.xs.map CLock.abs) i = 0 := by
            unfold lockF
            simp only [hat, hq1, hq2, hq3]
            try simp only [h1, h2, h3, h4, h10, h11, h12, h13, h14, h15, emp_size, ne_eq, not_true_eq_false, not_false_eq_true, true_or, or_true, false_or, or_false, and_true, true_and, and_false, false_and, and_self, or_self, if_true, if_false, Bool.true_eq_false, Bool.false_eq_true, reduceIte, Classical.not_not, Bool.and_eq_true, decide_eq_true_eq]
            repeat (first | rw [if_pos (by omega)] | rw [if_neg (by omega)])
            all_goals first | rfl | (exfalso; omega)
           refine Ln (q_loop (x := (i : Nat)) ((i + 1) : Nat) ⟨by omega, by rw [hI]; exact firstF_step (by omega) hf0⟩ (by omega) (Ss [10, 9, 8, 0] 0 (by kernel_rfl) rfl))
          | false =>
           refine Ci true rfl (Cs (Cg (Jq 1 [2] 0 ⟨[(2, vI 14)], []⟩ (Ln (Qn (Cr (Qb (Qr (Qr (Qb (Qr (Rt (.inl rfl) [vI 14] rfl (fun bs w hS => (⟨?_, hS.kp⟩))))))))))))))
           simp only [retOf, den, List.map_cons, List.map_nil]
           have hf : lockF (s.xs.map CLock.abs) i = 14 := by
            unfold lockF
            simp only [hat, hq1, hq2, hq3]
            try simp only [h1, h2, h3, h4, h10, h11, h12, h13, h14, h15, emp_size, ne_eq, not_true_eq_false, not_false_eq_true, true_or, or_true, false_or, or_false, and_true, true_and, and_false, false_and, and_self, or_self, if_true, if_false, Bool.true_eq_false, Bool.false_eq_true, reduceIte, Classical.not_not, Bool.and_eq_true, decide_eq_true_eq]
            repeat (first | rw [if_pos (by omega)] | rw [if_neg (by omega)])
            all_goals first | rfl | (exfalso; omega)
           rw [hI, firstF_here (by omega) hf (by omega)]
         | false =>
          have h14 := of_decide_eq_false h14
          refine Hq [] [(3, true), (4, true), (5, true), (6, true), (7, true), (8, false), (9, true), (10, false), (11, true), (12, true)] [(55, vB false), (54, .v (undef)), (53, .v (undef)), (52, .v (undef)), (51, .v (undef)), (50, .v (undef)), (49, .v (undef)), (48, .v (undef)), (47, .v (undef)), (46, .v (undef)), (45, vB false), (44, vB false), (43, vI (i : Int)), (42, vB false), (3, vI (i : Int)), (4, .p 0 0), (10, vI (i : Int)), (9, vI ((s.n : Nat) : Int)), (8, .v s.val), (0, .v s.val)] [] [] rfl (by kernel_rfl) on wn ?_
          refine Hn (Ln (Qn (Ci false rfl (Ck (q_block_normal (Qn (Cg (Jr 2 [] [10, 9, 8, 0] 0 ⟨[(10, vI ((i : Int) + 1)), (9, vI ((s.n : Nat) : Int)), (8, .v s.val), (0, .v s.val)], []⟩ [inR ((i : Int) + 1)] [] (by kernel_rfl) (oc (by unfold inR; omega) on) wn ?_))))))))
          have hf0 : lockF (s.xs.map CLock.abs) i = 0 := by
           unfold lockF
           simp only [hat, hq1, hq2, hq3]
           try simp only [h1, h2, h3, h4, h10, h11, h12, h13, h14, emp_size, ne_eq, not_true_eq_false, not_false_eq_true, true_or, or_true, false_or, or_false, and_true, true_and, and_false, false_and, and_self, or_self, if_true, if_false, Bool.true_eq_false, Bool.false_eq_true, reduceIte, Classical.not_not, Bool.and_eq_true, decide_eq_true_eq]
           repeat (first | rw [if_pos (by omega)] | rw [if_neg (by omega)])
           all_goals first | rfl | (exfalso; omega)
          refine Ln (q_loop (x := (i : Nat)) ((i + 1) : Nat) ⟨by omega, by rw [hI]; exact firstF_step (by omega) hf0⟩ (by omega) (Ss [10, 9, 8, 0] 0 (by kernel_rfl) rfl))
      | false =>
       refine Ci true rfl (Cs (Cg (Jq 1 [2] 0 ⟨[(2, vI 4)], []⟩ (Ln (Qn (Cr (Qr (Qb (Qr (Qr (Qb (Qr (Rt (.inl rfl) [vI 4] rfl (fun bs w hS => (⟨?_, hS.kp⟩)))))))))))))))
       simp only [retOf, den, List.map_cons, List.map_nil]
       have hf : lockF (s.xs.map CLock.abs) i = 4 := by
        unfold lockF
        simp only [hat, hq1, hq2, hq3]
        try simp only [h1, h2, h3, h4, h10, h11, emp_size, ne_eq, not_true_eq_false, not_false_eq_true, true_or, or_true, false_or, or_false, and_true, true_and, and_false, false_and, and_self, or_self, if_true, if_false, Bool.true_eq_false, Bool.false_eq_true, reduceIte, Classical.not_not, Bool.and_eq_true, decide_eq_true_eq]
        repeat (first | rw [if_pos (by omega)] | rw [if_neg (by omega)])
        all_goals first | rfl | (exfalso; omega)
       rw [hI, firstF_here (by omega) hf (by omega)]
     | false =>
      simp only [inB, Bool.and_eq_true, Bool.and_eq_false_iff, decide_eq_true_eq, decide_eq_false_iff_not] at h10
      refine Jq 4 [34, 3, 4, 10, 9, 8, 0] 1 ⟨[(34, vB true), (3, vI (i : Int)), (4, .p 0 0), (10, vI (i : Int)), (9, vI ((s.n : Nat) : Int)), (8, .v s.val), (0, .v s.val)], [⟨89, (s.at i).cs⟩]⟩ (Ln (Qn (Ci true rfl (Cs (Cg (Jq 1 [2] 0 ⟨[(2, vI 4)], []⟩ (Ln (Qn (Cr (Qr (Qb (Qr (Qr (Qb (Qr (Rt (.inl rfl) [vI 4] rfl (fun bs w hS => (⟨?_, hS.kp⟩))))))))))))))))))
      simp only [retOf, den, List.map_cons, List.map_nil]
      have hf : lockF (s.xs.map CLock.abs) i = 4 := by
       unfold lockF
       simp only [hat, hq1, hq2, hq3]
       try simp only [h1, h2, h3, h4, h10, emp_size, ne_eq, not_true_eq_false, not_false_eq_true, true_or, or_true, false_or, or_false, and_true, true_and, and_false, false_and, and_self, or_self, if_true, if_false, Bool.true_eq_false, Bool.false_eq_true, reduceIte, Classical.not_not, Bool.and_eq_true, decide_eq_true_eq]
       repeat (first | rw [if_pos (by omega)] | rw [if_neg (by omega)])
       all_goals first | rfl | (exfalso; omega)
      rw [hI, firstF_here (by omega) hf (by omega)]
   | false =>
    refine Jq 15 [34, 3, 4, 10, 9, 8, 0] 1 ⟨[(34, vB true), (3, vI (i : Int)), (4, .p 0 0), (10, vI (i : Int)), (9, vI ((s.n : Nat) : Int)), (8, .v s.val), (0, .v s.val)], [⟨89, (s.at i).cs⟩]⟩ (Ln (Qn (Ci true rfl (Cs (Cg (Jq 1 [2] 0 ⟨[(2, vI 4)], []⟩ (Ln (Qn (Cr (Qr (Qb (Qr (Qr (Qb (Qr (Rt (.inl rfl) [vI 4] rfl (fun bs w hS => (⟨?_, hS.kp⟩))))))))))))))))))
    simp only [retOf, den, List.map_cons, List.map_nil]
    have hf : lockF (s.xs.map CLock.abs) i = 4 := by
     unfold lockF
     simp only [hat, hq1, hq2, hq3]
     try simp only [h1, h2, h3, emp_size, ne_eq, not_true_eq_false, not_false_eq_true, true_or, or_true, false_or, or_false, and_true, true_and, and_false, false_and, and_self, or_self, if_true, if_false, Bool.true_eq_false, Bool.false_eq_true, reduceIte, Classical.not_not, Bool.and_eq_true, decide_eq_true_eq]
     repeat (first | rw [if_pos (by omega)] | rw [if_neg (by omega)])
     all_goals first | rfl | (exfalso; omega)
    rw [hI, firstF_here (by omega) hf (by omega)]
  | false =>
   have h2 := of_decide_eq_false h2
   refine Ci false rfl (c_exit (Qe (Qe (Qh (Qn (Cs (Cg (Jq 1 [2] 0 ⟨[(2, vI 0)], []⟩ (Ln (Qn (Cr (Rt (.inl rfl) [vI 0] rfl (fun bs w hS => (⟨?_, hS.kp⟩))))))))))))))
   simp only [retOf, den, List.map_cons, List.map_nil]
   rw [hI, firstF_end (by omega)]

theorem ref_LocksFault {B : Nat → Prop} (s : Sl CLock) (w : World) (hs : s.rd B w) : Calls Try.prog 56 #[.slice s.A s.n s.c] w fun e w' => e = .returned (.int .i64 (mLocks (s.xs.map CLock.abs))) ∧ Kp [] w w' := by
 have oks := Sl.rd.ok hs
 have ncs := Sl.ok.nc oks
 have hns : s.n = s.xs.length := rfl
 have hat : ∀ q, (s.xs.map CLock.abs).getD q default = (s.at q).abs := fun q => abs_at q
 have hq1 : ∀ q, (s.at q).abs.name = (s.at q).name := fun _ => rfl
 have hq2 : ∀ q, (s.at q).abs.holder = (s.at q).holder := fun _ => rfl
 have hq3 : ∀ q, (s.at q).abs.fence = (s.at q).fence := fun _ => rfl
 have hml : (s.xs.map CLock.abs).length = s.n := by simp
 refine calls_J0 104 Try.func56 rfl rfl [.slice s.A s.n s.c] rfl ?_
 refine Cs (Cg (Jq 1 [0] 0 ⟨[(0, .v s.val)], []⟩ (Ln (Qn (Cs (Cs (Cg (Jq 3 [9, 0] 0 ⟨[(9, vB (decide ((5 : Int) < ((s.n : Nat) : Int)))), (0, .v s.val)], []⟩ (Ln (Qn ?_))))))))))
 cases h1 : decide ((5 : Int) < ((s.n : Nat) : Int)) with
 | true =>
  have h1 := of_decide_eq_true h1
  refine Ci true rfl (Cs (Cg (Jq 1 [2] 0 ⟨[(2, vI 1)], []⟩ (Ln (Qn (Cr (Qr (Rt (.inl rfl) [vI 1] rfl (fun bs w hS => (⟨?_, hS.kp⟩))))))))))
  simp only [retOf, den, List.map_cons, List.map_nil]
  have hm : mLocks (s.xs.map CLock.abs) = 1 := by
   unfold mLocks; rw [hml, if_pos (by omega)]
  rw [hm]
 | false =>
  have h1 := of_decide_eq_false h1
  refine Ci false rfl (Ck (Qn (Cs (Cs (Cg (Jq 1 [3, 0] 0 ⟨[(3, vI 0), (0, .v s.val)], []⟩ (Ln (Qn (Cb (Cl (σ := Nat) (fun i => i ≤ s.n ∧ mLocks (s.xs.map CLock.abs) = firstF (lockF (s.xs.map CLock.abs)) (s.n - i) i) (fun i => s.n - i) (fun i => []) (fun i => ⟨[(3, vI (i : Int)), (0, .v s.val)], []⟩) 0 ⟨Nat.zero_le _, by unfold mLocks; rw [hml, if_neg (by omega)]⟩ (Ss [3, 0] 0 (by kernel_rfl) rfl) ?_))))))))))
  rintro i ⟨hi, hI⟩
  have hp : ∀ q, posOk (s.at i).abs q = (inB ((s.at i).line.at q) 1 9 && (!decide ((s.at i).line.at q = (s.at i).holder) && !(((s.at i).line.xs.take q).any fun z => decide (z = (s.at i).line.at q)))) := fun _ => rfl
  refine Cs (Cs (Cg (Jq 4 [13, 3, 0] 0 ⟨[(13, vB (decide ((i : Int) < ((s.n : Nat) : Int)))), (3, vI (i : Int)), (0, .v s.val)], []⟩ (Ln (Qn ?_)))))
  cases h2 : decide ((i : Int) < ((s.n : Nat) : Int)) with
  | true =>
   have h2 := of_decide_eq_true h2
   refine Ci true rfl (Ck (Qn (Cs (Cb (Cs (Cg (Jr 6 [(2, .idx s.ad i), (3, .ext [.string (s.at i).name, .int .i64 (s.at i).holder, .int .i64 (s.at i).fence, .slice (s.at i).line.A (s.at i).line.n (s.at i).line.c])] [4, 3, 0] 1 ⟨[(4, .p 0 0), (3, vI (i : Int)), (0, .v s.val)], [⟨89, (s.at i).cs⟩]⟩ [s.A = some s.ad, (i : Int) = (i : Int), i < s.n] [(s.ad.add (i * 4), [.string (s.at i).name, .int .i64 (s.at i).holder, .int .i64 (s.at i).fence, .slice (s.at i).line.A (s.at i).line.n (s.at i).line.c])] (by kernel_rfl) (oc (Sl.ok.own (s := s) (i := i) oks (by omega)) (oc rfl (oc (by omega) on))) (fun w hk hr => ⟨(Sl.rd.all (s := s) (i := i) (Sl.rd.kp hs hk) (by omega) rfl), trivial⟩) (Ln (Qn (Cs (Cg (Jq 2 [21, 4, 3, 0] 1 ⟨[(21, vS (s.at i).name), (4, .p 0 0), (3, vI (i : Int)), (0, .v s.val)], [⟨89, (s.at i).cs⟩]⟩ (Lp 94 [] [vS (s.at i).name] (.bool (mName (s.at i).name)) Try.call94 rfl rfl rfl rfl (fun bs w hS => ref_NameMay _ w (And.left (Sl.ok.at (s := s) (i := i) oks (by omega)))) (Jq 2 [24, 4, 3, 0] 1 ⟨[(24, vB (!(mName (s.at i).name))), (4, .p 0 0), (3, vI (i : Int)), (0, .v s.val)], [⟨89, (s.at i).cs⟩]⟩ ?_))))))))))))))
   cases h3 : mName (s.at i).name with
   | true =>
    refine Jq 2 [26, 24, 4, 3, 0] 1 ⟨[(26, vI (s.at i).holder), (24, vB false), (4, .p 0 0), (3, vI (i : Int)), (0, .v s.val)], [⟨89, (s.at i).cs⟩]⟩ (Lp 68 [] [vI (s.at i).holder, vI 0, vI 9] (.bool (inB (s.at i).holder 0 9)) Try.call68 rfl rfl rfl rfl (fun bs w hS => ref_In _ _ _ w) (Jq 3 [30, 4, 3, 0] 1 ⟨[(30, vB (!(inB (s.at i).holder 0 9))), (4, .p 0 0), (3, vI (i : Int)), (0, .v s.val)], [⟨89, (s.at i).cs⟩]⟩ ?_))
    cases h4 : inB (s.at i).holder 0 9 with
    | true =>
     simp only [inB, Bool.and_eq_true, Bool.and_eq_false_iff, decide_eq_true_eq, decide_eq_false_iff_not] at h4
     refine Jq 6 [36, 4, 3, 0] 1 ⟨[(36, vB (decide ((3 : Int) < (((s.at i).line.n : Nat) : Int)))), (4, .p 0 0), (3, vI (i : Int)), (0, .v s.val)], [⟨89, (s.at i).cs⟩]⟩ ?_
     cases h5 : decide ((3 : Int) < (((s.at i).line.n : Nat) : Int)) with
     | true =>
      have h5 := of_decide_eq_true h5
      refine Jq 11 [5, 4, 3, 0] 1 ⟨[(5, vB true), (4, .p 0 0), (3, vI (i : Int)), (0, .v s.val)], [⟨89, (s.at i).cs⟩]⟩ (Ln (Qn (Cs (Cs (Cg (Jq 1 [6, 5, 4, 3, 0] 1 ⟨[(6, vI 0), (5, vB true), (4, .p 0 0), (3, vI (i : Int)), (0, .v s.val)], [⟨89, (s.at i).cs⟩]⟩ (Ln (Qn (Cb (Cl (σ := Nat × Bool) (fun ⟨j, b⟩ => j ≤ (s.at i).line.n ∧ b = (true || !(allTo (posOk (s.at i).abs) j))) (fun ⟨j, b⟩ => (s.at i).line.n - j) (fun ⟨j, b⟩ => []) (fun ⟨j, b⟩ => ⟨[(6, vI (j : Int)), (5, vB b), (4, .p 0 0), (3, vI (i : Int)), (0, .v s.val)], [⟨89, (s.at i).cs⟩]⟩) ⟨0, true⟩ ⟨Nat.zero_le _, by simp [allTo]⟩ (Ss [6, 5, 4, 3, 0] 1 (by kernel_rfl) rfl) ?_))))))))))
      rintro ⟨j, b⟩ ⟨hj, hJ⟩
      have ncl := Sl.ok.nc (And.right (Sl.ok.at oks (show i < s.n by omega)))
      refine Cs (Cs (Cg (Jq 5 [51, 6, 5, 4, 3, 0] 1 ⟨[(51, vB (decide ((j : Int) < (((s.at i).line.n : Nat) : Int)))), (6, vI (j : Int)), (5, vB b), (4, .p 0 0), (3, vI (i : Int)), (0, .v s.val)], [⟨89, (s.at i).cs⟩]⟩ (Ln (Qn ?_)))))
      cases h6 : decide ((j : Int) < (((s.at i).line.n : Nat) : Int)) with
      | true =>
       have h6 := of_decide_eq_true h6
       refine Ci true rfl (Ck (Qn (Cs (Cb (Cd 33 [] (.p 0 (.p 1 (.p 2 (.q 3 (.p 4 (.p 5 (.q 6 (.b 7 (.p 8 (.p 9 (.p 10 (.p 11 (.q 12 (.p 13 (.p 14 (.q 15 (.p 16 (.q 17 (.p 18 (.p 19 (.p 20 (.p 21 (.q 22 (.p 23 (.p 24 (.p 25 (.q 26 (.p 27 (.p 28 (.q 29 (.b 30 (.p 31 (.p 32 .nil)) .z))))))))))))))))))))))) .z)))))))) [] [] Try_mixed (by kernel_rfl) (pq_block (pq_then (pq_then (pq_block (pq_then (pq_block (pq_then (pq_then (pq_block (pq_then pq_body)))))))))) .slnil (Hq [] [(0, true), (1, true)] [(55, vB b), (54, vB b), (51, vB true), (6, vI (j : Int)), (5, vB b), (4, .p 0 0), (3, vI (i : Int)), (0, .v s.val)] [] [] rfl (by kernel_rfl) on wn ?_))))))
       cases h7 : b with
       | true =>
        refine Hq [] [(2, true), (3, false), (4, true), (5, true), (6, false)] [(60, .v (undef)), (59, .v (undef)), (58, .v (undef)), (57, .v (undef)), (56, .v (undef)), (55, vB true), (54, vB true), (51, vB true), (6, vI (j : Int)), (5, vB true), (4, .p 0 0), (3, vI (i : Int)), (0, .v s.val)] [] [] rfl (by kernel_rfl) on wn ?_
        refine Hp rfl rfl rfl ?_
        refine Hq [] [(8, true), (9, true), (10, true), (11, true), (12, false), (13, true), (14, true), (15, false), (16, true), (17, false), (18, true), (19, true), (20, true), (21, true), (22, false), (23, true), (24, true), (25, true), (26, false), (27, true), (28, true), (29, false)] [(83, .v (undef)), (82, .v (undef)), (81, .v (undef)), (80, .v (undef)), (79, .v (undef)), (78, .v (undef)), (77, .v (undef)), (76, .v (undef)), (75, .v (undef)), (74, vB true), (73, vB true), (72, .v (undef)), (71, .v (undef)), (70, .v (undef)), (69, .v (undef)), (68, .v (undef)), (67, .v (undef)), (66, .v (undef)), (65, .v (undef)), (64, vB true), (63, vB true), (62, .v (undef)), (61, .v (undef)), (60, .v (undef)), (59, .v (undef)), (58, .v (undef)), (57, .v (undef)), (56, .v (undef)), (55, vB true), (54, vB true), (51, vB true), (6, vI (j : Int)), (5, vB true), (4, .p 0 0), (3, vI (i : Int)), (0, .v s.val)] [] [] rfl (by kernel_rfl) on wn ?_
        refine Hp rfl rfl rfl ?_
        refine Hq [] [(31, true), (32, true)] [(5, vB true), (85, vB true), (84, .v (undef)), (83, .v (undef)), (82, .v (undef)), (81, .v (undef)), (80, .v (undef)), (79, .v (undef)), (78, .v (undef)), (77, .v (undef)), (76, .v (undef)), (75, .v (undef)), (74, vB true), (73, vB true), (72, .v (undef)), (71, .v (undef)), (70, .v (undef)), (69, .v (undef)), (68, .v (undef)), (67, .v (undef)), (66, .v (undef)), (65, .v (undef)), (64, vB true), (63, vB true), (62, .v (undef)), (61, .v (undef)), (60, .v (undef)), (59, .v (undef)), (58, .v (undef)), (57, .v (undef)), (56, .v (undef)), (55, vB true), (54, vB true), (51, vB true), (6, vI (j : Int)), (4, .p 0 0), (3, vI (i : Int)), (0, .v s.val)] [] [] rfl (by kernel_rfl) on wn ?_
        refine Hn (Ln (q_block_normal (Qn (Cg (Jr 3 [] [6, 5, 4, 3, 0] 1 ⟨[(6, vI ((j : Int) + 1)), (5, vB true), (4, .p 0 0), (3, vI (i : Int)), (0, .v s.val)], [⟨89, (s.at i).cs⟩]⟩ [inR ((j : Int) + 1)] [] (by kernel_rfl) (oc (by unfold inR; omega) on) wn (Ln (q_loop (x := (⟨j, b⟩ : Nat × Bool)) (⟨j + 1, true⟩ : Nat × Bool) ⟨by omega, by simp only [allTo, hp]; simp_all⟩ (by show (s.at i).line.n - (j + 1) < (s.at i).line.n - j; omega) (Ss [6, 5, 4, 3, 0] 1 (by kernel_rfl) rfl))))))))
       | false =>
        exfalso; rw [h7] at hJ; simp at hJ
      | false =>
       have h6 := of_decide_eq_false h6
       refine Ci false rfl (c_exit (Qe (Qe (Qh (Qn (Cs (Cs (Cg (Jq 1 [86, 4, 3, 0] 1 ⟨[(86, vB b), (4, .p 0 0), (3, vI (i : Int)), (0, .v s.val)], [⟨89, (s.at i).cs⟩]⟩ (Ln (Qn ?_)))))))))))
       cases h8 : b with
       | true =>
        refine Ci true rfl (Cs (Cg (Jq 1 [2] 0 ⟨[(2, vI 4)], []⟩ (Ln (Qn (Cr (Qr (Qb (Qr (Qr (Qb (Qr (Rt (.inl rfl) [vI 4] rfl (fun bs w hS => (⟨?_, hS.kp⟩)))))))))))))))
        simp only [retOf, den, List.map_cons, List.map_nil]
        have hf : lockF (s.xs.map CLock.abs) i = 4 := by
         have hor : mName (s.at i).name = false ∨ (s.at i).holder < 0 ∨ 9 < (s.at i).holder ∨ lineOk (s.at i).abs = false := by
          first | exact .inl (by assumption) | exact .inr ((show (s.at i).holder < 0 ∨ 9 < (s.at i).holder by omega).elim .inl (fun h => .inr (.inl h))) | exact .inr (.inr (.inr (lineOk_false (.inr (.inl (by show 3 < (s.at i).line.n; omega)))))) | exact .inr (.inr (.inr (lineOk_false (.inr (.inr ⟨by show (s.at i).holder = 0; omega, by show 0 < (s.at i).line.n; omega⟩))))) | exact .inr (.inr (.inr (lineOk_false (.inl (by show allTo _ (s.at i).line.n = false; rw [show (s.at i).line.n = j by omega]; cases hq : allTo (posOk (s.at i).abs) j <;> simp_all)))))
         unfold lockF
         simp only [hat, hq1, hq2, hq3]
         rw [if_pos hor]
        rw [hI, firstF_here (by omega) hf (by omega)]
       | false =>
        exfalso; rw [h8] at hJ; simp at hJ
     | false =>
      have h5 := of_decide_eq_false h5
      refine Jq 4 [40, 36, 4, 3, 0] 1 ⟨[(40, vB (decide ((s.at i).holder = 0))), (36, vB false), (4, .p 0 0), (3, vI (i : Int)), (0, .v s.val)], [⟨89, (s.at i).cs⟩]⟩ ?_
      cases h9 : decide ((s.at i).holder = 0) with
      | true =>
       have h9 := of_decide_eq_true h9
       refine Jq 7 [5, 4, 3, 0] 1 ⟨[(5, vB (decide ((0 : Int) < (((s.at i).line.n : Nat) : Int)))), (4, .p 0 0), (3, vI (i : Int)), (0, .v s.val)], [⟨89, (s.at i).cs⟩]⟩ (Ln (Qn (Cs (Cs (Cg (Jq 1 [6, 5, 4, 3, 0] 1 ⟨[(6, vI 0), (5, vB (decide ((0 : Int) < (((s.at i).line.n : Nat) : Int)))), (4, .p 0 0), (3, vI (i : Int)), (0, .v s.val)], [⟨89, (s.at i).cs⟩]⟩ (Ln (Qn (Cb ?_)))))))))
       cases h10 : decide ((0 : Int) < (((s.at i).line.n : Nat) : Int)) with
       | true =>
        have h10 := of_decide_eq_true h10
        refine Cl (σ := Nat × Bool) (fun ⟨j, b⟩ => j ≤ (s.at i).line.n ∧ b = (true || !(allTo (posOk (s.at i).abs) j))) (fun ⟨j, b⟩ => (s.at i).line.n - j) (fun ⟨j, b⟩ => []) (fun ⟨j, b⟩ => ⟨[(6, vI (j : Int)), (5, vB b), (4, .p 0 0), (3, vI (i : Int)), (0, .v s.val)], [⟨89, (s.at i).cs⟩]⟩) ⟨0, true⟩ ⟨Nat.zero_le _, by simp [allTo]⟩ (Ss [6, 5, 4, 3, 0] 1 (by kernel_rfl) rfl) ?_
        rintro ⟨j, b⟩ ⟨hj, hJ⟩
        have ncl := Sl.ok.nc (And.right (Sl.ok.at oks (show i < s.n by omega)))
        refine Cs (Cs (Cg (Jq 5 [51, 6, 5, 4, 3, 0] 1 ⟨[(51, vB (decide ((j : Int) < (((s.at i).line.n : Nat) : Int)))), (6, vI (j : Int)), (5, vB b), (4, .p 0 0), (3, vI (i : Int)), (0, .v s.val)], [⟨89, (s.at i).cs⟩]⟩ (Ln (Qn ?_)))))
        cases h11 : decide ((j : Int) < (((s.at i).line.n : Nat) : Int)) with
        | true =>
         have h11 := of_decide_eq_true h11
         refine Ci true rfl (Ck (Qn (Cs (Cb (Cd 33 [] (.p 0 (.p 1 (.p 2 (.q 3 (.p 4 (.p 5 (.q 6 (.b 7 (.p 8 (.p 9 (.p 10 (.p 11 (.q 12 (.p 13 (.p 14 (.q 15 (.p 16 (.q 17 (.p 18 (.p 19 (.p 20 (.p 21 (.q 22 (.p 23 (.p 24 (.p 25 (.q 26 (.p 27 (.p 28 (.q 29 (.b 30 (.p 31 (.p 32 .nil)) .z))))))))))))))))))))))) .z)))))))) [] [] Try_mixed (by kernel_rfl) (pq_block (pq_then (pq_then (pq_block (pq_then (pq_block (pq_then (pq_then (pq_block (pq_then pq_body)))))))))) .slnil (Hq [] [(0, true), (1, true)] [(55, vB b), (54, vB b), (51, vB true), (6, vI (j : Int)), (5, vB b), (4, .p 0 0), (3, vI (i : Int)), (0, .v s.val)] [] [] rfl (by kernel_rfl) on wn ?_))))))
         cases h12 : b with
         | true =>
          refine Hq [] [(2, true), (3, false), (4, true), (5, true), (6, false)] [(60, .v (undef)), (59, .v (undef)), (58, .v (undef)), (57, .v (undef)), (56, .v (undef)), (55, vB true), (54, vB true), (51, vB true), (6, vI (j : Int)), (5, vB true), (4, .p 0 0), (3, vI (i : Int)), (0, .v s.val)] [] [] rfl (by kernel_rfl) on wn ?_
          refine Hp rfl rfl rfl ?_
          refine Hq [] [(8, true), (9, true), (10, true), (11, true), (12, false), (13, true), (14, true), (15, false), (16, true), (17, false), (18, true), (19, true), (20, true), (21, true), (22, false), (23, true), (24, true), (25, true), (26, false), (27, true), (28, true), (29, false)] [(83, .v (undef)), (82, .v (undef)), (81, .v (undef)), (80, .v (undef)), (79, .v (undef)), (78, .v (undef)), (77, .v (undef)), (76, .v (undef)), (75, .v (undef)), (74, vB true), (73, vB true), (72, .v (undef)), (71, .v (undef)), (70, .v (undef)), (69, .v (undef)), (68, .v (undef)), (67, .v (undef)), (66, .v (undef)), (65, .v (undef)), (64, vB true), (63, vB true), (62, .v (undef)), (61, .v (undef)), (60, .v (undef)), (59, .v (undef)), (58, .v (undef)), (57, .v (undef)), (56, .v (undef)), (55, vB true), (54, vB true), (51, vB true), (6, vI (j : Int)), (5, vB true), (4, .p 0 0), (3, vI (i : Int)), (0, .v s.val)] [] [] rfl (by kernel_rfl) on wn ?_
          refine Hp rfl rfl rfl ?_
          refine Hq [] [(31, true), (32, true)] [(5, vB true), (85, vB true), (84, .v (undef)), (83, .v (undef)), (82, .v (undef)), (81, .v (undef)), (80, .v (undef)), (79, .v (undef)), (78, .v (undef)), (77, .v (undef)), (76, .v (undef)), (75, .v (undef)), (74, vB true), (73, vB true), (72, .v (undef)), (71, .v (undef)), (70, .v (undef)), (69, .v (undef)), (68, .v (undef)), (67, .v (undef)), (66, .v (undef)), (65, .v (undef)), (64, vB true), (63, vB true), (62, .v (undef)), (61, .v (undef)), (60, .v (undef)), (59, .v (undef)), (58, .v (undef)), (57, .v (undef)), (56, .v (undef)), (55, vB true), (54, vB true), (51, vB true), (6, vI (j : Int)), (4, .p 0 0), (3, vI (i : Int)), (0, .v s.val)] [] [] rfl (by kernel_rfl) on wn ?_
          refine Hn (Ln (q_block_normal (Qn (Cg (Jr 3 [] [6, 5, 4, 3, 0] 1 ⟨[(6, vI ((j : Int) + 1)), (5, vB true), (4, .p 0 0), (3, vI (i : Int)), (0, .v s.val)], [⟨89, (s.at i).cs⟩]⟩ [inR ((j : Int) + 1)] [] (by kernel_rfl) (oc (by unfold inR; omega) on) wn (Ln (q_loop (x := (⟨j, b⟩ : Nat × Bool)) (⟨j + 1, true⟩ : Nat × Bool) ⟨by omega, by simp only [allTo, hp]; simp_all⟩ (by show (s.at i).line.n - (j + 1) < (s.at i).line.n - j; omega) (Ss [6, 5, 4, 3, 0] 1 (by kernel_rfl) rfl))))))))
         | false =>
          exfalso; rw [h12] at hJ; simp at hJ
        | false =>
         have h11 := of_decide_eq_false h11
         refine Ci false rfl (c_exit (Qe (Qe (Qh (Qn (Cs (Cs (Cg (Jq 1 [86, 4, 3, 0] 1 ⟨[(86, vB b), (4, .p 0 0), (3, vI (i : Int)), (0, .v s.val)], [⟨89, (s.at i).cs⟩]⟩ (Ln (Qn ?_)))))))))))
         cases h13 : b with
         | true =>
          refine Ci true rfl (Cs (Cg (Jq 1 [2] 0 ⟨[(2, vI 4)], []⟩ (Ln (Qn (Cr (Qr (Qb (Qr (Qr (Qb (Qr (Rt (.inl rfl) [vI 4] rfl (fun bs w hS => (⟨?_, hS.kp⟩)))))))))))))))
          simp only [retOf, den, List.map_cons, List.map_nil]
          have hf : lockF (s.xs.map CLock.abs) i = 4 := by
           have hor : mName (s.at i).name = false ∨ (s.at i).holder < 0 ∨ 9 < (s.at i).holder ∨ lineOk (s.at i).abs = false := by
            first | exact .inl (by assumption) | exact .inr ((show (s.at i).holder < 0 ∨ 9 < (s.at i).holder by omega).elim .inl (fun h => .inr (.inl h))) | exact .inr (.inr (.inr (lineOk_false (.inr (.inl (by show 3 < (s.at i).line.n; omega)))))) | exact .inr (.inr (.inr (lineOk_false (.inr (.inr ⟨by show (s.at i).holder = 0; omega, by show 0 < (s.at i).line.n; omega⟩))))) | exact .inr (.inr (.inr (lineOk_false (.inl (by show allTo _ (s.at i).line.n = false; rw [show (s.at i).line.n = j by omega]; cases hq : allTo (posOk (s.at i).abs) j <;> simp_all)))))
           unfold lockF
           simp only [hat, hq1, hq2, hq3]
           rw [if_pos hor]
          rw [hI, firstF_here (by omega) hf (by omega)]
         | false =>
          exfalso; rw [h13] at hJ; simp at hJ
       | false =>
        have h10 := of_decide_eq_false h10
        refine Cl (σ := Nat × Bool) (fun ⟨j, b⟩ => j ≤ (s.at i).line.n ∧ b = (false || !(allTo (posOk (s.at i).abs) j))) (fun ⟨j, b⟩ => (s.at i).line.n - j) (fun ⟨j, b⟩ => []) (fun ⟨j, b⟩ => ⟨[(6, vI (j : Int)), (5, vB b), (4, .p 0 0), (3, vI (i : Int)), (0, .v s.val)], [⟨89, (s.at i).cs⟩]⟩) ⟨0, false⟩ ⟨Nat.zero_le _, by simp [allTo]⟩ (Ss [6, 5, 4, 3, 0] 1 (by kernel_rfl) rfl) ?_
        rintro ⟨j, b⟩ ⟨hj, hJ⟩
        have ncl := Sl.ok.nc (And.right (Sl.ok.at oks (show i < s.n by omega)))
        refine Cs (Cs (Cg (Jq 5 [51, 6, 5, 4, 3, 0] 1 ⟨[(51, vB (decide ((j : Int) < (((s.at i).line.n : Nat) : Int)))), (6, vI (j : Int)), (5, vB b), (4, .p 0 0), (3, vI (i : Int)), (0, .v s.val)], [⟨89, (s.at i).cs⟩]⟩ (Ln (Qn ?_)))))
        cases h14 : decide ((j : Int) < (((s.at i).line.n : Nat) : Int)) with
        | true =>
         have h14 := of_decide_eq_true h14
         refine Ci true rfl (Ck (Qn (Cs (Cb (Cd 33 [] (.p 0 (.p 1 (.p 2 (.q 3 (.p 4 (.p 5 (.q 6 (.b 7 (.p 8 (.p 9 (.p 10 (.p 11 (.q 12 (.p 13 (.p 14 (.q 15 (.p 16 (.q 17 (.p 18 (.p 19 (.p 20 (.p 21 (.q 22 (.p 23 (.p 24 (.p 25 (.q 26 (.p 27 (.p 28 (.q 29 (.b 30 (.p 31 (.p 32 .nil)) .z))))))))))))))))))))))) .z)))))))) [] [] Try_mixed (by kernel_rfl) (pq_block (pq_then (pq_then (pq_block (pq_then (pq_block (pq_then (pq_then (pq_block (pq_then pq_body)))))))))) .slnil (Hq [] [(0, true), (1, true)] [(55, vB b), (54, vB b), (51, vB true), (6, vI (j : Int)), (5, vB b), (4, .p 0 0), (3, vI (i : Int)), (0, .v s.val)] [] [] rfl (by kernel_rfl) on wn ?_))))))
         cases h15 : b with
         | true =>
          refine Hq [] [(2, true), (3, false), (4, true), (5, true), (6, false)] [(60, .v (undef)), (59, .v (undef)), (58, .v (undef)), (57, .v (undef)), (56, .v (undef)), (55, vB true), (54, vB true), (51, vB true), (6, vI (j : Int)), (5, vB true), (4, .p 0 0), (3, vI (i : Int)), (0, .v s.val)] [] [] rfl (by kernel_rfl) on wn ?_
          refine Hp rfl rfl rfl ?_
          refine Hq [] [(8, true), (9, true), (10, true), (11, true), (12, false), (13, true), (14, true), (15, false), (16, true), (17, false), (18, true), (19, true), (20, true), (21, true), (22, false), (23, true), (24, true), (25, true), (26, false), (27, true), (28, true), (29, false)] [(83, .v (undef)), (82, .v (undef)), (81, .v (undef)), (80, .v (undef)), (79, .v (undef)), (78, .v (undef)), (77, .v (undef)), (76, .v (undef)), (75, .v (undef)), (74, vB true), (73, vB true), (72, .v (undef)), (71, .v (undef)), (70, .v (undef)), (69, .v (undef)), (68, .v (undef)), (67, .v (undef)), (66, .v (undef)), (65, .v (undef)), (64, vB true), (63, vB true), (62, .v (undef)), (61, .v (undef)), (60, .v (undef)), (59, .v (undef)), (58, .v (undef)), (57, .v (undef)), (56, .v (undef)), (55, vB true), (54, vB true), (51, vB true), (6, vI (j : Int)), (5, vB true), (4, .p 0 0), (3, vI (i : Int)), (0, .v s.val)] [] [] rfl (by kernel_rfl) on wn ?_
          refine Hp rfl rfl rfl ?_
          refine Hq [] [(31, true), (32, true)] [(5, vB true), (85, vB true), (84, .v (undef)), (83, .v (undef)), (82, .v (undef)), (81, .v (undef)), (80, .v (undef)), (79, .v (undef)), (78, .v (undef)), (77, .v (undef)), (76, .v (undef)), (75, .v (undef)), (74, vB true), (73, vB true), (72, .v (undef)), (71, .v (undef)), (70, .v (undef)), (69, .v (undef)), (68, .v (undef)), (67, .v (undef)), (66, .v (undef)), (65, .v (undef)), (64, vB true), (63, vB true), (62, .v (undef)), (61, .v (undef)), (60, .v (undef)), (59, .v (undef)), (58, .v (undef)), (57, .v (undef)), (56, .v (undef)), (55, vB true), (54, vB true), (51, vB true), (6, vI (j : Int)), (4, .p 0 0), (3, vI (i : Int)), (0, .v s.val)] [] [] rfl (by kernel_rfl) on wn ?_
          refine Hn (Ln (q_block_normal (Qn (Cg (Jr 3 [] [6, 5, 4, 3, 0] 1 ⟨[(6, vI ((j : Int) + 1)), (5, vB true), (4, .p 0 0), (3, vI (i : Int)), (0, .v s.val)], [⟨89, (s.at i).cs⟩]⟩ [inR ((j : Int) + 1)] [] (by kernel_rfl) (oc (by unfold inR; omega) on) wn (Ln (q_loop (x := (⟨j, b⟩ : Nat × Bool)) (⟨j + 1, true⟩ : Nat × Bool) ⟨by omega, by simp only [allTo, hp]; simp_all⟩ (by show (s.at i).line.n - (j + 1) < (s.at i).line.n - j; omega) (Ss [6, 5, 4, 3, 0] 1 (by kernel_rfl) rfl))))))))
         | false =>
          refine Hq [(5, .idx (s.at i).line.ad j), (6, .ext [.int .i64 ((s.at i).line.at j)])] [(2, true), (3, false), (4, true), (5, true), (6, false)] [(60, vI ((s.at i).line.at j)), (59, .v (.pointer (some ((s.at i).line.ad.add (j * 1))))), (58, vI (j : Int)), (57, .v (s.at i).line.val), (56, .p 0 3), (55, vB false), (54, vB false), (51, vB true), (6, vI (j : Int)), (5, vB false), (4, .p 0 0), (3, vI (i : Int)), (0, .v s.val)] [(s.at i).line.A = some (s.at i).line.ad, (j : Int) = (j : Int), j < (s.at i).line.n] [((s.at i).line.ad.add (j * 1), [.int .i64 ((s.at i).line.at j)])] rfl (by kernel_rfl) (oc (Sl.ok.own (s := (s.at i).line) (i := j) (And.right (Sl.ok.at (s := s) (i := i) oks (by omega))) (by omega)) (oc rfl (oc (by omega) on))) (fun w hk hr => ⟨(Sl.rd.all (s := (s.at i).line) (i := j) (And.right (Sl.rd.sub (s := s) (i := i) (Sl.rd.kp hs hk) (by omega))) (by omega) rfl), trivial⟩) ?_
          refine h_pure 68 [] [vI ((s.at i).line.at j), vI 1, vI 9] (.bool (inB ((s.at i).line.at j) 1 9)) rfl Try.call68 rfl rfl rfl rfl (fun bs w hS => ref_In _ _ _ w) (fun bs0 bs w hp hl hS => hS.down hp hl rfl (le_same le_nil) .slnil) ?_
          refine Hq [] [(8, true), (9, true), (10, true)] [(64, vB (!(inB ((s.at i).line.at j) 1 9))), (63, vB (!(inB ((s.at i).line.at j) 1 9))), (62, vB (!(inB ((s.at i).line.at j) 1 9))), (61, vB (inB ((s.at i).line.at j) 1 9)), (60, vI ((s.at i).line.at j)), (59, .v (.pointer (some ((s.at i).line.ad.add (j * 1))))), (58, vI (j : Int)), (57, .v (s.at i).line.val), (56, .p 0 3), (55, vB false), (54, vB false), (51, vB true), (6, vI (j : Int)), (5, vB false), (4, .p 0 0), (3, vI (i : Int)), (0, .v s.val)] [] [] rfl (by kernel_rfl) on wn ?_
          cases h16 : inB ((s.at i).line.at j) 1 9 with
          | true =>
           refine Hq [(14, .idx (s.at i).line.ad j), (15, .ext [.int .i64 ((s.at i).line.at j)])] [(11, true), (12, false), (13, true), (14, true), (15, false), (16, true), (17, false), (18, true), (19, true), (20, true)] [(74, vB (decide (((s.at i).line.at j) = (s.at i).holder))), (73, vB (decide (((s.at i).line.at j) = (s.at i).holder))), (72, vB (decide (((s.at i).line.at j) = (s.at i).holder))), (71, vI (s.at i).holder), (70, .p 0 1), (69, vI ((s.at i).line.at j)), (68, .v (.pointer (some ((s.at i).line.ad.add (j * 1))))), (67, vI (j : Int)), (66, .v (s.at i).line.val), (65, .p 0 3), (64, vB false), (63, vB false), (62, vB false), (61, vB true), (60, vI ((s.at i).line.at j)), (59, .v (.pointer (some ((s.at i).line.ad.add (j * 1))))), (58, vI (j : Int)), (57, .v (s.at i).line.val), (56, .p 0 3), (55, vB false), (54, vB false), (51, vB true), (6, vI (j : Int)), (5, vB false), (4, .p 0 0), (3, vI (i : Int)), (0, .v s.val)] [(s.at i).line.A = some (s.at i).line.ad, (j : Int) = (j : Int), j < (s.at i).line.n] [((s.at i).line.ad.add (j * 1), [.int .i64 ((s.at i).line.at j)])] rfl (by kernel_rfl) (oc (Sl.ok.own (s := (s.at i).line) (i := j) (And.right (Sl.ok.at (s := s) (i := i) oks (by omega))) (by omega)) (oc rfl (oc (by omega) on))) (fun w hk hr => ⟨(Sl.rd.all (s := (s.at i).line) (i := j) (And.right (Sl.rd.sub (s := s) (i := i) (Sl.rd.kp hs hk) (by omega))) (by omega) rfl), trivial⟩) ?_
           cases h17 : decide (((s.at i).line.at j) = (s.at i).holder) with
           | true =>
            have h17 := of_decide_eq_true h17
            refine Hq [] [(21, true), (22, false), (23, true), (24, true), (25, true), (26, false), (27, true), (28, true), (29, false)] [(83, .v (undef)), (82, .v (undef)), (81, .v (undef)), (80, .v (undef)), (79, .v (undef)), (78, .v (undef)), (77, .v (undef)), (76, .v (undef)), (75, .v (undef)), (74, vB true), (73, vB true), (72, vB true), (71, vI (s.at i).holder), (70, .p 0 1), (69, vI ((s.at i).line.at j)), (68, .v (.pointer (some ((s.at i).line.ad.add (j * 1))))), (67, vI (j : Int)), (66, .v (s.at i).line.val), (65, .p 0 3), (64, vB false), (63, vB false), (62, vB false), (61, vB true), (60, vI ((s.at i).line.at j)), (59, .v (.pointer (some ((s.at i).line.ad.add (j * 1))))), (58, vI (j : Int)), (57, .v (s.at i).line.val), (56, .p 0 3), (55, vB false), (54, vB false), (51, vB true), (6, vI (j : Int)), (5, vB false), (4, .p 0 0), (3, vI (i : Int)), (0, .v s.val)] [] [] rfl (by kernel_rfl) on wn ?_
            refine Hp rfl rfl rfl ?_
            refine Hq [] [(31, true), (32, true)] [(5, vB true), (85, vB true), (84, .v (undef)), (83, .v (undef)), (82, .v (undef)), (81, .v (undef)), (80, .v (undef)), (79, .v (undef)), (78, .v (undef)), (77, .v (undef)), (76, .v (undef)), (75, .v (undef)), (74, vB true), (73, vB true), (72, vB true), (71, vI (s.at i).holder), (70, .p 0 1), (69, vI ((s.at i).line.at j)), (68, .v (.pointer (some ((s.at i).line.ad.add (j * 1))))), (67, vI (j : Int)), (66, .v (s.at i).line.val), (65, .p 0 3), (64, vB false), (63, vB false), (62, vB false), (61, vB true), (60, vI ((s.at i).line.at j)), (59, .v (.pointer (some ((s.at i).line.ad.add (j * 1))))), (58, vI (j : Int)), (57, .v (s.at i).line.val), (56, .p 0 3), (55, vB false), (54, vB false), (51, vB true), (6, vI (j : Int)), (4, .p 0 0), (3, vI (i : Int)), (0, .v s.val)] [] [] rfl (by kernel_rfl) on wn ?_
            refine Hn (Ln (q_block_normal (Qn (Cg (Jr 3 [] [6, 5, 4, 3, 0] 1 ⟨[(6, vI ((j : Int) + 1)), (5, vB true), (4, .p 0 0), (3, vI (i : Int)), (0, .v s.val)], [⟨89, (s.at i).cs⟩]⟩ [inR ((j : Int) + 1)] [] (by kernel_rfl) (oc (by unfold inR; omega) on) wn (Ln (q_loop (x := (⟨j, b⟩ : Nat × Bool)) (⟨j + 1, true⟩ : Nat × Bool) ⟨by omega, by simp only [allTo, hp]; simp_all⟩ (by show (s.at i).line.n - (j + 1) < (s.at i).line.n - j; omega) (Ss [6, 5, 4, 3, 0] 1 (by kernel_rfl) rfl))))))))
           | false =>
            have h17 := of_decide_eq_false h17
            refine Hq [(24, .sl 0 j), (28, .idx (s.at i).line.ad j), (29, .ext [.int .i64 ((s.at i).line.at j)])] [(21, true), (22, false), (23, true), (24, true), (25, true), (26, false), (27, true), (28, true), (29, false)] [(83, vI ((s.at i).line.at j)), (82, .v (.pointer (some ((s.at i).line.ad.add (j * 1))))), (81, vI (j : Int)), (80, .v (s.at i).line.val), (79, .p 0 3), (78, .v (.slice (s.at i).line.A j (s.at i).line.c)), (77, vI (j : Int)), (76, .v (s.at i).line.val), (75, .p 0 3), (74, vB false), (73, vB false), (72, vB false), (71, vI (s.at i).holder), (70, .p 0 1), (69, vI ((s.at i).line.at j)), (68, .v (.pointer (some ((s.at i).line.ad.add (j * 1))))), (67, vI (j : Int)), (66, .v (s.at i).line.val), (65, .p 0 3), (64, vB false), (63, vB false), (62, vB false), (61, vB true), (60, vI ((s.at i).line.at j)), (59, .v (.pointer (some ((s.at i).line.ad.add (j * 1))))), (58, vI (j : Int)), (57, .v (s.at i).line.val), (56, .p 0 3), (55, vB false), (54, vB false), (51, vB true), (6, vI (j : Int)), (5, vB false), (4, .p 0 0), (3, vI (i : Int)), (0, .v s.val)] [0 = 0, (j : Int) = (j : Int), j ≤ (s.at i).line.c, (s.at i).line.A = some (s.at i).line.ad, (j : Int) = (j : Int), j < (s.at i).line.n] [((s.at i).line.ad.add (j * 1), [.int .i64 ((s.at i).line.at j)])] rfl (by kernel_rfl) (oc rfl (oc rfl (oc (by omega) (oc (Sl.ok.own (s := (s.at i).line) (i := j) (And.right (Sl.ok.at (s := s) (i := i) oks (by omega))) (by omega)) (oc rfl (oc (by omega) on)))))) (fun w hk hr => ⟨(Sl.rd.all (s := (s.at i).line) (i := j) (And.right (Sl.rd.sub (s := s) (i := i) (Sl.rd.kp hs hk) (by omega))) (by omega) rfl), trivial⟩) ?_
            refine h_pure 97 [] [.v (.slice (s.at i).line.A j (s.at i).line.c), vI ((s.at i).line.at j)] (.bool (((s.at i).line.xs.take j).any fun z => decide (z = ((s.at i).line.at j)))) rfl Try.call97 rfl rfl rfl rfl (fun bs w hS => ref_has (s.at i).line j ((s.at i).line.at j) w (And.right (Sl.rd.sub (s := s) (i := i) (Sl.rd.kp hs hS.kp) (by omega))) (by omega)) (fun bs0 bs w hp hl hS => hS.down hp hl rfl (le_same le_nil) .slnil) ?_
            refine Hq [] [(31, true), (32, true)] [(5, vB (((s.at i).line.xs.take j).any fun z => decide (z = ((s.at i).line.at j)))), (85, vB (((s.at i).line.xs.take j).any fun z => decide (z = ((s.at i).line.at j)))), (84, vB (((s.at i).line.xs.take j).any fun z => decide (z = ((s.at i).line.at j)))), (83, vI ((s.at i).line.at j)), (82, .v (.pointer (some ((s.at i).line.ad.add (j * 1))))), (81, vI (j : Int)), (80, .v (s.at i).line.val), (79, .p 0 3), (78, .v (.slice (s.at i).line.A j (s.at i).line.c)), (77, vI (j : Int)), (76, .v (s.at i).line.val), (75, .p 0 3), (74, vB false), (73, vB false), (72, vB false), (71, vI (s.at i).holder), (70, .p 0 1), (69, vI ((s.at i).line.at j)), (68, .v (.pointer (some ((s.at i).line.ad.add (j * 1))))), (67, vI (j : Int)), (66, .v (s.at i).line.val), (65, .p 0 3), (64, vB false), (63, vB false), (62, vB false), (61, vB true), (60, vI ((s.at i).line.at j)), (59, .v (.pointer (some ((s.at i).line.ad.add (j * 1))))), (58, vI (j : Int)), (57, .v (s.at i).line.val), (56, .p 0 3), (55, vB false), (54, vB false), (51, vB true), (6, vI (j : Int)), (4, .p 0 0), (3, vI (i : Int)), (0, .v s.val)] [] [] rfl (by kernel_rfl) on wn ?_
            refine Hn (Ln (q_block_normal (Qn (Cg (Jr 3 [] [6, 5, 4, 3, 0] 1 ⟨[(6, vI ((j : Int) + 1)), (5, vB (((s.at i).line.xs.take j).any fun z => decide (z = ((s.at i).line.at j)))), (4, .p 0 0), (3, vI (i : Int)), (0, .v s.val)], [⟨89, (s.at i).cs⟩]⟩ [inR ((j : Int) + 1)] [] (by kernel_rfl) (oc (by unfold inR; omega) on) wn (Ln (q_loop (x := (⟨j, b⟩ : Nat × Bool)) (⟨j + 1, ((s.at i).line.xs.take j).any fun z => decide (z = ((s.at i).line.at j))⟩ : Nat × Bool) ⟨by omega, by simp only [allTo, hp]; simp_all⟩ (by show (s.at i).line.n - (j + 1) < (s.at i).line.n - j; omega) (Ss [6, 5, 4, 3, 0] 1 (by kernel_rfl) rfl))))))))
          | false =>
           refine Hq [] [(11, true), (12, false), (13, true), (14, true), (15, false), (16, true), (17, false), (18, true), (19, true), (20, true), (21, true), (22, false), (23, true), (24, true), (25, true), (26, false), (27, true), (28, true), (29, false)] [(83, .v (undef)), (82, .v (undef)), (81, .v (undef)), (80, .v (undef)), (79, .v (undef)), (78, .v (undef)), (77, .v (undef)), (76, .v (undef)), (75, .v (undef)), (74, vB true), (73, vB true), (72, .v (undef)), (71, .v (undef)), (70, .v (undef)), (69, .v (undef)), (68, .v (undef)), (67, .v (undef)), (66, .v (undef)), (65, .v (undef)), (64, vB true), (63, vB true), (62, vB true), (61, vB false), (60, vI ((s.at i).line.at j)), (59, .v (.pointer (some ((s.at i).line.ad.add (j * 1))))), (58, vI (j : Int)), (57, .v (s.at i).line.val), (56, .p 0 3), (55, vB false), (54, vB false), (51, vB true), (6, vI (j : Int)), (5, vB false), (4, .p 0 0), (3, vI (i : Int)), (0, .v s.val)] [] [] rfl (by kernel_rfl) on wn ?_
           refine Hp rfl rfl rfl ?_
           refine Hq [] [(31, true), (32, true)] [(5, vB true), (85, vB true), (84, .v (undef)), (83, .v (undef)), (82, .v (undef)), (81, .v (undef)), (80, .v (undef)), (79, .v (undef)), (78, .v (undef)), (77, .v (undef)), (76, .v (undef)), (75, .v (undef)), (74, vB true), (73, vB true), (72, .v (undef)), (71, .v (undef)), (70, .v (undef)), (69, .v (undef)), (68, .v (undef)), (67, .v (undef)), (66, .v (undef)), (65, .v (undef)), (64, vB true), (63, vB true), (62, vB true), (61, vB false), (60, vI ((s.at i).line.at j)), (59, .v (.pointer (some ((s.at i).line.ad.add (j * 1))))), (58, vI (j : Int)), (57, .v (s.at i).line.val), (56, .p 0 3), (55, vB false), (54, vB false), (51, vB true), (6, vI (j : Int)), (4, .p 0 0), (3, vI (i : Int)), (0, .v s.val)] [] [] rfl (by kernel_rfl) on wn ?_
           refine Hn (Ln (q_block_normal (Qn (Cg (Jr 3 [] [6, 5, 4, 3, 0] 1 ⟨[(6, vI ((j : Int) + 1)), (5, vB true), (4, .p 0 0), (3, vI (i : Int)), (0, .v s.val)], [⟨89, (s.at i).cs⟩]⟩ [inR ((j : Int) + 1)] [] (by kernel_rfl) (oc (by unfold inR; omega) on) wn (Ln (q_loop (x := (⟨j, b⟩ : Nat × Bool)) (⟨j + 1, true⟩ : Nat × Bool) ⟨by omega, by simp only [allTo, hp]; simp_all⟩ (by show (s.at i).line.n - (j + 1) < (s.at i).line.n - j; omega) (Ss [6, 5, 4, 3, 0] 1 (by kernel_rfl) rfl))))))))
        | false =>
         have h14 := of_decide_eq_false h14
         refine Ci false rfl (c_exit (Qe (Qe (Qh (Qn (Cs (Cs (Cg (Jq 1 [86, 4, 3, 0] 1 ⟨[(86, vB b), (4, .p 0 0), (3, vI (i : Int)), (0, .v s.val)], [⟨89, (s.at i).cs⟩]⟩ (Ln (Qn ?_)))))))))))
         cases h18 : b with
         | true =>
          refine Ci true rfl (Cs (Cg (Jq 1 [2] 0 ⟨[(2, vI 4)], []⟩ (Ln (Qn (Cr (Qr (Qb (Qr (Qr (Qb (Qr (Rt (.inl rfl) [vI 4] rfl (fun bs w hS => (⟨?_, hS.kp⟩)))))))))))))))
          simp only [retOf, den, List.map_cons, List.map_nil]
          have hf : lockF (s.xs.map CLock.abs) i = 4 := by
           have hor : mName (s.at i).name = false ∨ (s.at i).holder < 0 ∨ 9 < (s.at i).holder ∨ lineOk (s.at i).abs = false := by
            first | exact .inl (by assumption) | exact .inr ((show (s.at i).holder < 0 ∨ 9 < (s.at i).holder by omega).elim .inl (fun h => .inr (.inl h))) | exact .inr (.inr (.inr (lineOk_false (.inr (.inl (by show 3 < (s.at i).line.n; omega)))))) | exact .inr (.inr (.inr (lineOk_false (.inr (.inr ⟨by show (s.at i).holder = 0; omega, by show 0 < (s.at i).line.n; omega⟩))))) | exact .inr (.inr (.inr (lineOk_false (.inl (by show allTo _ (s.at i).line.n = false; rw [show (s.at i).line.n = j by omega]; cases hq : allTo (posOk (s.at i).abs) j <;> simp_all)))))
           unfold lockF
           simp only [hat, hq1, hq2, hq3]
           rw [if_pos hor]
          rw [hI, firstF_here (by omega) hf (by omega)]
         | false =>
          refine Ci false rfl (Ck (Qn (Cs (Cs (Cg (Jq 2 [88, 4, 3, 0] 1 ⟨[(88, vI (s.at i).fence), (4, .p 0 0), (3, vI (i : Int)), (0, .v s.val)], [⟨89, (s.at i).cs⟩]⟩ (Lp 68 [] [vI (s.at i).fence, vI 1, vI 1073741824] (.bool (inB (s.at i).fence 1 1073741824)) Try.call68 rfl rfl rfl rfl (fun bs w hS => ref_In _ _ _ w) (Jq 1 [90, 4, 3, 0] 1 ⟨[(90, vB (!(inB (s.at i).fence 1 1073741824))), (4, .p 0 0), (3, vI (i : Int)), (0, .v s.val)], [⟨89, (s.at i).cs⟩]⟩ (Ln (Qn ?_))))))))))
          cases h19 : inB (s.at i).fence 1 1073741824 with
          | true =>
           simp only [inB, Bool.and_eq_true, Bool.and_eq_false_iff, decide_eq_true_eq, decide_eq_false_iff_not] at h19
           refine Ci false rfl (Ck (Qn (Cs (Cd 13 [] (.p 0 (.p 1 (.p 2 (.p 3 (.q 4 (.p 5 (.p 6 (.p 7 (.p 8 (.p 9 (.q 10 (.p 11 (.p 12 .nil))))))))))))) [] [] Try_mixed (by kernel_rfl) (pq_then (pq_block (pq_then (pq_then (pq_block (pq_then pq_body)))))) .slnil (Hq [] [(0, true), (1, true), (2, true)] [(93, vB (decide ((0 : Int) < (i : Int)))), (92, vB (decide ((0 : Int) < (i : Int)))), (91, vI (i : Int)), (90, vB false), (4, .p 0 0), (3, vI (i : Int)), (0, .v s.val)] [] [] rfl (by kernel_rfl) on wn ?_)))))
           cases h20 : decide ((0 : Int) < (i : Int)) with
           | true =>
            have h20 := of_decide_eq_true h20
            refine Hq [(8, .idx s.ad (i - 1)), (10, .ext [.string (s.at (i - 1)).name])] [(3, true), (4, false), (5, true), (6, true), (7, true), (8, true), (9, true), (10, false), (11, true), (12, true)] [(103, vB (Op.bytesLess ((s.at i).name).toList ((s.at (i - 1)).name).toList || decide ((s.at i).name = (s.at (i - 1)).name))), (102, vB (Op.bytesLess ((s.at i).name).toList ((s.at (i - 1)).name).toList || decide ((s.at i).name = (s.at (i - 1)).name))), (101, vS (s.at (i - 1)).name), (100, .v (.pointer (some ((s.ad.add ((i - 1) * 4)).add 0)))), (99, .v (.pointer (some (s.ad.add ((i - 1) * 4))))), (98, vI ((i : Int) - 1)), (97, vI (i : Int)), (96, .v s.val), (95, vS (s.at i).name), (94, .p 0 0), (93, vB true), (92, vB true), (91, vI (i : Int)), (90, vB false), (4, .p 0 0), (3, vI (i : Int)), (0, .v s.val)] [inR ((i : Int) - 1), s.A = some s.ad, (i : Int) - 1 = (((i - 1) : Nat) : Int), (i - 1) < s.n] [((s.ad.add ((i - 1) * 4)).add 0, [.string (s.at (i - 1)).name])] rfl (by kernel_rfl) (oc (by unfold inR; omega) (oc (Sl.ok.own (s := s) (i := (i - 1)) oks (by omega)) (oc (by omega) (oc (by omega) on)))) (fun w hk hr => ⟨(Sl.rd.fld (s := s) (i := (i - 1)) (Sl.rd.kp hs hk) (by omega) 0 1 rfl), trivial⟩) ?_
            refine Hn (Ln (Qn ?_))
            cases h21 : Op.bytesLess ((s.at i).name).toList ((s.at (i - 1)).name).toList || decide ((s.at i).name = (s.at (i - 1)).name) with
            | true =>
             rw [bytes_total] at h21
             simp only [Bool.not_eq_true', Bool.not_eq_false', Bool.not_eq_true, Bool.not_eq_false] at h21
             refine Ci true rfl (Cs (Cg (Jq 1 [2] 0 ⟨[(2, vI 14)], []⟩ (Ln (Qn (Cr (Qb (Qr (Qr (Qb (Qr (Rt (.inl rfl) [vI 14] rfl (fun bs w hS => (⟨?_, hS.kp⟩))))))))))))))
             simp only [retOf, den, List.map_cons, List.map_nil]
             have hf : lockF (s.xs.map CLock.abs) i = 14 := by
              have hjn : (s.at i).line.n = j := by omega
              have hall : allTo (posOk (s.at i).abs) (s.at i).line.n = true := by rw [hjn]; cases hq : allTo (posOk (s.at i).abs) j <;> simp_all
              have hlo : lineOk (s.at i).abs = true := lineOk_true hall (by show (s.at i).line.n ≤ 3; omega) (by show ¬ (s.at i).holder = 0 ∨ (s.at i).line.n = 0; omega)
              unfold lockF
              simp only [hat, hq1, hq2, hq3]
              try simp only [hlo]
              try simp only [h1, h2, h3, h4, h5, h9, h10, h14, h18, h19, h20, h21, emp_size, ne_eq, not_true_eq_false, not_false_eq_true, true_or, or_true, false_or, or_false, and_true, true_and, and_false, false_and, and_self, or_self, if_true, if_false, Bool.true_eq_false, Bool.false_eq_true, reduceIte, Classical.not_not, Bool.and_eq_true, decide_eq_true_eq]
              repeat (first | rw [if_pos (by omega)] | rw [if_neg (by omega)])
              all_goals first | rfl | (exfalso; omega)
             rw [hI, firstF_here (by omega) hf (by omega)]
            | false =>
             rw [bytes_total] at h21
             simp only [Bool.not_eq_true', Bool.not_eq_false', Bool.not_eq_true, Bool.not_eq_false] at h21
             refine Ci false rfl (Ck (q_block_normal (Qn (Cg (Jr 3 [] [3, 0] 0 ⟨[(3, vI ((i : Int) + 1)), (0, .v s.val)], []⟩ [inR ((i : Int) + 1)] [] (by kernel_rfl) (oc (by unfold inR; omega) on) wn ?_)))))
             have hf0 : lockF (s.xs.map CLock.abs) i = 0 := by
              have hjn : (s.at i).line.n = j := by omega
              have hall : allTo (posOk (s.at i).abs) (s.at i).line.n = true := by rw [hjn]; cases hq : allTo (posOk (s.at i).abs) j <;> simp_all
              have hlo : lineOk (s.at i).abs = true := lineOk_true hall (by show (s.at i).line.n ≤ 3; omega) (by show ¬ (s.at i).holder = 0 ∨ (s.at i).line.n = 0; omega)
              unfold lockF
              simp only [hat, hq1, hq2, hq3]
              try simp only [hlo]
              try simp only [h1, h2, h3, h4, h5, h9, h10, h14, h18, h19, h20, h21, emp_size, ne_eq, not_true_eq_false, not_false_eq_true, true_or, or_true, false_or, or_false, and_true, true_and, and_false, false_and, and_self, or_self, if_true, if_false, Bool.true_eq_false, Bool.false_eq_true, reduceIte, Classical.not_not, Bool.and_eq_true, decide_eq_true_eq]
              repeat (first | rw [if_pos (by omega)] | rw [if_neg (by omega)])
              all_goals first | rfl | (exfalso; omega)
             refine Ln (q_loop (x := (i : Nat)) ((i + 1) : Nat) ⟨by omega, by rw [hI]; exact firstF_step (by omega) hf0⟩ (by omega) (Ss [3, 0] 0 (by kernel_rfl) rfl))
           | false =>
            have h20 := of_decide_eq_false h20
            refine Hq [] [(3, true), (4, false), (5, true), (6, true), (7, true), (8, true), (9, true), (10, false), (11, true), (12, true)] [(103, vB false), (102, .v (undef)), (101, .v (undef)), (100, .v (undef)), (99, .v (undef)), (98, .v (undef)), (97, .v (undef)), (96, .v (undef)), (95, .v (undef)), (94, .v (undef)), (93, vB false), (92, vB false), (91, vI (i : Int)), (90, vB false), (4, .p 0 0), (3, vI (i : Int)), (0, .v s.val)] [] [] rfl (by kernel_rfl) on wn ?_
            refine Hn (Ln (Qn (Ci false rfl (Ck (q_block_normal (Qn (Cg (Jr 3 [] [3, 0] 0 ⟨[(3, vI ((i : Int) + 1)), (0, .v s.val)], []⟩ [inR ((i : Int) + 1)] [] (by kernel_rfl) (oc (by unfold inR; omega) on) wn ?_))))))))
            have hf0 : lockF (s.xs.map CLock.abs) i = 0 := by
             have hjn : (s.at i).line.n = j := by omega
             have hall : allTo (posOk (s.at i).abs) (s.at i).line.n = true := by rw [hjn]; cases hq : allTo (posOk (s.at i).abs) j <;> simp_all
             have hlo : lineOk (s.at i).abs = true := lineOk_true hall (by show (s.at i).line.n ≤ 3; omega) (by show ¬ (s.at i).holder = 0 ∨ (s.at i).line.n = 0; omega)
             unfold lockF
             simp only [hat, hq1, hq2, hq3]
             try simp only [hlo]
             try simp only [h1, h2, h3, h4, h5, h9, h10, h14, h18, h19, h20, emp_size, ne_eq, not_true_eq_false, not_false_eq_true, true_or, or_true, false_or, or_false, and_true, true_and, and_false, false_and, and_self, or_self, if_true, if_false, Bool.true_eq_false, Bool.false_eq_true, reduceIte, Classical.not_not, Bool.and_eq_true, decide_eq_true_eq]
             repeat (first | rw [if_pos (by omega)] | rw [if_neg (by omega)])
             all_goals first | rfl | (exfalso; omega)
            refine Ln (q_loop (x := (i : Nat)) ((i + 1) : Nat) ⟨by omega, by rw [hI]; exact firstF_step (by omega) hf0⟩ (by omega) (Ss [3, 0] 0 (by kernel_rfl) rfl))
          | false =>
           simp only [inB, Bool.and_eq_true, Bool.and_eq_false_iff, decide_eq_true_eq, decide_eq_false_iff_not] at h19
           refine Ci true rfl (Cs (Cg (Jq 1 [2] 0 ⟨[(2, vI 2)], []⟩ (Ln (Qn (Cr (Qr (Qb (Qr (Qr (Qb (Qr (Rt (.inl rfl) [vI 2] rfl (fun bs w hS => (⟨?_, hS.kp⟩)))))))))))))))
           simp only [retOf, den, List.map_cons, List.map_nil]
           have hf : lockF (s.xs.map CLock.abs) i = 2 := by
            have hjn : (s.at i).line.n = j := by omega
            have hall : allTo (posOk (s.at i).abs) (s.at i).line.n = true := by rw [hjn]; cases hq : allTo (posOk (s.at i).abs) j <;> simp_all
            have hlo : lineOk (s.at i).abs = true := lineOk_true hall (by show (s.at i).line.n ≤ 3; omega) (by show ¬ (s.at i).holder = 0 ∨ (s.at i).line.n = 0; omega)
            unfold lockF
            simp only [hat, hq1, hq2, hq3]
            try simp only [hlo]
            try simp only [h1, h2, h3, h4, h5, h9, h10, h14, h18, h19, emp_size, ne_eq, not_true_eq_false, not_false_eq_true, true_or, or_true, false_or, or_false, and_true, true_and, and_false, false_and, and_self, or_self, if_true, if_false, Bool.true_eq_false, Bool.false_eq_true, reduceIte, Classical.not_not, Bool.and_eq_true, decide_eq_true_eq]
            repeat (first | rw [if_pos (by omega)] | rw [if_neg (by omega)])
            all_goals first | rfl | (exfalso; omega)
           rw [hI, firstF_here (by omega) hf (by omega)]
      | false =>
       have h9 := of_decide_eq_false h9
       refine Jq 7 [5, 4, 3, 0] 1 ⟨[(5, vB false), (4, .p 0 0), (3, vI (i : Int)), (0, .v s.val)], [⟨89, (s.at i).cs⟩]⟩ (Ln (Qn (Cs (Cs (Cg (Jq 1 [6, 5, 4, 3, 0] 1 ⟨[(6, vI 0), (5, vB false), (4, .p 0 0), (3, vI (i : Int)), (0, .v s.val)], [⟨89, (s.at i).cs⟩]⟩ (Ln (Qn (Cb (Cl (σ := Nat × Bool) (fun ⟨j, b⟩ => j ≤ (s.at i).line.n ∧ b = (false || !(allTo (posOk (s.at i).abs) j))) (fun ⟨j, b⟩ => (s.at i).line.n - j) (fun ⟨j, b⟩ => []) (fun ⟨j, b⟩ => ⟨[(6, vI (j : Int)), (5, vB b), (4, .p 0 0), (3, vI (i : Int)), (0, .v s.val)], [⟨89, (s.at i).cs⟩]⟩) ⟨0, false⟩ ⟨Nat.zero_le _, by simp [allTo]⟩ (Ss [6, 5, 4, 3, 0] 1 (by kernel_rfl) rfl) ?_))))))))))
       rintro ⟨j, b⟩ ⟨hj, hJ⟩
       have ncl := Sl.ok.nc (And.right (Sl.ok.at oks (show i < s.n by omega)))
       refine Cs (Cs (Cg (Jq 5 [51, 6, 5, 4, 3, 0] 1 ⟨[(51, vB (decide ((j : Int) < (((s.at i).line.n : Nat) : Int)))), (6, vI (j : Int)), (5, vB b), (4, .p 0 0), (3, vI (i : Int)), (0, .v s.val)], [⟨89, (s.at i).cs⟩]⟩ (Ln (Qn ?_)))))
       cases h22 : decide ((j : Int) < (((s.at i).line.n : Nat) : Int)) with
       | true =>
        have h22 := of_decide_eq_true h22
        refine Ci true rfl (Ck (Qn (Cs (Cb (Cd 33 [] (.p 0 (.p 1 (.p 2 (.q 3 (.p 4 (.p 5 (.q 6 (.b 7 (.p 8 (.p 9 (.p 10 (.p 11 (.q 12 (.p 13 (.p 14 (.q 15 (.p 16 (.q 17 (.p 18 (.p 19 (.p 20 (.p 21 (.q 22 (.p 23 (.p 24 (.p 25 (.q 26 (.p 27 (.p 28 (.q 29 (.b 30 (.p 31 (.p 32 .nil)) .z))))))))))))))))))))))) .z)))))))) [] [] Try_mixed (by kernel_rfl) (pq_block (pq_then (pq_then (pq_block (pq_then (pq_block (pq_then (pq_then (pq_block (pq_then pq_body)))))))))) .slnil (Hq [] [(0, true), (1, true)] [(55, vB b), (54, vB b), (51, vB true), (6, vI (j : Int)), (5, vB b), (4, .p 0 0), (3, vI (i : Int)), (0, .v s.val)] [] [] rfl (by kernel_rfl) on wn ?_))))))
        cases h23 : b with
        | true =>
         refine Hq [] [(2, true), (3, false), (4, true), (5, true), (6, false)] [(60, .v (undef)), (59, .v (undef)), (58, .v (undef)), (57, .v (undef)), (56, .v (undef)), (55, vB true), (54, vB true), (51, vB true), (6, vI (j : Int)), (5, vB true), (4, .p 0 0), (3, vI (i : Int)), (0, .v s.val)] [] [] rfl (by kernel_rfl) on wn ?_
         refine Hp rfl rfl rfl ?_
         refine Hq [] [(8, true), (9, true), (10, true), (11, true), (12, false), (13, true), (14, true), (15, false), (16, true), (17, false), (18, true), (19, true), (20, true), (21, true), (22, false), (23, true), (24, true), (25, true), (26, false), (27, true), (28, true), (29, false)] [(83, .v (undef)), (82, .v (undef)), (81, .v (undef)), (80, .v (undef)), (79, .v (undef)), (78, .v (undef)), (77, .v (undef)), (76, .v (undef)), (75, .v (undef)), (74, vB true), (73, vB true), (72, .v (undef)), (71, .v (undef)), (70, .v (undef)), (69, .v (undef)), (68, .v (undef)), (67, .v (undef)), (66, .v (undef)), (65, .v (undef)), (64, vB true), (63, vB true), (62, .v (undef)), (61, .v (undef)), (60, .v (undef)), (59, .v (undef)), (58, .v (undef)), (57, .v (undef)), (56, .v (undef)), (55, vB true), (54, vB true), (51, vB true), (6, vI (j : Int)), (5, vB true), (4, .p 0 0), (3, vI (i : Int)), (0, .v s.val)] [] [] rfl (by kernel_rfl) on wn ?_
         refine Hp rfl rfl rfl ?_
         refine Hq [] [(31, true), (32, true)] [(5, vB true), (85, vB true), (84, .v (undef)), (83, .v (undef)), (82, .v (undef)), (81, .v (undef)), (80, .v (undef)), (79, .v (undef)), (78, .v (undef)), (77, .v (undef)), (76, .v (undef)), (75, .v (undef)), (74, vB true), (73, vB true), (72, .v (undef)), (71, .v (undef)), (70, .v (undef)), (69, .v (undef)), (68, .v (undef)), (67, .v (undef)), (66, .v (undef)), (65, .v (undef)), (64, vB true), (63, vB true), (62, .v (undef)), (61, .v (undef)), (60, .v (undef)), (59, .v (undef)), (58, .v (undef)), (57, .v (undef)), (56, .v (undef)), (55, vB true), (54, vB true), (51, vB true), (6, vI (j : Int)), (4, .p 0 0), (3, vI (i : Int)), (0, .v s.val)] [] [] rfl (by kernel_rfl) on wn ?_
         refine Hn (Ln (q_block_normal (Qn (Cg (Jr 3 [] [6, 5, 4, 3, 0] 1 ⟨[(6, vI ((j : Int) + 1)), (5, vB true), (4, .p 0 0), (3, vI (i : Int)), (0, .v s.val)], [⟨89, (s.at i).cs⟩]⟩ [inR ((j : Int) + 1)] [] (by kernel_rfl) (oc (by unfold inR; omega) on) wn (Ln (q_loop (x := (⟨j, b⟩ : Nat × Bool)) (⟨j + 1, true⟩ : Nat × Bool) ⟨by omega, by simp only [allTo, hp]; simp_all⟩ (by show (s.at i).line.n - (j + 1) < (s.at i).line.n - j; omega) (Ss [6, 5, 4, 3, 0] 1 (by kernel_rfl) rfl))))))))
        | false =>
         refine Hq [(5, .idx (s.at i).line.ad j), (6, .ext [.int .i64 ((s.at i).line.at j)])] [(2, true), (3, false), (4, true), (5, true), (6, false)] [(60, vI ((s.at i).line.at j)), (59, .v (.pointer (some ((s.at i).line.ad.add (j * 1))))), (58, vI (j : Int)), (57, .v (s.at i).line.val), (56, .p 0 3), (55, vB false), (54, vB false), (51, vB true), (6, vI (j : Int)), (5, vB false), (4, .p 0 0), (3, vI (i : Int)), (0, .v s.val)] [(s.at i).line.A = some (s.at i).line.ad, (j : Int) = (j : Int), j < (s.at i).line.n] [((s.at i).line.ad.add (j * 1), [.int .i64 ((s.at i).line.at j)])] rfl (by kernel_rfl) (oc (Sl.ok.own (s := (s.at i).line) (i := j) (And.right (Sl.ok.at (s := s) (i := i) oks (by omega))) (by omega)) (oc rfl (oc (by omega) on))) (fun w hk hr => ⟨(Sl.rd.all (s := (s.at i).line) (i := j) (And.right (Sl.rd.sub (s := s) (i := i) (Sl.rd.kp hs hk) (by omega))) (by omega) rfl), trivial⟩) ?_
         refine h_pure 68 [] [vI ((s.at i).line.at j), vI 1, vI 9] (.bool (inB ((s.at i).line.at j) 1 9)) rfl Try.call68 rfl rfl rfl rfl (fun bs w hS => ref_In _ _ _ w) (fun bs0 bs w hp hl hS => hS.down hp hl rfl (le_same le_nil) .slnil) ?_
         refine Hq [] [(8, true), (9, true), (10, true)] [(64, vB (!(inB ((s.at i).line.at j) 1 9))), (63, vB (!(inB ((s.at i).line.at j) 1 9))), (62, vB (!(inB ((s.at i).line.at j) 1 9))), (61, vB (inB ((s.at i).line.at j) 1 9)), (60, vI ((s.at i).line.at j)), (59, .v (.pointer (some ((s.at i).line.ad.add (j * 1))))), (58, vI (j : Int)), (57, .v (s.at i).line.val), (56, .p 0 3), (55, vB false), (54, vB false), (51, vB true), (6, vI (j : Int)), (5, vB false), (4, .p 0 0), (3, vI (i : Int)), (0, .v s.val)] [] [] rfl (by kernel_rfl) on wn ?_
         cases h24 : inB ((s.at i).line.at j) 1 9 with
         | true =>
          refine Hq [(14, .idx (s.at i).line.ad j), (15, .ext [.int .i64 ((s.at i).line.at j)])] [(11, true), (12, false), (13, true), (14, true), (15, false), (16, true), (17, false), (18, true), (19, true), (20, true)] [(74, vB (decide (((s.at i).line.at j) = (s.at i).holder))), (73, vB (decide (((s.at i).line.at j) = (s.at i).holder))), (72, vB (decide (((s.at i).line.at j) = (s.at i).holder))), (71, vI (s.at i).holder), (70, .p 0 1), (69, vI ((s.at i).line.at j)), (68, .v (.pointer (some ((s.at i).line.ad.add (j * 1))))), (67, vI (j : Int)), (66, .v (s.at i).line.val), (65, .p 0 3), (64, vB false), (63, vB false), (62, vB false), (61, vB true), (60, vI ((s.at i).line.at j)), (59, .v (.pointer (some ((s.at i).line.ad.add (j * 1))))), (58, vI (j : Int)), (57, .v (s.at i).line.val), (56, .p 0 3), (55, vB false), (54, vB false), (51, vB true), (6, vI (j : Int)), (5, vB false), (4, .p 0 0), (3, vI (i : Int)), (0, .v s.val)] [(s.at i).line.A = some (s.at i).line.ad, (j : Int) = (j : Int), j < (s.at i).line.n] [((s.at i).line.ad.add (j * 1), [.int .i64 ((s.at i).line.at j)])] rfl (by kernel_rfl) (oc (Sl.ok.own (s := (s.at i).line) (i := j) (And.right (Sl.ok.at (s := s) (i := i) oks (by omega))) (by omega)) (oc rfl (oc (by omega) on))) (fun w hk hr => ⟨(Sl.rd.all (s := (s.at i).line) (i := j) (And.right (Sl.rd.sub (s := s) (i := i) (Sl.rd.kp hs hk) (by omega))) (by omega) rfl), trivial⟩) ?_
          cases h25 : decide (((s.at i).line.at j) = (s.at i).holder) with
          | true =>
           have h25 := of_decide_eq_true h25
           refine Hq [] [(21, true), (22, false), (23, true), (24, true), (25, true), (26, false), (27, true), (28, true), (29, false)] [(83, .v (undef)), (82, .v (undef)), (81, .v (undef)), (80, .v (undef)), (79, .v (undef)), (78, .v (undef)), (77, .v (undef)), (76, .v (undef)), (75, .v (undef)), (74, vB true), (73, vB true), (72, vB true), (71, vI (s.at i).holder), (70, .p 0 1), (69, vI ((s.at i).line.at j)), (68, .v (.pointer (some ((s.at i).line.ad.add (j * 1))))), (67, vI (j : Int)), (66, .v (s.at i).line.val), (65, .p 0 3), (64, vB false), (63, vB false), (62, vB false), (61, vB true), (60, vI ((s.at i).line.at j)), (59, .v (.pointer (some ((s.at i).line.ad.add (j * 1))))), (58, vI (j : Int)), (57, .v (s.at i).line.val), (56, .p 0 3), (55, vB false), (54, vB false), (51, vB true), (6, vI (j : Int)), (5, vB false), (4, .p 0 0), (3, vI (i : Int)), (0, .v s.val)] [] [] rfl (by kernel_rfl) on wn ?_
           refine Hp rfl rfl rfl ?_
           refine Hq [] [(31, true), (32, true)] [(5, vB true), (85, vB true), (84, .v (undef)), (83, .v (undef)), (82, .v (undef)), (81, .v (undef)), (80, .v (undef)), (79, .v (undef)), (78, .v (undef)), (77, .v (undef)), (76, .v (undef)), (75, .v (undef)), (74, vB true), (73, vB true), (72, vB true), (71, vI (s.at i).holder), (70, .p 0 1), (69, vI ((s.at i).line.at j)), (68, .v (.pointer (some ((s.at i).line.ad.add (j * 1))))), (67, vI (j : Int)), (66, .v (s.at i).line.val), (65, .p 0 3), (64, vB false), (63, vB false), (62, vB false), (61, vB true), (60, vI ((s.at i).line.at j)), (59, .v (.pointer (some ((s.at i).line.ad.add (j * 1))))), (58, vI (j : Int)), (57, .v (s.at i).line.val), (56, .p 0 3), (55, vB false), (54, vB false), (51, vB true), (6, vI (j : Int)), (4, .p 0 0), (3, vI (i : Int)), (0, .v s.val)] [] [] rfl (by kernel_rfl) on wn ?_
           refine Hn (Ln (q_block_normal (Qn (Cg (Jr 3 [] [6, 5, 4, 3, 0] 1 ⟨[(6, vI ((j : Int) + 1)), (5, vB true), (4, .p 0 0), (3, vI (i : Int)), (0, .v s.val)], [⟨89, (s.at i).cs⟩]⟩ [inR ((j : Int) + 1)] [] (by kernel_rfl) (oc (by unfold inR; omega) on) wn (Ln (q_loop (x := (⟨j, b⟩ : Nat × Bool)) (⟨j + 1, true⟩ : Nat × Bool) ⟨by omega, by simp only [allTo, hp]; simp_all⟩ (by show (s.at i).line.n - (j + 1) < (s.at i).line.n - j; omega) (Ss [6, 5, 4, 3, 0] 1 (by kernel_rfl) rfl))))))))
          | false =>
           have h25 := of_decide_eq_false h25
           refine Hq [(24, .sl 0 j), (28, .idx (s.at i).line.ad j), (29, .ext [.int .i64 ((s.at i).line.at j)])] [(21, true), (22, false), (23, true), (24, true), (25, true), (26, false), (27, true), (28, true), (29, false)] [(83, vI ((s.at i).line.at j)), (82, .v (.pointer (some ((s.at i).line.ad.add (j * 1))))), (81, vI (j : Int)), (80, .v (s.at i).line.val), (79, .p 0 3), (78, .v (.slice (s.at i).line.A j (s.at i).line.c)), (77, vI (j : Int)), (76, .v (s.at i).line.val), (75, .p 0 3), (74, vB false), (73, vB false), (72, vB false), (71, vI (s.at i).holder), (70, .p 0 1), (69, vI ((s.at i).line.at j)), (68, .v (.pointer (some ((s.at i).line.ad.add (j * 1))))), (67, vI (j : Int)), (66, .v (s.at i).line.val), (65, .p 0 3), (64, vB false), (63, vB false), (62, vB false), (61, vB true), (60, vI ((s.at i).line.at j)), (59, .v (.pointer (some ((s.at i).line.ad.add (j * 1))))), (58, vI (j : Int)), (57, .v (s.at i).line.val), (56, .p 0 3), (55, vB false), (54, vB false), (51, vB true), (6, vI (j : Int)), (5, vB false), (4, .p 0 0), (3, vI (i : Int)), (0, .v s.val)] [0 = 0, (j : Int) = (j : Int), j ≤ (s.at i).line.c, (s.at i).line.A = some (s.at i).line.ad, (j : Int) = (j : Int), j < (s.at i).line.n] [((s.at i).line.ad.add (j * 1), [.int .i64 ((s.at i).line.at j)])] rfl (by kernel_rfl) (oc rfl (oc rfl (oc (by omega) (oc (Sl.ok.own (s := (s.at i).line) (i := j) (And.right (Sl.ok.at (s := s) (i := i) oks (by omega))) (by omega)) (oc rfl (oc (by omega) on)))))) (fun w hk hr => ⟨(Sl.rd.all (s := (s.at i).line) (i := j) (And.right (Sl.rd.sub (s := s) (i := i) (Sl.rd.kp hs hk) (by omega))) (by omega) rfl), trivial⟩) ?_
           refine h_pure 97 [] [.v (.slice (s.at i).line.A j (s.at i).line.c), vI ((s.at i).line.at j)] (.bool (((s.at i).line.xs.take j).any fun z => decide (z = ((s.at i).line.at j)))) rfl Try.call97 rfl rfl rfl rfl (fun bs w hS => ref_has (s.at i).line j ((s.at i).line.at j) w (And.right (Sl.rd.sub (s := s) (i := i) (Sl.rd.kp hs hS.kp) (by omega))) (by omega)) (fun bs0 bs w hp hl hS => hS.down hp hl rfl (le_same le_nil) .slnil) ?_
           refine Hq [] [(31, true), (32, true)] [(5, vB (((s.at i).line.xs.take j).any fun z => decide (z = ((s.at i).line.at j)))), (85, vB (((s.at i).line.xs.take j).any fun z => decide (z = ((s.at i).line.at j)))), (84, vB (((s.at i).line.xs.take j).any fun z => decide (z = ((s.at i).line.at j)))), (83, vI ((s.at i).line.at j)), (82, .v (.pointer (some ((s.at i).line.ad.add (j * 1))))), (81, vI (j : Int)), (80, .v (s.at i).line.val), (79, .p 0 3), (78, .v (.slice (s.at i).line.A j (s.at i).line.c)), (77, vI (j : Int)), (76, .v (s.at i).line.val), (75, .p 0 3), (74, vB false), (73, vB false), (72, vB false), (71, vI (s.at i).holder), (70, .p 0 1), (69, vI ((s.at i).line.at j)), (68, .v (.pointer (some ((s.at i).line.ad.add (j * 1))))), (67, vI (j : Int)), (66, .v (s.at i).line.val), (65, .p 0 3), (64, vB false), (63, vB false), (62, vB false), (61, vB true), (60, vI ((s.at i).line.at j)), (59, .v (.pointer (some ((s.at i).line.ad.add (j * 1))))), (58, vI (j : Int)), (57, .v (s.at i).line.val), (56, .p 0 3), (55, vB false), (54, vB false), (51, vB true), (6, vI (j : Int)), (4, .p 0 0), (3, vI (i : Int)), (0, .v s.val)] [] [] rfl (by kernel_rfl) on wn ?_
           refine Hn (Ln (q_block_normal (Qn (Cg (Jr 3 [] [6, 5, 4, 3, 0] 1 ⟨[(6, vI ((j : Int) + 1)), (5, vB (((s.at i).line.xs.take j).any fun z => decide (z = ((s.at i).line.at j)))), (4, .p 0 0), (3, vI (i : Int)), (0, .v s.val)], [⟨89, (s.at i).cs⟩]⟩ [inR ((j : Int) + 1)] [] (by kernel_rfl) (oc (by unfold inR; omega) on) wn (Ln (q_loop (x := (⟨j, b⟩ : Nat × Bool)) (⟨j + 1, ((s.at i).line.xs.take j).any fun z => decide (z = ((s.at i).line.at j))⟩ : Nat × Bool) ⟨by omega, by simp only [allTo, hp]; simp_all⟩ (by show (s.at i).line.n - (j + 1) < (s.at i).line.n - j; omega) (Ss [6, 5, 4, 3, 0] 1 (by kernel_rfl) rfl))))))))
         | false =>
          refine Hq [] [(11, true), (12, false), (13, true), (14, true), (15, false), (16, true), (17, false), (18, true), (19, true), (20, true), (21, true), (22, false), (23, true), (24, true), (25, true), (26, false), (27, true), (28, true), (29, false)] [(83, .v (undef)), (82, .v (undef)), (81, .v (undef)), (80, .v (undef)), (79, .v (undef)), (78, .v (undef)), (77, .v (undef)), (76, .v (undef)), (75, .v (undef)), (74, vB true), (73, vB true), (72, .v (undef)), (71, .v (undef)), (70, .v (undef)), (69, .v (undef)), (68, .v (undef)), (67, .v (undef)), (66, .v (undef)), (65, .v (undef)), (64, vB true), (63, vB true), (62, vB true), (61, vB false), (60, vI ((s.at i).line.at j)), (59, .v (.pointer (some ((s.at i).line.ad.add (j * 1))))), (58, vI (j : Int)), (57, .v (s.at i).line.val), (56, .p 0 3), (55, vB false), (54, vB false), (51, vB true), (6, vI (j : Int)), (5, vB false), (4, .p 0 0), (3, vI (i : Int)), (0, .v s.val)] [] [] rfl (by kernel_rfl) on wn ?_
          refine Hp rfl rfl rfl ?_
          refine Hq [] [(31, true), (32, true)] [(5, vB true), (85, vB true), (84, .v (undef)), (83, .v (undef)), (82, .v (undef)), (81, .v (undef)), (80, .v (undef)), (79, .v (undef)), (78, .v (undef)), (77, .v (undef)), (76, .v (undef)), (75, .v (undef)), (74, vB true), (73, vB true), (72, .v (undef)), (71, .v (undef)), (70, .v (undef)), (69, .v (undef)), (68, .v (undef)), (67, .v (undef)), (66, .v (undef)), (65, .v (undef)), (64, vB true), (63, vB true), (62, vB true), (61, vB false), (60, vI ((s.at i).line.at j)), (59, .v (.pointer (some ((s.at i).line.ad.add (j * 1))))), (58, vI (j : Int)), (57, .v (s.at i).line.val), (56, .p 0 3), (55, vB false), (54, vB false), (51, vB true), (6, vI (j : Int)), (4, .p 0 0), (3, vI (i : Int)), (0, .v s.val)] [] [] rfl (by kernel_rfl) on wn ?_
          refine Hn (Ln (q_block_normal (Qn (Cg (Jr 3 [] [6, 5, 4, 3, 0] 1 ⟨[(6, vI ((j : Int) + 1)), (5, vB true), (4, .p 0 0), (3, vI (i : Int)), (0, .v s.val)], [⟨89, (s.at i).cs⟩]⟩ [inR ((j : Int) + 1)] [] (by kernel_rfl) (oc (by unfold inR; omega) on) wn (Ln (q_loop (x := (⟨j, b⟩ : Nat × Bool)) (⟨j + 1, true⟩ : Nat × Bool) ⟨by omega, by simp only [allTo, hp]; simp_all⟩ (by show (s.at i).line.n - (j + 1) < (s.at i).line.n - j; omega) (Ss [6, 5, 4, 3, 0] 1 (by kernel_rfl) rfl))))))))
       | false =>
        have h22 := of_decide_eq_false h22
        refine Ci false rfl (c_exit (Qe (Qe (Qh (Qn (Cs (Cs (Cg (Jq 1 [86, 4, 3, 0] 1 ⟨[(86, vB b), (4, .p 0 0), (3, vI (i : Int)), (0, .v s.val)], [⟨89, (s.at i).cs⟩]⟩ (Ln (Qn ?_)))))))))))
        cases h26 : b with
        | true =>
         refine Ci true rfl (Cs (Cg (Jq 1 [2] 0 ⟨[(2, vI 4)], []⟩ (Ln (Qn (Cr (Qr (Qb (Qr (Qr (Qb (Qr (Rt (.inl rfl) [vI 4] rfl (fun bs w hS => (⟨?_, hS.kp⟩)))))))))))))))
         simp only [retOf, den, List.map_cons, List.map_nil]
         have hf : lockF (s.xs.map CLock.abs) i = 4 := by
          have hor : mName (s.at i).name = false ∨ (s.at i).holder < 0 ∨ 9 < (s.at i).holder ∨ lineOk (s.at i).abs = false := by
           first | exact .inl (by assumption) | exact .inr ((show (s.at i).holder < 0 ∨ 9 < (s.at i).holder by omega).elim .inl (fun h => .inr (.inl h))) | exact .inr (.inr (.inr (lineOk_false (.inr (.inl (by show 3 < (s.at i).line.n; omega)))))) | exact .inr (.inr (.inr (lineOk_false (.inr (.inr ⟨by show (s.at i).holder = 0; omega, by show 0 < (s.at i).line.n; omega⟩))))) | exact .inr (.inr (.inr (lineOk_false (.inl (by show allTo _ (s.at i).line.n = false; rw [show (s.at i).line.n = j by omega]; cases hq : allTo (posOk (s.at i).abs) j <;> simp_all)))))
          unfold lockF
          simp only [hat, hq1, hq2, hq3]
          rw [if_pos hor]
         rw [hI, firstF_here (by omega) hf (by omega)]
        | false =>
         refine Ci false rfl (Ck (Qn (Cs (Cs (Cg (Jq 2 [88, 4, 3, 0] 1 ⟨[(88, vI (s.at i).fence), (4, .p 0 0), (3, vI (i : Int)), (0, .v s.val)], [⟨89, (s.at i).cs⟩]⟩ (Lp 68 [] [vI (s.at i).fence, vI 1, vI 1073741824] (.bool (inB (s.at i).fence 1 1073741824)) Try.call68 rfl rfl rfl rfl (fun bs w hS => ref_In _ _ _ w) (Jq 1 [90, 4, 3, 0] 1 ⟨[(90, vB (!(inB (s.at i).fence 1 1073741824))), (4, .p 0 0), (3, vI (i : Int)), (0, .v s.val)], [⟨89, (s.at i).cs⟩]⟩ (Ln (Qn ?_))))))))))
         cases h27 : inB (s.at i).fence 1 1073741824 with
         | true =>
          simp only [inB, Bool.and_eq_true, Bool.and_eq_false_iff, decide_eq_true_eq, decide_eq_false_iff_not] at h27
          refine Ci false rfl (Ck (Qn (Cs (Cd 13 [] (.p 0 (.p 1 (.p 2 (.p 3 (.q 4 (.p 5 (.p 6 (.p 7 (.p 8 (.p 9 (.q 10 (.p 11 (.p 12 .nil))))))))))))) [] [] Try_mixed (by kernel_rfl) (pq_then (pq_block (pq_then (pq_then (pq_block (pq_then pq_body)))))) .slnil (Hq [] [(0, true), (1, true), (2, true)] [(93, vB (decide ((0 : Int) < (i : Int)))), (92, vB (decide ((0 : Int) < (i : Int)))), (91, vI (i : Int)), (90, vB false), (4, .p 0 0), (3, vI (i : Int)), (0, .v s.val)] [] [] rfl (by kernel_rfl) on wn ?_)))))
          cases h28 : decide ((0 : Int) < (i : Int)) with
          | true =>
           have h28 := of_decide_eq_true h28
           refine Hq [(8, .idx s.ad (i - 1)), (10, .ext [.string (s.at (i - 1)).name])] [(3, true), (4, false), (5, true), (6, true), (7, true), (8, true), (9, true), (10, false), (11, true), (12, true)] [(103, vB (Op.bytesLess ((s.at i).name).toList ((s.at (i - 1)).name).toList || decide ((s.at i).name = (s.at (i - 1)).name))), (102, vB (Op.bytesLess ((s.at i).name).toList ((s.at (i - 1)).name).toList || decide ((s.at i).name = (s.at (i - 1)).name))), (101, vS (s.at (i - 1)).name), (100, .v (.pointer (some ((s.ad.add ((i - 1) * 4)).add 0)))), (99, .v (.pointer (some (s.ad.add ((i - 1) * 4))))), (98, vI ((i : Int) - 1)), (97, vI (i : Int)), (96, .v s.val), (95, vS (s.at i).name), (94, .p 0 0), (93, vB true), (92, vB true), (91, vI (i : Int)), (90, vB false), (4, .p 0 0), (3, vI (i : Int)), (0, .v s.val)] [inR ((i : Int) - 1), s.A = some s.ad, (i : Int) - 1 = (((i - 1) : Nat) : Int), (i - 1) < s.n] [((s.ad.add ((i - 1) * 4)).add 0, [.string (s.at (i - 1)).name])] rfl (by kernel_rfl) (oc (by unfold inR; omega) (oc (Sl.ok.own (s := s) (i := (i - 1)) oks (by omega)) (oc (by omega) (oc (by omega) on)))) (fun w hk hr => ⟨(Sl.rd.fld (s := s) (i := (i - 1)) (Sl.rd.kp hs hk) (by omega) 0 1 rfl), trivial⟩) ?_
           refine Hn (Ln (Qn ?_))
           cases h29 : Op.bytesLess ((s.at i).name).toList ((s.at (i - 1)).name).toList || decide ((s.at i).name = (s.at (i - 1)).name) with
           | true =>
            rw [bytes_total] at h29
            simp only [Bool.not_eq_true', Bool.not_eq_false', Bool.not_eq_true, Bool.not_eq_false] at h29
            refine Ci true rfl (Cs (Cg (Jq 1 [2] 0 ⟨[(2, vI 14)], []⟩ (Ln (Qn (Cr (Qb (Qr (Qr (Qb (Qr (Rt (.inl rfl) [vI 14] rfl (fun bs w hS => (⟨?_, hS.kp⟩))))))))))))))
            simp only [retOf, den, List.map_cons, List.map_nil]
            have hf : lockF (s.xs.map CLock.abs) i = 14 := by
             have hjn : (s.at i).line.n = j := by omega
             have hall : allTo (posOk (s.at i).abs) (s.at i).line.n = true := by rw [hjn]; cases hq : allTo (posOk (s.at i).abs) j <;> simp_all
             have hlo : lineOk (s.at i).abs = true := lineOk_true hall (by show (s.at i).line.n ≤ 3; omega) (by show ¬ (s.at i).holder = 0 ∨ (s.at i).line.n = 0; omega)
             unfold lockF
             simp only [hat, hq1, hq2, hq3]
             try simp only [hlo]
             try simp only [h1, h2, h3, h4, h5, h9, h22, h26, h27, h28, h29, emp_size, ne_eq, not_true_eq_false, not_false_eq_true, true_or, or_true, false_or, or_false, and_true, true_and, and_false, false_and, and_self, or_self, if_true, if_false, Bool.true_eq_false, Bool.false_eq_true, reduceIte, Classical.not_not, Bool.and_eq_true, decide_eq_true_eq]
             repeat (first | rw [if_pos (by omega)] | rw [if_neg (by omega)])
             all_goals first | rfl | (exfalso; omega)
            rw [hI, firstF_here (by omega) hf (by omega)]
           | false =>
            rw [bytes_total] at h29
            simp only [Bool.not_eq_true', Bool.not_eq_false', Bool.not_eq_true, Bool.not_eq_false] at h29
            refine Ci false rfl (Ck (q_block_normal (Qn (Cg (Jr 3 [] [3, 0] 0 ⟨[(3, vI ((i : Int) + 1)), (0, .v s.val)], []⟩ [inR ((i : Int) + 1)] [] (by kernel_rfl) (oc (by unfold inR; omega) on) wn ?_)))))
            have hf0 : lockF (s.xs.map CLock.abs) i = 0 := by
             have hjn : (s.at i).line.n = j := by omega
             have hall : allTo (posOk (s.at i).abs) (s.at i).line.n = true := by rw [hjn]; cases hq : allTo (posOk (s.at i).abs) j <;> simp_all
             have hlo : lineOk (s.at i).abs = true := lineOk_true hall (by show (s.at i).line.n ≤ 3; omega) (by show ¬ (s.at i).holder = 0 ∨ (s.at i).line.n = 0; omega)
             unfold lockF
             simp only [hat, hq1, hq2, hq3]
             try simp only [hlo]
             try simp only [h1, h2, h3, h4, h5, h9, h22, h26, h27, h28, h29, emp_size, ne_eq, not_true_eq_false, not_false_eq_true, true_or, or_true, false_or, or_false, and_true, true_and, and_false, false_and, and_self, or_self, if_true, if_false, Bool.true_eq_false, Bool.false_eq_true, reduceIte, Classical.not_not, Bool.and_eq_true, decide_eq_true_eq]
             repeat (first | rw [if_pos (by omega)] | rw [if_neg (by omega)])
             all_goals first | rfl | (exfalso; omega)
            refine Ln (q_loop (x := (i : Nat)) ((i + 1) : Nat) ⟨by omega, by rw [hI]; exact firstF_step (by omega) hf0⟩ (by omega) (Ss [3, 0] 0 (by kernel_rfl) rfl))
          | false =>
           have h28 := of_decide_eq_false h28
           refine Hq [] [(3, true), (4, false), (5, true), (6, true), (7, true), (8, true), (9, true), (10, false), (11, true), (12, true)] [(103, vB false), (102, .v (undef)), (101, .v (undef)), (100, .v (undef)), (99, .v (undef)), (98, .v (undef)), (97, .v (undef)), (96, .v (undef)), (95, .v (undef)), (94, .v (undef)), (93, vB false), (92, vB false), (91, vI (i : Int)), (90, vB false), (4, .p 0 0), (3, vI (i : Int)), (0, .v s.val)] [] [] rfl (by kernel_rfl) on wn ?_
           refine Hn (Ln (Qn (Ci false rfl (Ck (q_block_normal (Qn (Cg (Jr 3 [] [3, 0] 0 ⟨[(3, vI ((i : Int) + 1)), (0, .v s.val)], []⟩ [inR ((i : Int) + 1)] [] (by kernel_rfl) (oc (by unfold inR; omega) on) wn ?_))))))))
           have hf0 : lockF (s.xs.map CLock.abs) i = 0 := by
            have hjn : (s.at i).line.n = j := by omega
            have hall : allTo (posOk (s.at i).abs) (s.at i).line.n = true := by rw [hjn]; cases hq : allTo (posOk (s.at i).abs) j <;> simp_all
            have hlo : lineOk (s.at i).abs = true := lineOk_true hall (by show (s.at i).line.n ≤ 3; omega) (by show ¬ (s.at i).holder = 0 ∨ (s.at i).line.n = 0; omega)
            unfold lockF
            simp only [hat, hq1, hq2, hq3]
            try simp only [hlo]
            try simp only [h1, h2, h3, h4, h5, h9, h22, h26, h27, h28, emp_size, ne_eq, not_true_eq_false, not_false_eq_true, true_or, or_true, false_or, or_false, and_true, true_and, and_false, false_and, and_self, or_self, if_true, if_false, Bool.true_eq_false, Bool.false_eq_true, reduceIte, Classical.not_not, Bool.and_eq_true, decide_eq_true_eq]
            repeat (first | rw [if_pos (by omega)] | rw [if_neg (by omega)])
            all_goals first | rfl | (exfalso; omega)
           refine Ln (q_loop (x := (i : Nat)) ((i + 1) : Nat) ⟨by omega, by rw [hI]; exact firstF_step (by omega) hf0⟩ (by omega) (Ss [3, 0] 0 (by kernel_rfl) rfl))
         | false =>
          simp only [inB, Bool.and_eq_true, Bool.and_eq_false_iff, decide_eq_true_eq, decide_eq_false_iff_not] at h27
          refine Ci true rfl (Cs (Cg (Jq 1 [2] 0 ⟨[(2, vI 2)], []⟩ (Ln (Qn (Cr (Qr (Qb (Qr (Qr (Qb (Qr (Rt (.inl rfl) [vI 2] rfl (fun bs w hS => (⟨?_, hS.kp⟩)))))))))))))))
          simp only [retOf, den, List.map_cons, List.map_nil]
          have hf : lockF (s.xs.map CLock.abs) i = 2 := by
           have hjn : (s.at i).line.n = j := by omega
           have hall : allTo (posOk (s.at i).abs) (s.at i).line.n = true := by rw [hjn]; cases hq : allTo (posOk (s.at i).abs) j <;> simp_all
           have hlo : lineOk (s.at i).abs = true := lineOk_true hall (by show (s.at i).line.n ≤ 3; omega) (by show ¬ (s.at i).holder = 0 ∨ (s.at i).line.n = 0; omega)
           unfold lockF
           simp only [hat, hq1, hq2, hq3]
           try simp only [hlo]
           try simp only [h1, h2, h3, h4, h5, h9, h22, h26, h27, emp_size, ne_eq, not_true_eq_false, not_false_eq_true, true_or, or_true, false_or, or_false, and_true, true_and, and_false, false_and, and_self, or_self, if_true, if_false, Bool.true_eq_false, Bool.false_eq_true, reduceIte, Classical.not_not, Bool.and_eq_true, decide_eq_true_eq]
           repeat (first | rw [if_pos (by omega)] | rw [if_neg (by omega)])
           all_goals first | rfl | (exfalso; omega)
          rw [hI, firstF_here (by omega) hf (by omega)]
    | false =>
     simp only [inB, Bool.and_eq_true, Bool.and_eq_false_iff, decide_eq_true_eq, decide_eq_false_iff_not] at h4
     refine Jq 17 [5, 4, 3, 0] 1 ⟨[(5, vB true), (4, .p 0 0), (3, vI (i : Int)), (0, .v s.val)], [⟨89, (s.at i).cs⟩]⟩ (Ln (Qn (Cs (Cs (Cg (Jq 1 [6, 5, 4, 3, 0] 1 ⟨[(6, vI 0), (5, vB true), (4, .p 0 0), (3, vI (i : Int)), (0, .v s.val)], [⟨89, (s.at i).cs⟩]⟩ (Ln (Qn (Cb (Cl (σ := Nat × Bool) (fun ⟨j, b⟩ => j ≤ (s.at i).line.n ∧ b = (true || !(allTo (posOk (s.at i).abs) j))) (fun ⟨j, b⟩ => (s.at i).line.n - j) (fun ⟨j, b⟩ => []) (fun ⟨j, b⟩ => ⟨[(6, vI (j : Int)), (5, vB b), (4, .p 0 0), (3, vI (i : Int)), (0, .v s.val)], [⟨89, (s.at i).cs⟩]⟩) ⟨0, true⟩ ⟨Nat.zero_le _, by simp [allTo]⟩ (Ss [6, 5, 4, 3, 0] 1 (by kernel_rfl) rfl) ?_))))))))))
     rintro ⟨j, b⟩ ⟨hj, hJ⟩
     have ncl := Sl.ok.nc (And.right (Sl.ok.at oks (show i < s.n by omega)))
     refine Cs (Cs (Cg (Jq 5 [51, 6, 5, 4, 3, 0] 1 ⟨[(51, vB (decide ((j : Int) < (((s.at i).line.n : Nat) : Int)))), (6, vI (j : Int)), (5, vB b), (4, .p 0 0), (3, vI (i : Int)), (0, .v s.val)], [⟨89, (s.at i).cs⟩]⟩ (Ln (Qn ?_)))))
     cases h30 : decide ((j : Int) < (((s.at i).line.n : Nat) : Int)) with
     | true =>
      have h30 := of_decide_eq_true h30
      refine Ci true rfl (Ck (Qn (Cs (Cb (Cd 33 [] (.p 0 (.p 1 (.p 2 (.q 3 (.p 4 (.p 5 (.q 6 (.b 7 (.p 8 (.p 9 (.p 10 (.p 11 (.q 12 (.p 13 (.p 14 (.q 15 (.p 16 (.q 17 (.p 18 (.p 19 (.p 20 (.p 21 (.q 22 (.p 23 (.p 24 (.p 25 (.q 26 (.p 27 (.p 28 (.q 29 (.b 30 (.p 31 (.p 32 .nil)) .z))))))))))))))))))))))) .z)))))))) [] [] Try_mixed (by kernel_rfl) (pq_block (pq_then (pq_then (pq_block (pq_then (pq_block (pq_then (pq_then (pq_block (pq_then pq_body)))))))))) .slnil (Hq [] [(0, true), (1, true)] [(55, vB b), (54, vB b), (51, vB true), (6, vI (j : Int)), (5, vB b), (4, .p 0 0), (3, vI (i : Int)), (0, .v s.val)] [] [] rfl (by kernel_rfl) on wn ?_))))))
      cases h31 : b with
      | true =>
       refine Hq [] [(2, true), (3, false), (4, true), (5, true), (6, false)] [(60, .v (undef)), (59, .v (undef)), (58, .v (undef)), (57, .v (undef)), (56, .v (undef)), (55, vB true), (54, vB true), (51, vB true), (6, vI (j : Int)), (5, vB true), (4, .p 0 0), (3, vI (i : Int)), (0, .v s.val)] [] [] rfl (by kernel_rfl) on wn ?_
       refine Hp rfl rfl rfl ?_
       refine Hq [] [(8, true), (9, true), (10, true), (11, true), (12, false), (13, true), (14, true), (15, false), (16, true), (17, false), (18, true), (19, true), (20, true), (21, true), (22, false), (23, true), (24, true), (25, true), (26, false), (27, true), (28, true), (29, false)] [(83, .v (undef)), (82, .v (undef)), (81, .v (undef)), (80, .v (undef)), (79, .v (undef)), (78, .v (undef)), (77, .v (undef)), (76, .v (undef)), (75, .v (undef)), (74, vB true), (73, vB true), (72, .v (undef)), (71, .v (undef)), (70, .v (undef)), (69, .v (undef)), (68, .v (undef)), (67, .v (undef)), (66, .v (undef)), (65, .v (undef)), (64, vB true), (63, vB true), (62, .v (undef)), (61, .v (undef)), (60, .v (undef)), (59, .v (undef)), (58, .v (undef)), (57, .v (undef)), (56, .v (undef)), (55, vB true), (54, vB true), (51, vB true), (6, vI (j : Int)), (5, vB true), (4, .p 0 0), (3, vI (i : Int)), (0, .v s.val)] [] [] rfl (by kernel_rfl) on wn ?_
       refine Hp rfl rfl rfl ?_
       refine Hq [] [(31, true), (32, true)] [(5, vB true), (85, vB true), (84, .v (undef)), (83, .v (undef)), (82, .v (undef)), (81, .v (undef)), (80, .v (undef)), (79, .v (undef)), (78, .v (undef)), (77, .v (undef)), (76, .v (undef)), (75, .v (undef)), (74, vB true), (73, vB true), (72, .v (undef)), (71, .v (undef)), (70, .v (undef)), (69, .v (undef)), (68, .v (undef)), (67, .v (undef)), (66, .v (undef)), (65, .v (undef)), (64, vB true), (63, vB true), (62, .v (undef)), (61, .v (undef)), (60, .v (undef)), (59, .v (undef)), (58, .v (undef)), (57, .v (undef)), (56, .v (undef)), (55, vB true), (54, vB true), (51, vB true), (6, vI (j : Int)), (4, .p 0 0), (3, vI (i : Int)), (0, .v s.val)] [] [] rfl (by kernel_rfl) on wn ?_
       refine Hn (Ln (q_block_normal (Qn (Cg (Jr 3 [] [6, 5, 4, 3, 0] 1 ⟨[(6, vI ((j : Int) + 1)), (5, vB true), (4, .p 0 0), (3, vI (i : Int)), (0, .v s.val)], [⟨89, (s.at i).cs⟩]⟩ [inR ((j : Int) + 1)] [] (by kernel_rfl) (oc (by unfold inR; omega) on) wn (Ln (q_loop (x := (⟨j, b⟩ : Nat × Bool)) (⟨j + 1, true⟩ : Nat × Bool) ⟨by omega, by simp only [allTo, hp]; simp_all⟩ (by show (s.at i).line.n - (j + 1) < (s.at i).line.n - j; omega) (Ss [6, 5, 4, 3, 0] 1 (by kernel_rfl) rfl))))))))
      | false =>
       exfalso; rw [h31] at hJ; simp at hJ
     | false =>
      have h30 := of_decide_eq_false h30
      refine Ci false rfl (c_exit (Qe (Qe (Qh (Qn (Cs (Cs (Cg (Jq 1 [86, 4, 3, 0] 1 ⟨[(86, vB b), (4, .p 0 0), (3, vI (i : Int)), (0, .v s.val)], [⟨89, (s.at i).cs⟩]⟩ (Ln (Qn ?_)))))))))))
      cases h32 : b with
      | true =>
       refine Ci true rfl (Cs (Cg (Jq 1 [2] 0 ⟨[(2, vI 4)], []⟩ (Ln (Qn (Cr (Qr (Qb (Qr (Qr (Qb (Qr (Rt (.inl rfl) [vI 4] rfl (fun bs w hS => (⟨?_, hS.kp⟩)))))))))))))))
       simp only [retOf, den, List.map_cons, List.map_nil]
       have hf : lockF (s.xs.map CLock.abs) i = 4 := by
        have hor : mName (s.at i).name = false ∨ (s.at i).holder < 0 ∨ 9 < (s.at i).holder ∨ lineOk (s.at i).abs = false := by
         first | exact .inl (by assumption) | exact .inr ((show (s.at i).holder < 0 ∨ 9 < (s.at i).holder by omega).elim .inl (fun h => .inr (.inl h))) | exact .inr (.inr (.inr (lineOk_false (.inr (.inl (by show 3 < (s.at i).line.n; omega)))))) | exact .inr (.inr (.inr (lineOk_false (.inr (.inr ⟨by show (s.at i).holder = 0; omega, by show 0 < (s.at i).line.n; omega⟩))))) | exact .inr (.inr (.inr (lineOk_false (.inl (by show allTo _ (s.at i).line.n = false; rw [show (s.at i).line.n = j by omega]; cases hq : allTo (posOk (s.at i).abs) j <;> simp_all)))))
        unfold lockF
        simp only [hat, hq1, hq2, hq3]
        rw [if_pos hor]
       rw [hI, firstF_here (by omega) hf (by omega)]
      | false =>
       exfalso; rw [h32] at hJ; simp at hJ
   | false =>
    refine Jq 23 [5, 4, 3, 0] 1 ⟨[(5, vB true), (4, .p 0 0), (3, vI (i : Int)), (0, .v s.val)], [⟨89, (s.at i).cs⟩]⟩ (Ln (Qn (Cs (Cs (Cg (Jq 1 [6, 5, 4, 3, 0] 1 ⟨[(6, vI 0), (5, vB true), (4, .p 0 0), (3, vI (i : Int)), (0, .v s.val)], [⟨89, (s.at i).cs⟩]⟩ (Ln (Qn (Cb (Cl (σ := Nat × Bool) (fun ⟨j, b⟩ => j ≤ (s.at i).line.n ∧ b = (true || !(allTo (posOk (s.at i).abs) j))) (fun ⟨j, b⟩ => (s.at i).line.n - j) (fun ⟨j, b⟩ => []) (fun ⟨j, b⟩ => ⟨[(6, vI (j : Int)), (5, vB b), (4, .p 0 0), (3, vI (i : Int)), (0, .v s.val)], [⟨89, (s.at i).cs⟩]⟩) ⟨0, true⟩ ⟨Nat.zero_le _, by simp [allTo]⟩ (Ss [6, 5, 4, 3, 0] 1 (by kernel_rfl) rfl) ?_))))))))))
    rintro ⟨j, b⟩ ⟨hj, hJ⟩
    have ncl := Sl.ok.nc (And.right (Sl.ok.at oks (show i < s.n by omega)))
    refine Cs (Cs (Cg (Jq 5 [51, 6, 5, 4, 3, 0] 1 ⟨[(51, vB (decide ((j : Int) < (((s.at i).line.n : Nat) : Int)))), (6, vI (j : Int)), (5, vB b), (4, .p 0 0), (3, vI (i : Int)), (0, .v s.val)], [⟨89, (s.at i).cs⟩]⟩ (Ln (Qn ?_)))))
    cases h33 : decide ((j : Int) < (((s.at i).line.n : Nat) : Int)) with
    | true =>
     have h33 := of_decide_eq_true h33
     refine Ci true rfl (Ck (Qn (Cs (Cb (Cd 33 [] (.p 0 (.p 1 (.p 2 (.q 3 (.p 4 (.p 5 (.q 6 (.b 7 (.p 8 (.p 9 (.p 10 (.p 11 (.q 12 (.p 13 (.p 14 (.q 15 (.p 16 (.q 17 (.p 18 (.p 19 (.p 20 (.p 21 (.q 22 (.p 23 (.p 24 (.p 25 (.q 26 (.p 27 (.p 28 (.q 29 (.b 30 (.p 31 (.p 32 .nil)) .z))))))))))))))))))))))) .z)))))))) [] [] Try_mixed (by kernel_rfl) (pq_block (pq_then (pq_then (pq_block (pq_then (pq_block (pq_then (pq_then (pq_block (pq_then pq_body)))))))))) .slnil (Hq [] [(0, true), (1, true)] [(55, vB b), (54, vB b), (51, vB true), (6, vI (j : Int)), (5, vB b), (4, .p 0 0), (3, vI (i : Int)), (0, .v s.val)] [] [] rfl (by kernel_rfl) on wn ?_))))))
     cases h34 : b with
     | true =>
      refine Hq [] [(2, true), (3, false), (4, true), (5, true), (6, false)] [(60, .v (undef)), (59, .v (undef)), (58, .v (undef)), (57, .v (undef)), (56, .v (undef)), (55, vB true), (54, vB true), (51, vB true), (6, vI (j : Int)), (5, vB true), (4, .p 0 0), (3, vI (i : Int)), (0, .v s.val)] [] [] rfl (by kernel_rfl) on wn ?_
      refine Hp rfl rfl rfl ?_
      refine Hq [] [(8, true), (9, true), (10, true), (11, true), (12, false), (13, true), (14, true), (15, false), (16, true), (17, false), (18, true), (19, true), (20, true), (21, true), (22, false), (23, true), (24, true), (25, true), (26, false), (27, true), (28, true), (29, false)] [(83, .v (undef)), (82, .v (undef)), (81, .v (undef)), (80, .v (undef)), (79, .v (undef)), (78, .v (undef)), (77, .v (undef)), (76, .v (undef)), (75, .v (undef)), (74, vB true), (73, vB true), (72, .v (undef)), (71, .v (undef)), (70, .v (undef)), (69, .v (undef)), (68, .v (undef)), (67, .v (undef)), (66, .v (undef)), (65, .v (undef)), (64, vB true), (63, vB true), (62, .v (undef)), (61, .v (undef)), (60, .v (undef)), (59, .v (undef)), (58, .v (undef)), (57, .v (undef)), (56, .v (undef)), (55, vB true), (54, vB true), (51, vB true), (6, vI (j : Int)), (5, vB true), (4, .p 0 0), (3, vI (i : Int)), (0, .v s.val)] [] [] rfl (by kernel_rfl) on wn ?_
      refine Hp rfl rfl rfl ?_
      refine Hq [] [(31, true), (32, true)] [(5, vB true), (85, vB true), (84, .v (undef)), (83, .v (undef)), (82, .v (undef)), (81, .v (undef)), (80, .v (undef)), (79, .v (undef)), (78, .v (undef)), (77, .v (undef)), (76, .v (undef)), (75, .v (undef)), (74, vB true), (73, vB true), (72, .v (undef)), (71, .v (undef)), (70, .v (undef)), (69, .v (undef)), (68, .v (undef)), (67, .v (undef)), (66, .v (undef)), (65, .v (undef)), (64, vB true), (63, vB true), (62, .v (undef)), (61, .v (undef)), (60, .v (undef)), (59, .v (undef)), (58, .v (undef)), (57, .v (undef)), (56, .v (undef)), (55, vB true), (54, vB true), (51, vB true), (6, vI (j : Int)), (4, .p 0 0), (3, vI (i : Int)), (0, .v s.val)] [] [] rfl (by kernel_rfl) on wn ?_
      refine Hn (Ln (q_block_normal (Qn (Cg (Jr 3 [] [6, 5, 4, 3, 0] 1 ⟨[(6, vI ((j : Int) + 1)), (5, vB true), (4, .p 0 0), (3, vI (i : Int)), (0, .v s.val)], [⟨89, (s.at i).cs⟩]⟩ [inR ((j : Int) + 1)] [] (by kernel_rfl) (oc (by unfold inR; omega) on) wn (Ln (q_loop (x := (⟨j, b⟩ : Nat × Bool)) (⟨j + 1, true⟩ : Nat × Bool) ⟨by omega, by simp only [allTo, hp]; simp_all⟩ (by show (s.at i).line.n - (j + 1) < (s.at i).line.n - j; omega) (Ss [6, 5, 4, 3, 0] 1 (by kernel_rfl) rfl))))))))
     | false =>
      exfalso; rw [h34] at hJ; simp at hJ
    | false =>
     have h33 := of_decide_eq_false h33
     refine Ci false rfl (c_exit (Qe (Qe (Qh (Qn (Cs (Cs (Cg (Jq 1 [86, 4, 3, 0] 1 ⟨[(86, vB b), (4, .p 0 0), (3, vI (i : Int)), (0, .v s.val)], [⟨89, (s.at i).cs⟩]⟩ (Ln (Qn ?_)))))))))))
     cases h35 : b with
     | true =>
      refine Ci true rfl (Cs (Cg (Jq 1 [2] 0 ⟨[(2, vI 4)], []⟩ (Ln (Qn (Cr (Qr (Qb (Qr (Qr (Qb (Qr (Rt (.inl rfl) [vI 4] rfl (fun bs w hS => (⟨?_, hS.kp⟩)))))))))))))))
      simp only [retOf, den, List.map_cons, List.map_nil]
      have hf : lockF (s.xs.map CLock.abs) i = 4 := by
       have hor : mName (s.at i).name = false ∨ (s.at i).holder < 0 ∨ 9 < (s.at i).holder ∨ lineOk (s.at i).abs = false := by
        first | exact .inl (by assumption) | exact .inr ((show (s.at i).holder < 0 ∨ 9 < (s.at i).holder by omega).elim .inl (fun h => .inr (.inl h))) | exact .inr (.inr (.inr (lineOk_false (.inr (.inl (by show 3 < (s.at i).line.n; omega)))))) | exact .inr (.inr (.inr (lineOk_false (.inr (.inr ⟨by show (s.at i).holder = 0; omega, by show 0 < (s.at i).line.n; omega⟩))))) | exact .inr (.inr (.inr (lineOk_false (.inl (by show allTo _ (s.at i).line.n = false; rw [show (s.at i).line.n = j by omega]; cases hq : allTo (posOk (s.at i).abs) j <;> simp_all)))))
       unfold lockF
       simp only [hat, hq1, hq2, hq3]
       rw [if_pos hor]
      rw [hI, firstF_here (by omega) hf (by omega)]
     | false =>
      exfalso; rw [h35] at hJ; simp at hJ
  | false =>
   have h2 := of_decide_eq_false h2
   refine Ci false rfl (c_exit (Qe (Qe (Qh (Qn (Cs (Cg (Jq 1 [2] 0 ⟨[(2, vI 0)], []⟩ (Ln (Qn (Cr (Rt (.inl rfl) [vI 0] rfl (fun bs w hS => (⟨?_, hS.kp⟩))))))))))))))
   simp only [retOf, den, List.map_cons, List.map_nil]
   rw [hI, firstF_end (by omega)]

theorem clone_Int {B : Nat → Prop} (s : Sl Int) (w : World) (hs : s.rd B w) (hb : s.n ≤ 1048576) : Calls Try.prog 107 #[.slice s.A s.n s.c] w fun e w' => ∃ y : Sl Int, e = .returned y.val ∧ y.xs = s.xs ∧ Kp [] w w' ∧ Fresh w w' (rowA 3 y.A y.c y.xs) := by
 have oks := Sl.rd.ok hs
 have ncs := Sl.ok.nc oks
 have hns : s.n = s.xs.length := rfl
 refine calls_J0 8 Try.func107 rfl rfl [.slice s.A s.n s.c] rfl ?_
 refine Cs (Cg (Jq 1 [0] 0 ⟨[(0, .v s.val)], []⟩ (Ln (Qn (Cs (Cs (Cg (Jr 2 [(1, .val (.bool s.A.isNone))] [4, 0] 0 ⟨[(4, vB s.A.isNone), (0, .v s.val)], []⟩ [∀ w, (do eqGuard .eql 87 (.tmp 3) (.const (.slice none 0 0)) (.slice s.A s.n s.c) (.slice none 0 0); binOp .eql 87 (.slice s.A s.n s.c) (.slice none 0 0) : Sem Value).run Try.prog w = .ok (.bool s.A.isNone) w] [] (by kernel_rfl) (oc (eq_nil Try.underlying87) on) wn (Ln (Qn ?_))))))))))
 cases h1 : s.A.isNone with
 | true =>
  refine Ci true rfl (Cs (Cg (Jq 1 [2] 0 ⟨[(2, .v (.slice none 0 0))], []⟩ (Ln (Qn (Cr (Qr (Rt (.inl rfl) [.v (.slice none 0 0)] rfl (fun bs w hS => ?_)))))))))
  have hnil : s.xs = [] := Sl.ok.empty oks (by cases h : s.A <;> simp_all)
  exact ⟨Sl.nil, rfl, hnil.symm, hS.kp, rowA_nil 3 w⟩
 | false =>
  refine Ci false rfl (Ck (Qn (Cs (Cg (l_row0A (α := Int) 3 Try.underlying87 (by kernel_rfl) (by kernel_rfl) (by kernel_rfl) rfl ?_)))))
  intro A1
  refine Jq 1 [6, 5] 0 ⟨[(6, .v s.val), (5, .v (.slice A1 ([] : List Int).length 0))], []⟩ (l_appendA (α := Int) 3 8 A1 0 ([]) (.v (.slice s.A s.n s.c)) (s.xs) Try.underlying87 (by kernel_rfl) rfl rfl rfl (fun bs w hS => ⟨_, _, rfl, Sl.rd.src (s := s) (Sl.rd.kp hs hS.kp)⟩) (by simp only [List.length_nil]; omega) (by simp only [List.length_nil]; omega) ?_)
  intro A2 c2
  refine Jq 1 [2] 0 ⟨[(2, .v (.slice A2 ([] ++ s.xs).length c2))], []⟩ (Ln (Qn (Cr (Rt (.inl rfl) [.v (.slice A2 ([] ++ s.xs).length c2)] rfl (fun bs w hS => ?_)))))
  exact ⟨⟨A2, c2, [] ++ s.xs⟩, rfl, by simp, hS.kp, hS.out1⟩

theorem lock_Copy {B : Nat → Prop} (s : Sl CLock) (w : World) (hs : s.rd B w) (hsm : Rds.small s) : Calls Try.prog 72 #[.slice s.A s.n s.c] w fun e w' => ∃ y : Sl CLock, e = .returned y.val ∧ y.xs.map CLock.abs = s.xs.map CLock.abs ∧ Kp [] w w' ∧ Fresh w w' (locksR 89 3 y) := by
 have oks := Sl.rd.ok hs
 have ncs := Sl.ok.nc oks
 refine calls_J0 22 Try.func72 rfl rfl [.slice s.A s.n s.c] rfl ?_
 refine Cs (Cg (Jq 1 [0] 0 ⟨[(0, .v s.val)], []⟩ (Ln (Qn (Cs (Cg (Jq 1 [3, 0] 0 ⟨[(3, .v (.slice none 0 0)), (0, .v s.val)], []⟩ (Ln (Qn (Cs (Cs (Cg (Jq 3 [8, 7, 6, 3] 0 ⟨[(8, vI 0), (7, vI ((s.n : Nat) : Int)), (6, .v s.val), (3, .v (.slice none 0 0))], []⟩ (Ln (Qn (Cb (c_rowA (α := CLock) 89 (c_nores (ownL (lineR 3) []) rfl (fun w x hx => by cases hx) (Cl (σ := Nat × Option Addr × Nat × List CLock) (fun ⟨i, A, c, L⟩ => i ≤ s.n ∧ L.length = i ∧ L.map CLock.abs = (s.xs.take i).map CLock.abs) (fun ⟨i, A, c, L⟩ => s.n - i) (fun ⟨i, A, c, L⟩ => [ownL (lineR 3) L, rowA 89 A c (L : List CLock)]) (fun ⟨i, A, c, L⟩ => ⟨[(8, vI (i : Int)), (7, vI ((s.n : Nat) : Int)), (6, .v s.val), (3, .v (.slice A L.length c))], []⟩) ⟨0, none, 0, []⟩ ⟨Nat.zero_le _, rfl, by simp⟩ (Ss [8, 7, 6, 3] 0 (by kernel_rfl) rfl) ?_)))))))))))))))))))
 rintro ⟨i, A, c, L⟩ ⟨hi, hL, hI⟩
 have hsn := hsm.1
 refine Cs (Cg (Jq 1 [9, 8, 7, 6, 3] 0 ⟨[(9, vB (decide ((i : Int) < ((s.n : Nat) : Int)))), (8, vI (i : Int)), (7, vI ((s.n : Nat) : Int)), (6, .v s.val), (3, .v (.slice A L.length c))], []⟩ (Ln (Qn (Cs ?_)))))
 cases h1 : decide ((i : Int) < ((s.n : Nat) : Int)) with
 | true =>
  have h1 := of_decide_eq_true h1
  refine Ci true rfl (Ck (Qn (Cs (Cb (Cs (Cg (Jr 4 [(0, .idx s.ad i), (1, .ext [.string (s.at i).name, .int .i64 (s.at i).holder, .int .i64 (s.at i).fence, .slice (s.at i).line.A (s.at i).line.n (s.at i).line.c])] [5, 8, 7, 6, 3] 1 ⟨[(5, .p 0 0), (8, vI (i : Int)), (7, vI ((s.n : Nat) : Int)), (6, .v s.val), (3, .v (.slice A L.length c))], [⟨89, (s.at i).cs⟩]⟩ [s.A = some s.ad, (i : Int) = (i : Int), i < s.n] [(s.ad.add (i * 4), [.string (s.at i).name, .int .i64 (s.at i).holder, .int .i64 (s.at i).fence, .slice (s.at i).line.A (s.at i).line.n (s.at i).line.c])] (by kernel_rfl) (oc (Sl.ok.own (s := s) (i := i) oks (by omega)) (oc rfl (oc (by omega) on))) (fun w hk hr => ⟨(Sl.rd.all (s := s) (i := i) (Sl.rd.kp hs hk) (by omega) rfl), trivial⟩) (Ln (Qn (Cs (Cg (Jq 2 [13, 5, 8, 7, 6, 3] 1 ⟨[(13, .v (s.at i).line.val), (5, .p 0 0), (8, vI (i : Int)), (7, vI ((s.n : Nat) : Int)), (6, .v s.val), (3, .v (.slice A L.length c))], [⟨89, (s.at i).cs⟩]⟩ (l_freshF (σ := Sl Int) 107 [] [.v (s.at i).line.val] (fun y1 => .slice y1.A y1.n y1.c) (fun y1 => y1.xs = (s.at i).line.xs) (fun y1 => rowA 3 y1.A y1.c (y1.xs : List Int)) Try.call107 rfl rfl rfl rfl (fun bs w hS => clone_Int (s.at i).line w (And.right (Sl.rd.sub (s := s) (i := i) (Sl.rd.kp hs hS.kp) (by omega))) (hsm.2 i (by omega)).1) ?_)))))))))))))
  rintro y1 hF1
  refine Jq 2 [5, 8, 7, 6, 3] 1 ⟨[(5, .p 0 0), (8, vI (i : Int)), (7, vI ((s.n : Nat) : Int)), (6, .v s.val), (3, .v (.slice A L.length c))], [⟨89, [vS (s.at i).name, vI (s.at i).holder, vI (s.at i).fence, .v y1.val]⟩]⟩ (Ln (Qn (Cg (Jq 3 [18, 16, 8, 7, 6] 2 ⟨[(18, .s 1 0 1 1), (16, .v (.slice A L.length c)), (8, vI (i : Int)), (7, vI ((s.n : Nat) : Int)), (6, .v s.val)], [⟨89, [vS (s.at i).name, vI (s.at i).holder, vI (s.at i).fence, .v y1.val]⟩, ⟨89, [vS (s.at i).name, vI (s.at i).holder, vI (s.at i).fence, .v y1.val]⟩]⟩ (Lm (R' := [rowA 89 A c (L : List CLock), rowA 3 y1.A y1.c (y1.xs : List Int), ownL (lineR 3) L]) (Pf 2 rfl) (l_appendA (α := CLock) 89 56 A c (L) (.s 1 0 1 1) ([(⟨(s.at i).name, (s.at i).holder, (s.at i).fence, y1⟩ : CLock)]) Try.underlying33 (by kernel_rfl) rfl rfl rfl (fun bs w hS => by obtain ⟨q1, q2, q3, q4⟩ := src_loc (i := 1) (off := 0) (k := 1) (c := 1) (q := 4) (vs := [.string (s.at i).name, .int .i64 (s.at i).holder, .int .i64 (s.at i).fence, .slice y1.A y1.n y1.c]) hS rfl rfl; exact ⟨some q1, q2, q3, q4⟩) (by first | omega | (simp only [List.length_nil, List.length_cons, List.length_append]; omega) | (have hq := (hsm.2 i (by omega)).1; simp only [Sl.n, List.length_nil] at hq ⊢; omega)) (by first | omega | (simp only [List.length_nil, List.length_cons, List.length_append]; omega) | (have hq := (hsm.2 i (by omega)).1; simp only [Sl.n, List.length_nil] at hq ⊢; omega)) ?_))))))
  intro A3 c3
  refine Jq 1 [3, 8, 7, 6] 0 ⟨[(3, .v (.slice A3 (L ++ [(⟨(s.at i).name, (s.at i).holder, (s.at i).fence, y1⟩ : CLock)]).length c3)), (8, vI (i : Int)), (7, vI ((s.n : Nat) : Int)), (6, .v s.val)], []⟩ (Ln (q_block_normal (Qn (Cg (Jr 2 [] [8, 3, 7, 6] 0 ⟨[(8, vI ((i : Int) + 1)), (3, .v (.slice A3 (L ++ [(⟨(s.at i).name, (s.at i).holder, (s.at i).fence, y1⟩ : CLock)]).length c3)), (7, vI ((s.n : Nat) : Int)), (6, .v s.val)], []⟩ [inR ((i : Int) + 1)] [] (by kernel_rfl) (oc (by unfold inR; omega) on) wn (Lm (R' := [rowA 3 y1.A y1.c (y1.xs : List Int), ownL (lineR 3) L, rowA 89 A3 c3 (L ++ [(⟨(s.at i).name, (s.at i).holder, (s.at i).fence, y1⟩ : CLock)] : List CLock)]) (by exact perm3 0 _ _ _) (l_join (ownL (lineR 3) (L ++ [(⟨(s.at i).name, (s.at i).holder, (s.at i).fence, y1⟩ : CLock)])) (ownL_app_fp (lineR 3) L (⟨(s.at i).name, (s.at i).holder, (s.at i).fence, y1⟩ : CLock)) (fun w => ownL_app_p (lineR 3) L (⟨(s.at i).name, (s.at i).holder, (s.at i).fence, y1⟩ : CLock) w) (Ln (q_loop (x := (⟨i, A, c, L⟩ : Nat × Option Addr × Nat × List CLock)) (⟨i + 1, A3, c3, L ++ [(⟨(s.at i).name, (s.at i).holder, (s.at i).fence, y1⟩ : CLock)]⟩ : Nat × Option Addr × Nat × List CLock) ⟨by omega, by rw [List.length_append]; simp [hL], map_take_snoc (by omega) hI (by first | simp [CLock.abs, hF1] | simp [CLock.abs])⟩ (by show s.n - (i + 1) < s.n - i; omega) (Ss [8, 7, 6, 3] 0 (by kernel_rfl) rfl))))))))))
 | false =>
  have h1 := of_decide_eq_false h1
  refine Ci false rfl (c_exit (Qe (Qe (Qh (Qn (Cs (Cg (Jq 2 [2] 0 ⟨[(2, .v (.slice A L.length c))], []⟩ (Ln (Qn (Cr (Rt (.inl rfl) [.v (.slice A L.length c)] rfl (fun bs w hS => ?_)))))))))))))
  have hn : L.length = s.n := by omega
  exact ⟨⟨A, c, L⟩, rfl, by rw [hI, take_all (by omega)], hS.kp, hS.out⟩
theorem lock_CopyS {B : Nat → Prop} (s : Sl CLock) (w : World) (hs : s.rd B w) (hsm : Rds.small s) : Calls Try.prog 72 #[.slice s.A s.n s.c] w fun e w' => ∃ y : Sl CLock, e = .returned y.val ∧ y.xs.map CLock.abs = s.xs.map CLock.abs ∧ FreshS w w' y :=
 (lock_Copy s w hs hsm).mono fun e w' ⟨y, h1, h2, h3, h4⟩ => ⟨y, h1, h2, h3, h4.sub fun hp => locksR_rd hp (locks_names hs h2)⟩

theorem ref_LocksCopy {B : Nat → Prop} (s : Sl CLock) (w : World) (hs : s.rd B w) (hsm : Rds.small s) : Calls Try.prog 29 #[.slice s.A s.n s.c] w fun e w' => ∃ y : Sl CLock, e = .returned y.val ∧ y.xs.map CLock.abs = s.xs.map CLock.abs ∧ Kp [] w w' ∧ Fresh w w' (locksR 89 3 y) := by
 have oks := Sl.rd.ok hs
 have ncs := Sl.ok.nc oks
 refine calls_J0 37 Try.func29 rfl rfl [.slice s.A s.n s.c] rfl ?_
 refine Cs (Cg (Jq 1 [0] 0 ⟨[(0, .v s.val)], []⟩ (Ln (Qn (Cs (Cg (Jq 1 [3, 0] 0 ⟨[(3, .v (.slice none 0 0)), (0, .v s.val)], []⟩ (Ln (Qn (Cs (Cs (Cg (Jq 1 [4, 3, 0] 0 ⟨[(4, vI 0), (3, .v (.slice none 0 0)), (0, .v s.val)], []⟩ (Ln (Qn (Cb (c_rowA (α := CLock) 89 (c_nores (ownL (lineR 3) []) rfl (fun w x hx => by cases hx) (Cl (σ := Nat × Option Addr × Nat × List CLock) (fun ⟨i, A, c, L⟩ => i ≤ s.n ∧ L.length = i ∧ L.map CLock.abs = (s.xs.take i).map CLock.abs) (fun ⟨i, A, c, L⟩ => s.n - i) (fun ⟨i, A, c, L⟩ => [ownL (lineR 3) L, rowA 89 A c (L : List CLock)]) (fun ⟨i, A, c, L⟩ => ⟨[(4, vI (i : Int)), (3, .v (.slice A L.length c)), (0, .v s.val)], []⟩) ⟨0, none, 0, []⟩ ⟨Nat.zero_le _, rfl, by simp⟩ (Ss [4, 3, 0] 0 (by kernel_rfl) rfl) ?_)))))))))))))))))))
 rintro ⟨i, A, c, L⟩ ⟨hi, hL, hI⟩
 have hsn := hsm.1
 refine Cs (Cs (Cg (Jq 4 [8, 4, 3, 0] 0 ⟨[(8, vB (decide ((i : Int) < ((s.n : Nat) : Int)))), (4, vI (i : Int)), (3, .v (.slice A L.length c)), (0, .v s.val)], []⟩ (Ln (Qn ?_)))))
 cases h1 : decide ((i : Int) < ((s.n : Nat) : Int)) with
 | true =>
  have h1 := of_decide_eq_true h1
  refine Ci true rfl (Ck (Qn (Cs (Cb (Cd 24 [] (.p 0 (.p 1 (.p 2 (.p 3 (.p 4 (.q 5 (.p 6 (.p 7 (.p 8 (.p 9 (.q 10 (.p 11 (.p 12 (.p 13 (.p 14 (.q 15 (.p 16 (.p 17 (.p 18 (.p 19 (.q 20 (.b 21 (.p 22 (.b 23 .nil .z)) .z)))))))))))))))))))))) [] [ownL (lineR 3) L, rowA 89 A c (L : List CLock)] Try_mixed (by kernel_rfl) (pq_block (pq_then (pq_then (pq_block (pq_then pq_body))))) (List.Sublist.refl _) (Hq [(3, .idx s.ad i), (5, .ext [.string (s.at i).name]), (8, .idx s.ad i), (10, .ext [.int .i64 (s.at i).holder]), (13, .idx s.ad i), (15, .ext [.int .i64 (s.at i).fence]), (18, .idx s.ad i), (20, .ext [.slice (s.at i).line.A (s.at i).line.n (s.at i).line.c])] [(0, true), (1, true), (2, true), (3, true), (4, true), (5, false), (6, true), (7, true), (8, true), (9, true), (10, false), (11, true), (12, true), (13, true), (14, true), (15, false), (16, true), (17, true), (18, true), (19, true), (20, false)] [(31, .v (s.at i).line.val), (30, .v (.pointer (some ((s.ad.add (i * 4)).add 3)))), (29, .v (.pointer (some (s.ad.add (i * 4))))), (28, vI (i : Int)), (27, .v s.val), (26, vI (s.at i).fence), (25, .v (.pointer (some ((s.ad.add (i * 4)).add 2)))), (24, .v (.pointer (some (s.ad.add (i * 4))))), (23, vI (i : Int)), (22, .v s.val), (21, vI (s.at i).holder), (20, .v (.pointer (some ((s.ad.add (i * 4)).add 1)))), (19, .v (.pointer (some (s.ad.add (i * 4))))), (18, vI (i : Int)), (17, .v s.val), (16, vS (s.at i).name), (15, .v (.pointer (some ((s.ad.add (i * 4)).add 0)))), (14, .v (.pointer (some (s.ad.add (i * 4))))), (13, vI (i : Int)), (12, .v s.val), (11, .v (.slice A L.length c)), (8, vB true), (4, vI (i : Int)), (3, .v (.slice A L.length c)), (0, .v s.val)] [s.A = some s.ad, (i : Int) = (i : Int), i < s.n, s.A = some s.ad, (i : Int) = (i : Int), i < s.n, s.A = some s.ad, (i : Int) = (i : Int), i < s.n, s.A = some s.ad, (i : Int) = (i : Int), i < s.n] [((s.ad.add (i * 4)).add 0, [.string (s.at i).name]), ((s.ad.add (i * 4)).add 1, [.int .i64 (s.at i).holder]), ((s.ad.add (i * 4)).add 2, [.int .i64 (s.at i).fence]), ((s.ad.add (i * 4)).add 3, [.slice (s.at i).line.A (s.at i).line.n (s.at i).line.c])] rfl (by kernel_rfl) (oc (Sl.ok.own (s := s) (i := i) oks (by omega)) (oc rfl (oc (by omega) (oc (Sl.ok.own (s := s) (i := i) oks (by omega)) (oc rfl (oc (by omega) (oc (Sl.ok.own (s := s) (i := i) oks (by omega)) (oc rfl (oc (by omega) (oc (Sl.ok.own (s := s) (i := i) oks (by omega)) (oc rfl (oc (by omega) on)))))))))))) (fun w hk hr => ⟨(Sl.rd.fld (s := s) (i := i) (Sl.rd.kp hs hk) (by omega) 0 1 rfl), ⟨(Sl.rd.fld (s := s) (i := i) (Sl.rd.kp hs hk) (by omega) 1 1 rfl), ⟨(Sl.rd.fld (s := s) (i := i) (Sl.rd.kp hs hk) (by omega) 2 1 rfl), ⟨(Sl.rd.fld (s := s) (i := i) (Sl.rd.kp hs hk) (by omega) 3 1 rfl), trivial⟩⟩⟩⟩) (h_rowA (α := Int) 3 (h_appendA (α := Int) 3 8 none 0 ([]) (.v (s.at i).line.val) ((s.at i).line.xs) rfl Try.underlying87 (by kernel_rfl) rfl rfl rfl rfl (fun bs w hS => ⟨_, _, rfl, Sl.rd.src (s := (s.at i).line) (And.right (Sl.rd.sub (s := s) (i := i) (Sl.rd.kp hs hS.kp) (by omega)))⟩) (by first | omega | (simp only [List.length_nil, List.length_cons, List.length_append]; omega) | (have hq := (hsm.2 i (by omega)).1; simp only [Sl.n, List.length_nil] at hq ⊢; omega)) (by first | omega | (simp only [List.length_nil, List.length_cons, List.length_append]; omega) | (have hq := (hsm.2 i (by omega)).1; simp only [Sl.n, List.length_nil] at hq ⊢; omega)) (fun bs0 bs A2 c2 w hp hl hS => hS.down hp hl rfl le_nil (.cons _ (List.Sublist.refl _))) ?_))))))))
  intro A1 c1
  refine Hq [] [(22, true)] [(33, .v (.agg #[.string (s.at i).name, .int .i64 (s.at i).holder, .int .i64 (s.at i).fence, .slice A1 ([] ++ (s.at i).line.xs).length c1])), (32, .v (.slice A1 ([] ++ (s.at i).line.xs).length c1)), (31, .v (s.at i).line.val), (30, .v (.pointer (some ((s.ad.add (i * 4)).add 3)))), (29, .v (.pointer (some (s.ad.add (i * 4))))), (28, vI (i : Int)), (27, .v s.val), (26, vI (s.at i).fence), (25, .v (.pointer (some ((s.ad.add (i * 4)).add 2)))), (24, .v (.pointer (some (s.ad.add (i * 4))))), (23, vI (i : Int)), (22, .v s.val), (21, vI (s.at i).holder), (20, .v (.pointer (some ((s.ad.add (i * 4)).add 1)))), (19, .v (.pointer (some (s.ad.add (i * 4))))), (18, vI (i : Int)), (17, .v s.val), (16, vS (s.at i).name), (15, .v (.pointer (some ((s.ad.add (i * 4)).add 0)))), (14, .v (.pointer (some (s.ad.add (i * 4))))), (13, vI (i : Int)), (12, .v s.val), (11, .v (.slice A L.length c)), (8, vB true), (4, vI (i : Int)), (3, .v (.slice A L.length c)), (0, .v s.val)] [] [] rfl (by kernel_rfl) on wn ?_
  refine Hl ⟨[(34, .s 0 0 1 1), (33, .v (.agg #[.string (s.at i).name, .int .i64 (s.at i).holder, .int .i64 (s.at i).fence, .slice A1 ([] ++ (s.at i).line.xs).length c1])), (32, .v (.slice A1 ([] ++ (s.at i).line.xs).length c1)), (31, .v (s.at i).line.val), (30, .v (.pointer (some ((s.ad.add (i * 4)).add 3)))), (29, .v (.pointer (some (s.ad.add (i * 4))))), (28, vI (i : Int)), (27, .v s.val), (26, vI (s.at i).fence), (25, .v (.pointer (some ((s.ad.add (i * 4)).add 2)))), (24, .v (.pointer (some (s.ad.add (i * 4))))), (23, vI (i : Int)), (22, .v s.val), (21, vI (s.at i).holder), (20, .v (.pointer (some ((s.ad.add (i * 4)).add 1)))), (19, .v (.pointer (some (s.ad.add (i * 4))))), (18, vI (i : Int)), (17, .v s.val), (16, vS (s.at i).name), (15, .v (.pointer (some ((s.ad.add (i * 4)).add 0)))), (14, .v (.pointer (some (s.ad.add (i * 4))))), (13, vI (i : Int)), (12, .v s.val), (11, .v (.slice A L.length c)), (8, vB true), (4, vI (i : Int)), (3, .v (.slice A L.length c)), (0, .v s.val)], [⟨89, [vS (s.at i).name, vI (s.at i).holder, vI (s.at i).fence, .v (.slice A1 ([] ++ (s.at i).line.xs).length c1)]⟩]⟩ (by kernel_rfl) (fun bs0 bs w hp hl hS => hS.down hp hl rfl le_nil (.cons _ (List.Sublist.refl _))) ?_
  refine Hn (Lm (R' := [rowA 89 A c (L : List CLock), rowA 3 A1 c1 ([] ++ (s.at i).line.xs : List Int), ownL (lineR 3) L]) (Pf 2 rfl) (l_appendA (α := CLock) 89 56 A c (L) (.s 0 0 1 1) ([(⟨(s.at i).name, (s.at i).holder, (s.at i).fence, ⟨A1, c1, [] ++ (s.at i).line.xs⟩⟩ : CLock)]) Try.underlying33 (by kernel_rfl) rfl rfl rfl (fun bs w hS => by obtain ⟨q1, q2, q3, q4⟩ := src_loc (i := 0) (off := 0) (k := 1) (c := 1) (q := 4) (vs := [.string (s.at i).name, .int .i64 (s.at i).holder, .int .i64 (s.at i).fence, .slice A1 ([] ++ (s.at i).line.xs).length c1]) hS rfl rfl; exact ⟨some q1, q2, q3, q4⟩) (by first | omega | (simp only [List.length_nil, List.length_cons, List.length_append]; omega) | (have hq := (hsm.2 i (by omega)).1; simp only [Sl.n, List.length_nil] at hq ⊢; omega)) (by first | omega | (simp only [List.length_nil, List.length_cons, List.length_append]; omega) | (have hq := (hsm.2 i (by omega)).1; simp only [Sl.n, List.length_nil] at hq ⊢; omega)) ?_))
  intro A2 c2
  refine Jq 1 [3, 4, 0] 0 ⟨[(3, .v (.slice A2 (L ++ [(⟨(s.at i).name, (s.at i).holder, (s.at i).fence, ⟨A1, c1, [] ++ (s.at i).line.xs⟩⟩ : CLock)]).length c2)), (4, vI (i : Int)), (0, .v s.val)], []⟩ (Ln (q_block_normal (Qn (Cg (Jr 3 [] [4, 3, 0] 0 ⟨[(4, vI ((i : Int) + 1)), (3, .v (.slice A2 (L ++ [(⟨(s.at i).name, (s.at i).holder, (s.at i).fence, ⟨A1, c1, [] ++ (s.at i).line.xs⟩⟩ : CLock)]).length c2)), (0, .v s.val)], []⟩ [inR ((i : Int) + 1)] [] (by kernel_rfl) (oc (by unfold inR; omega) on) wn (Lm (R' := [rowA 3 A1 c1 ([] ++ (s.at i).line.xs : List Int), ownL (lineR 3) L, rowA 89 A2 c2 (L ++ [(⟨(s.at i).name, (s.at i).holder, (s.at i).fence, ⟨A1, c1, [] ++ (s.at i).line.xs⟩⟩ : CLock)] : List CLock)]) (by exact perm3 0 _ _ _) (l_join (ownL (lineR 3) (L ++ [(⟨(s.at i).name, (s.at i).holder, (s.at i).fence, ⟨A1, c1, [] ++ (s.at i).line.xs⟩⟩ : CLock)])) (ownL_app_fp (lineR 3) L (⟨(s.at i).name, (s.at i).holder, (s.at i).fence, ⟨A1, c1, [] ++ (s.at i).line.xs⟩⟩ : CLock)) (fun w => ownL_app_p (lineR 3) L (⟨(s.at i).name, (s.at i).holder, (s.at i).fence, ⟨A1, c1, [] ++ (s.at i).line.xs⟩⟩ : CLock) w) (Ln (q_loop (x := (⟨i, A, c, L⟩ : Nat × Option Addr × Nat × List CLock)) (⟨i + 1, A2, c2, L ++ [(⟨(s.at i).name, (s.at i).holder, (s.at i).fence, ⟨A1, c1, [] ++ (s.at i).line.xs⟩⟩ : CLock)]⟩ : Nat × Option Addr × Nat × List CLock) ⟨by omega, by rw [List.length_append]; simp [hL], map_take_snoc (by omega) hI (by first | simp [CLock.abs, hF1] | simp [CLock.abs])⟩ (by show s.n - (i + 1) < s.n - i; omega) (Ss [4, 3, 0] 0 (by kernel_rfl) rfl))))))))))
 | false =>
  have h1 := of_decide_eq_false h1
  refine Ci false rfl (c_exit (Qe (Qe (Qh (Qn (Cs (Cg (Jq 2 [2] 0 ⟨[(2, .v (.slice A L.length c))], []⟩ (Ln (Qn (Cr (Rt (.inl rfl) [.v (.slice A L.length c)] rfl (fun bs w hS => ?_)))))))))))))
  have hn : L.length = s.n := by omega
  exact ⟨⟨A, c, L⟩, rfl, by rw [hI, take_all (by omega)], hS.kp, hS.out⟩
theorem ref_LocksCopyS {B : Nat → Prop} (s : Sl CLock) (w : World) (hs : s.rd B w) (hsm : Rds.small s) : Calls Try.prog 29 #[.slice s.A s.n s.c] w fun e w' => ∃ y : Sl CLock, e = .returned y.val ∧ y.xs.map CLock.abs = s.xs.map CLock.abs ∧ FreshS w w' y :=
 (ref_LocksCopy s w hs hsm).mono fun e w' ⟨y, h1, h2, h3, h4⟩ => ⟨y, h1, h2, h3, h4.sub fun hp => locksR_rd hp (locks_names hs h2)⟩

theorem same_ints {B B' : Nat → Prop} (a b : Sl Int) (w : World) (ha : a.rd B w) (hb : b.rd B' w) (he : a.xs = b.xs) : Calls Try.prog 78 #[.slice a.A a.n a.c, .slice b.A b.n b.c] w fun e w' => e = .returned (.bool true) ∧ Kp [] w w' := by
 have oka := Sl.rd.ok ha
 have okb := Sl.rd.ok hb
 have hn := xs_n he
 have nca := Sl.ok.nc oka
 refine calls_J0 26 Try.func78 rfl rfl [.slice a.A a.n a.c, .slice b.A b.n b.c] rfl ?_
 refine Cs (Cg (Jq 1 [0, 1] 0 ⟨[(0, .v a.val), (1, .v b.val)], []⟩ (Ln (Qn (Cs (Cs (Cg (Jq 5 [10, 0, 1] 0 ⟨[(10, vB (!(decide (((a.n : Nat) : Int) = ((b.n : Nat) : Int))))), (0, .v a.val), (1, .v b.val)], []⟩ (Ln (Qn ?_))))))))))
 cases h1 : decide (((a.n : Nat) : Int) = ((b.n : Nat) : Int)) with
 | true =>
  have h1 := of_decide_eq_true h1
  refine Ci false rfl (Ck (Qn (Cs (Cs (Cg (Jq 1 [5, 0, 1] 0 ⟨[(5, vI 0), (0, .v a.val), (1, .v b.val)], []⟩ (Ln (Qn (Cb (Cl (σ := Nat) (fun i => True) (fun i => a.n - i) (fun i => []) (fun i => ⟨[(5, vI (i : Int)), (0, .v a.val), (1, .v b.val)], []⟩) 0 trivial (Ss [5, 0, 1] 0 (by kernel_rfl) rfl) ?_))))))))))
  rintro i _
  have hat := xs_at he i
  refine Cs (Cs (Cg (Jq 4 [14, 5, 0, 1] 0 ⟨[(14, vB (decide ((i : Int) < ((a.n : Nat) : Int)))), (5, vI (i : Int)), (0, .v a.val), (1, .v b.val)], []⟩ (Ln (Qn ?_)))))
  cases h2 : decide ((i : Int) < ((a.n : Nat) : Int)) with
  | true =>
   have h2 := of_decide_eq_true h2
   refine Ci true rfl (Ck (Qn (Cs (Cb (Cs (Cd 9 [] (.p 0 (.p 1 (.p 2 (.q 3 (.p 4 (.p 5 (.p 6 (.q 7 (.p 8 .nil))))))))) [] [] Try_mixed (by kernel_rfl) (pq_then (pq_block (pq_then (pq_then (pq_block (pq_then pq_body)))))) .slnil (Hq [(2, .idx a.ad i), (3, .ext [.int .i64 (a.at i)]), (6, .idx b.ad i), (7, .ext [.int .i64 (b.at i)])] [(0, true), (1, true), (2, true), (3, false), (4, true), (5, true), (6, true), (7, false), (8, true)] [(25, vB (!(decide ((a.at i) = (b.at i))))), (24, vI (b.at i)), (23, .v (.pointer (some (b.ad.add (i * 1))))), (22, vI (i : Int)), (21, .v b.val), (20, vI (a.at i)), (19, .v (.pointer (some (a.ad.add (i * 1))))), (18, vI (i : Int)), (17, .v a.val), (14, vB true), (5, vI (i : Int)), (0, .v a.val), (1, .v b.val)] [a.A = some a.ad, (i : Int) = (i : Int), i < a.n, b.A = some b.ad, (i : Int) = (i : Int), i < b.n] [(a.ad.add (i * 1), [.int .i64 (a.at i)]), (b.ad.add (i * 1), [.int .i64 (b.at i)])] rfl (by kernel_rfl) (oc (Sl.ok.own (s := a) (i := i) oka (by omega)) (oc rfl (oc (by omega) (oc (Sl.ok.own (s := b) (i := i) okb (by omega)) (oc rfl (oc (by omega) on)))))) (fun w hk hr => ⟨(Sl.rd.all (s := a) (i := i) (Sl.rd.kp ha hk) (by omega) rfl), ⟨(Sl.rd.all (s := b) (i := i) (Sl.rd.kp hb hk) (by omega) rfl), trivial⟩⟩) (Hn (Ln (Qn ?_))))))))))
   cases h3 : decide ((a.at i) = (b.at i)) with
   | true =>
    have h3 := of_decide_eq_true h3
    refine Ci false rfl (Ck (q_block_normal (Qn (Cg (Jr 3 [] [5, 0, 1] 0 ⟨[(5, vI ((i : Int) + 1)), (0, .v a.val), (1, .v b.val)], []⟩ [inR ((i : Int) + 1)] [] (by kernel_rfl) (oc (by unfold inR; omega) on) wn (Ln (q_loop (x := (i : Nat)) ((i + 1) : Nat) trivial (by omega) (Ss [5, 0, 1] 0 (by kernel_rfl) rfl))))))))
   | false =>
    have h3 := of_decide_eq_false h3
    exfalso; first | omega | exact h3 (xs_at he i)
  | false =>
   have h2 := of_decide_eq_false h2
   refine Ci false rfl (c_exit (Qe (Qe (Qh (Qn (Cs (Cg (Jq 1 [4] 0 ⟨[(4, vB true)], []⟩ (Ln (Qn (Cr (Rt (.inl rfl) [vB true] rfl (fun bs w hS => ?_)))))))))))))
   exact ⟨rfl, hS.kp⟩
 | false =>
  have h1 := of_decide_eq_false h1
  exfalso; first | omega | exact h1 (xs_at he i)

theorem same_locks {B B' : Nat → Prop} (a b : Sl CLock) (w : World) (ha : a.rd B w) (hb : b.rd B' w) (he : a.xs.map CLock.abs = b.xs.map CLock.abs) : Calls Try.prog 32 #[.slice a.A a.n a.c, .slice b.A b.n b.c] w fun e w' => e = .returned (.bool true) ∧ Kp [] w w' := by
 have oka := Sl.rd.ok ha
 have okb := Sl.rd.ok hb
 have hn := map_n he
 have nca := Sl.ok.nc oka
 refine calls_J0 68 Try.func32 rfl rfl [.slice a.A a.n a.c, .slice b.A b.n b.c] rfl ?_
 refine Cs (Cg (Jq 1 [0, 1] 0 ⟨[(0, .v a.val), (1, .v b.val)], []⟩ (Ln (Qn (Cs (Cs (Cg (Jq 5 [10, 0, 1] 0 ⟨[(10, vB (!(decide (((a.n : Nat) : Int) = ((b.n : Nat) : Int))))), (0, .v a.val), (1, .v b.val)], []⟩ (Ln (Qn ?_))))))))))
 cases h1 : decide (((a.n : Nat) : Int) = ((b.n : Nat) : Int)) with
 | true =>
  have h1 := of_decide_eq_true h1
  refine Ci false rfl (Ck (Qn (Cs (Cs (Cg (Jq 1 [5, 0, 1] 0 ⟨[(5, vI 0), (0, .v a.val), (1, .v b.val)], []⟩ (Ln (Qn (Cb (Cl (σ := Nat) (fun i => True) (fun i => a.n - i) (fun i => []) (fun i => ⟨[(5, vI (i : Int)), (0, .v a.val), (1, .v b.val)], []⟩) 0 trivial (Ss [5, 0, 1] 0 (by kernel_rfl) rfl) ?_))))))))))
  rintro i _
  have hat := map_at (f := CLock.abs) (g := CLock.abs) rfl he i
  have q1 : (a.at i).name = (b.at i).name := congrArg DLock.name hat
  have q2 : (a.at i).holder = (b.at i).holder := congrArg DLock.holder hat
  have q3 : (a.at i).fence = (b.at i).fence := congrArg DLock.fence hat
  have q4 : (a.at i).line.xs = (b.at i).line.xs := congrArg DLock.line hat
  refine Cs (Cs (Cg (Jq 4 [14, 5, 0, 1] 0 ⟨[(14, vB (decide ((i : Int) < ((a.n : Nat) : Int)))), (5, vI (i : Int)), (0, .v a.val), (1, .v b.val)], []⟩ (Ln (Qn ?_)))))
  cases h2 : decide ((i : Int) < ((a.n : Nat) : Int)) with
  | true =>
   have h2 := of_decide_eq_true h2
   refine Ci true rfl (Ck (Qn (Cs (Cb (Cs (Cd 51 [] (.p 0 (.p 1 (.p 2 (.p 3 (.q 4 (.p 5 (.p 6 (.p 7 (.p 8 (.q 9 (.p 10 (.p 11 (.p 12 (.p 13 (.p 14 (.p 15 (.q 16 (.p 17 (.p 18 (.p 19 (.p 20 (.q 21 (.p 22 (.p 23 (.p 24 (.p 25 (.p 26 (.p 27 (.p 28 (.q 29 (.p 30 (.p 31 (.p 32 (.p 33 (.q 34 (.p 35 (.p 36 (.p 37 (.p 38 (.p 39 (.p 40 (.p 41 (.q 42 (.p 43 (.p 44 (.p 45 (.p 46 (.q 47 (.b 48 (.p 49 (.p 50 .nil)) .z))))))))))))))))))))))))))))))))))))))))))))))))) [] [] Try_mixed (by kernel_rfl) (pq_then (pq_block (pq_then (pq_then (pq_block (pq_then pq_body)))))) .slnil (Hq [(2, .idx a.ad i), (4, .ext [.string (a.at i).name]), (7, .idx b.ad i), (9, .ext [.string (b.at i).name])] [(0, true), (1, true), (2, true), (3, true), (4, false), (5, true), (6, true), (7, true), (8, true), (9, false), (10, true), (11, true)] [(28, vB (!(decide ((a.at i).name = (b.at i).name)))), (27, vB (!(decide ((a.at i).name = (b.at i).name)))), (26, vS (b.at i).name), (25, .v (.pointer (some ((b.ad.add (i * 4)).add 0)))), (24, .v (.pointer (some (b.ad.add (i * 4))))), (23, vI (i : Int)), (22, .v b.val), (21, vS (a.at i).name), (20, .v (.pointer (some ((a.ad.add (i * 4)).add 0)))), (19, .v (.pointer (some (a.ad.add (i * 4))))), (18, vI (i : Int)), (17, .v a.val), (14, vB true), (5, vI (i : Int)), (0, .v a.val), (1, .v b.val)] [a.A = some a.ad, (i : Int) = (i : Int), i < a.n, b.A = some b.ad, (i : Int) = (i : Int), i < b.n] [((a.ad.add (i * 4)).add 0, [.string (a.at i).name]), ((b.ad.add (i * 4)).add 0, [.string (b.at i).name])] rfl (by kernel_rfl) (oc (Sl.ok.own (s := a) (i := i) oka (by omega)) (oc rfl (oc (by omega) (oc (Sl.ok.own (s := b) (i := i) okb (by omega)) (oc rfl (oc (by omega) on)))))) (fun w hk hr => ⟨(Sl.rd.fld (s := a) (i := i) (Sl.rd.kp ha hk) (by omega) 0 1 rfl), ⟨(Sl.rd.fld (s := b) (i := i) (Sl.rd.kp hb hk) (by omega) 0 1 rfl), trivial⟩⟩) ?_)))))))
   cases h3 : decide ((a.at i).name = (b.at i).name) with
   | true =>
    have h3 := of_decide_eq_true h3
    refine Hq [(14, .idx a.ad i), (16, .ext [.int .i64 (a.at i).holder]), (19, .idx b.ad i), (21, .ext [.int .i64 (b.at i).holder])] [(12, true), (13, true), (14, true), (15, true), (16, false), (17, true), (18, true), (19, true), (20, true), (21, false), (22, true), (23, true), (24, true)] [(41, vB (!(decide ((a.at i).holder = (b.at i).holder)))), (40, vB (!(decide ((a.at i).holder = (b.at i).holder)))), (39, vB (!(decide ((a.at i).holder = (b.at i).holder)))), (38, vI (b.at i).holder), (37, .v (.pointer (some ((b.ad.add (i * 4)).add 1)))), (36, .v (.pointer (some (b.ad.add (i * 4))))), (35, vI (i : Int)), (34, .v b.val), (33, vI (a.at i).holder), (32, .v (.pointer (some ((a.ad.add (i * 4)).add 1)))), (31, .v (.pointer (some (a.ad.add (i * 4))))), (30, vI (i : Int)), (29, .v a.val), (28, vB false), (27, vB false), (26, vS (b.at i).name), (25, .v (.pointer (some ((b.ad.add (i * 4)).add 0)))), (24, .v (.pointer (some (b.ad.add (i * 4))))), (23, vI (i : Int)), (22, .v b.val), (21, vS (a.at i).name), (20, .v (.pointer (some ((a.ad.add (i * 4)).add 0)))), (19, .v (.pointer (some (a.ad.add (i * 4))))), (18, vI (i : Int)), (17, .v a.val), (14, vB true), (5, vI (i : Int)), (0, .v a.val), (1, .v b.val)] [a.A = some a.ad, (i : Int) = (i : Int), i < a.n, b.A = some b.ad, (i : Int) = (i : Int), i < b.n] [((a.ad.add (i * 4)).add 1, [.int .i64 (a.at i).holder]), ((b.ad.add (i * 4)).add 1, [.int .i64 (b.at i).holder])] rfl (by kernel_rfl) (oc (Sl.ok.own (s := a) (i := i) oka (by omega)) (oc rfl (oc (by omega) (oc (Sl.ok.own (s := b) (i := i) okb (by omega)) (oc rfl (oc (by omega) on)))))) (fun w hk hr => ⟨(Sl.rd.fld (s := a) (i := i) (Sl.rd.kp ha hk) (by omega) 1 1 rfl), ⟨(Sl.rd.fld (s := b) (i := i) (Sl.rd.kp hb hk) (by omega) 1 1 rfl), trivial⟩⟩) ?_
    cases h4 : decide ((a.at i).holder = (b.at i).holder) with
    | true =>
     have h4 := of_decide_eq_true h4
     refine Hq [(27, .idx a.ad i), (29, .ext [.int .i64 (a.at i).fence]), (32, .idx b.ad i), (34, .ext [.int .i64 (b.at i).fence])] [(25, true), (26, true), (27, true), (28, true), (29, false), (30, true), (31, true), (32, true), (33, true), (34, false), (35, true), (36, true), (37, true)] [(54, vB (!(decide ((a.at i).fence = (b.at i).fence)))), (53, vB (!(decide ((a.at i).fence = (b.at i).fence)))), (52, vB (!(decide ((a.at i).fence = (b.at i).fence)))), (51, vI (b.at i).fence), (50, .v (.pointer (some ((b.ad.add (i * 4)).add 2)))), (49, .v (.pointer (some (b.ad.add (i * 4))))), (48, vI (i : Int)), (47, .v b.val), (46, vI (a.at i).fence), (45, .v (.pointer (some ((a.ad.add (i * 4)).add 2)))), (44, .v (.pointer (some (a.ad.add (i * 4))))), (43, vI (i : Int)), (42, .v a.val), (41, vB false), (40, vB false), (39, vB false), (38, vI (b.at i).holder), (37, .v (.pointer (some ((b.ad.add (i * 4)).add 1)))), (36, .v (.pointer (some (b.ad.add (i * 4))))), (35, vI (i : Int)), (34, .v b.val), (33, vI (a.at i).holder), (32, .v (.pointer (some ((a.ad.add (i * 4)).add 1)))), (31, .v (.pointer (some (a.ad.add (i * 4))))), (30, vI (i : Int)), (29, .v a.val), (28, vB false), (27, vB false), (26, vS (b.at i).name), (25, .v (.pointer (some ((b.ad.add (i * 4)).add 0)))), (24, .v (.pointer (some (b.ad.add (i * 4))))), (23, vI (i : Int)), (22, .v b.val), (21, vS (a.at i).name), (20, .v (.pointer (some ((a.ad.add (i * 4)).add 0)))), (19, .v (.pointer (some (a.ad.add (i * 4))))), (18, vI (i : Int)), (17, .v a.val), (14, vB true), (5, vI (i : Int)), (0, .v a.val), (1, .v b.val)] [a.A = some a.ad, (i : Int) = (i : Int), i < a.n, b.A = some b.ad, (i : Int) = (i : Int), i < b.n] [((a.ad.add (i * 4)).add 2, [.int .i64 (a.at i).fence]), ((b.ad.add (i * 4)).add 2, [.int .i64 (b.at i).fence])] rfl (by kernel_rfl) (oc (Sl.ok.own (s := a) (i := i) oka (by omega)) (oc rfl (oc (by omega) (oc (Sl.ok.own (s := b) (i := i) okb (by omega)) (oc rfl (oc (by omega) on)))))) (fun w hk hr => ⟨(Sl.rd.fld (s := a) (i := i) (Sl.rd.kp ha hk) (by omega) 2 1 rfl), ⟨(Sl.rd.fld (s := b) (i := i) (Sl.rd.kp hb hk) (by omega) 2 1 rfl), trivial⟩⟩) ?_
     cases h5 : decide ((a.at i).fence = (b.at i).fence) with
     | true =>
      have h5 := of_decide_eq_true h5
      refine Hq [(40, .idx a.ad i), (42, .ext [.slice (a.at i).line.A (a.at i).line.n (a.at i).line.c]), (45, .idx b.ad i), (47, .ext [.slice (b.at i).line.A (b.at i).line.n (b.at i).line.c])] [(38, true), (39, true), (40, true), (41, true), (42, false), (43, true), (44, true), (45, true), (46, true), (47, false)] [(64, .v (b.at i).line.val), (63, .v (.pointer (some ((b.ad.add (i * 4)).add 3)))), (62, .v (.pointer (some (b.ad.add (i * 4))))), (61, vI (i : Int)), (60, .v b.val), (59, .v (a.at i).line.val), (58, .v (.pointer (some ((a.ad.add (i * 4)).add 3)))), (57, .v (.pointer (some (a.ad.add (i * 4))))), (56, vI (i : Int)), (55, .v a.val), (54, vB false), (53, vB false), (52, vB false), (51, vI (b.at i).fence), (50, .v (.pointer (some ((b.ad.add (i * 4)).add 2)))), (49, .v (.pointer (some (b.ad.add (i * 4))))), (48, vI (i : Int)), (47, .v b.val), (46, vI (a.at i).fence), (45, .v (.pointer (some ((a.ad.add (i * 4)).add 2)))), (44, .v (.pointer (some (a.ad.add (i * 4))))), (43, vI (i : Int)), (42, .v a.val), (41, vB false), (40, vB false), (39, vB false), (38, vI (b.at i).holder), (37, .v (.pointer (some ((b.ad.add (i * 4)).add 1)))), (36, .v (.pointer (some (b.ad.add (i * 4))))), (35, vI (i : Int)), (34, .v b.val), (33, vI (a.at i).holder), (32, .v (.pointer (some ((a.ad.add (i * 4)).add 1)))), (31, .v (.pointer (some (a.ad.add (i * 4))))), (30, vI (i : Int)), (29, .v a.val), (28, vB false), (27, vB false), (26, vS (b.at i).name), (25, .v (.pointer (some ((b.ad.add (i * 4)).add 0)))), (24, .v (.pointer (some (b.ad.add (i * 4))))), (23, vI (i : Int)), (22, .v b.val), (21, vS (a.at i).name), (20, .v (.pointer (some ((a.ad.add (i * 4)).add 0)))), (19, .v (.pointer (some (a.ad.add (i * 4))))), (18, vI (i : Int)), (17, .v a.val), (14, vB true), (5, vI (i : Int)), (0, .v a.val), (1, .v b.val)] [a.A = some a.ad, (i : Int) = (i : Int), i < a.n, b.A = some b.ad, (i : Int) = (i : Int), i < b.n] [((a.ad.add (i * 4)).add 3, [.slice (a.at i).line.A (a.at i).line.n (a.at i).line.c]), ((b.ad.add (i * 4)).add 3, [.slice (b.at i).line.A (b.at i).line.n (b.at i).line.c])] rfl (by kernel_rfl) (oc (Sl.ok.own (s := a) (i := i) oka (by omega)) (oc rfl (oc (by omega) (oc (Sl.ok.own (s := b) (i := i) okb (by omega)) (oc rfl (oc (by omega) on)))))) (fun w hk hr => ⟨(Sl.rd.fld (s := a) (i := i) (Sl.rd.kp ha hk) (by omega) 3 1 rfl), ⟨(Sl.rd.fld (s := b) (i := i) (Sl.rd.kp hb hk) (by omega) 3 1 rfl), trivial⟩⟩) ?_
      refine h_pure 78 [] [.v (a.at i).line.val, .v (b.at i).line.val] (.bool true) rfl Try.call78 rfl rfl rfl rfl (fun bs w hS => same_ints _ _ w (And.right (Sl.rd.sub (s := a) (i := i) (Sl.rd.kp ha hS.kp) (by omega))) (And.right (Sl.rd.sub (s := b) (i := i) (Sl.rd.kp hb hS.kp) (by omega))) q4) (fun bs0 bs w hp hl hS => hS.down hp hl rfl le_nil .slnil) ?_
      refine Hq [] [(49, true), (50, true)] [(67, vB false), (66, vB false), (65, vB true), (64, .v (b.at i).line.val), (63, .v (.pointer (some ((b.ad.add (i * 4)).add 3)))), (62, .v (.pointer (some (b.ad.add (i * 4))))), (61, vI (i : Int)), (60, .v b.val), (59, .v (a.at i).line.val), (58, .v (.pointer (some ((a.ad.add (i * 4)).add 3)))), (57, .v (.pointer (some (a.ad.add (i * 4))))), (56, vI (i : Int)), (55, .v a.val), (54, vB false), (53, vB false), (52, vB false), (51, vI (b.at i).fence), (50, .v (.pointer (some ((b.ad.add (i * 4)).add 2)))), (49, .v (.pointer (some (b.ad.add (i * 4))))), (48, vI (i : Int)), (47, .v b.val), (46, vI (a.at i).fence), (45, .v (.pointer (some ((a.ad.add (i * 4)).add 2)))), (44, .v (.pointer (some (a.ad.add (i * 4))))), (43, vI (i : Int)), (42, .v a.val), (41, vB false), (40, vB false), (39, vB false), (38, vI (b.at i).holder), (37, .v (.pointer (some ((b.ad.add (i * 4)).add 1)))), (36, .v (.pointer (some (b.ad.add (i * 4))))), (35, vI (i : Int)), (34, .v b.val), (33, vI (a.at i).holder), (32, .v (.pointer (some ((a.ad.add (i * 4)).add 1)))), (31, .v (.pointer (some (a.ad.add (i * 4))))), (30, vI (i : Int)), (29, .v a.val), (28, vB false), (27, vB false), (26, vS (b.at i).name), (25, .v (.pointer (some ((b.ad.add (i * 4)).add 0)))), (24, .v (.pointer (some (b.ad.add (i * 4))))), (23, vI (i : Int)), (22, .v b.val), (21, vS (a.at i).name), (20, .v (.pointer (some ((a.ad.add (i * 4)).add 0)))), (19, .v (.pointer (some (a.ad.add (i * 4))))), (18, vI (i : Int)), (17, .v a.val), (14, vB true), (5, vI (i : Int)), (0, .v a.val), (1, .v b.val)] [] [] rfl (by kernel_rfl) on wn ?_
      refine Hn (Ln (Qn (Ci false rfl (Ck (q_block_normal (Qn (Cg (Jr 3 [] [5, 0, 1] 0 ⟨[(5, vI ((i : Int) + 1)), (0, .v a.val), (1, .v b.val)], []⟩ [inR ((i : Int) + 1)] [] (by kernel_rfl) (oc (by unfold inR; omega) on) wn (Ln (q_loop (x := (i : Nat)) ((i + 1) : Nat) trivial (by omega) (Ss [5, 0, 1] 0 (by kernel_rfl) rfl)))))))))))
     | false =>
      have h5 := of_decide_eq_false h5
      exfalso; first | omega | exact h5 q1
    | false =>
     have h4 := of_decide_eq_false h4
     exfalso; first | omega | exact h4 q1
   | false =>
    have h3 := of_decide_eq_false h3
    exfalso; first | omega | exact h3 q1
  | false =>
   have h2 := of_decide_eq_false h2
   refine Ci false rfl (c_exit (Qe (Qe (Qh (Qn (Cs (Cg (Jq 1 [4] 0 ⟨[(4, vB true)], []⟩ (Ln (Qn (Cr (Rt (.inl rfl) [vB true] rfl (fun bs w hS => ?_)))))))))))))
   exact ⟨rfl, hS.kp⟩
 | false =>
  have h1 := of_decide_eq_false h1
  exfalso; first | omega | exact h1 q1

theorem ref_unlined {B : Nat → Prop} (s : Sl Int) (who : Int) (w : World) (hs : s.rd B w) (hb : s.n ≤ 1048576) : Calls Try.prog 76 #[.slice s.A s.n s.c, .int .i64 who] w fun e w' => ∃ y : Sl Int, e = .returned y.val ∧ y.xs = unline s.xs who ∧ FreshS w w' y := by
 have oks := Sl.rd.ok hs
 have ncs := Sl.ok.nc oks
 have hns : s.n = s.xs.length := rfl
 refine calls_J0 27 Try.func76 rfl rfl [.slice s.A s.n s.c, .int .i64 who] rfl ?_
 refine Cs (Cg (Jq 1 [0, 1] 0 ⟨[(0, .v s.val), (1, vI who)], []⟩ (Ln (Qn (Cs (Cg (Jq 1 [5, 0, 1] 0 ⟨[(5, .v (.slice none 0 0)), (0, .v s.val), (1, vI who)], []⟩ (Ln (Qn (Cs (Cs (Cg (Jq 1 [6, 5, 0, 1] 0 ⟨[(6, vI 0), (5, .v (.slice none 0 0)), (0, .v s.val), (1, vI who)], []⟩ (Ln (Qn (Cb (c_rowA (α := Int) 3 (Cl (σ := Nat × Option Addr × Nat × List Int) (fun ⟨i, A, c, L⟩ => i ≤ s.n ∧ L = (s.xs.take i).filter (fun z => !decide (z = who))) (fun ⟨i, A, c, L⟩ => s.n - i) (fun ⟨i, A, c, L⟩ => [rowA 3 A c (L : List Int)]) (fun ⟨i, A, c, L⟩ => ⟨[(6, vI (i : Int)), (5, .v (.slice A L.length c)), (0, .v s.val), (1, vI who)], []⟩) ⟨0, none, 0, []⟩ ⟨Nat.zero_le _, rfl⟩ (Ss [6, 5, 0, 1] 0 (by kernel_rfl) rfl) ?_))))))))))))))))))
 rintro ⟨i, A, c, L⟩ ⟨hi, hI⟩
 have hLn : L.length ≤ i := by rw [hI]; exact Nat.le_trans (List.length_filter_le _ _) (by rw [List.length_take]; omega)
 refine Cs (Cs (Cg (Jq 4 [10, 6, 5, 0, 1] 0 ⟨[(10, vB (decide ((i : Int) < ((s.n : Nat) : Int)))), (6, vI (i : Int)), (5, .v (.slice A L.length c)), (0, .v s.val), (1, vI who)], []⟩ (Ln (Qn ?_)))))
 cases h1 : decide ((i : Int) < ((s.n : Nat) : Int)) with
 | true =>
  have h1 := of_decide_eq_true h1
  refine Ci true rfl (Ck (Qn (Cs (Cb (Cs (Cg (Jr 6 [(2, .idx s.ad i), (3, .ext [.int .i64 (s.at i)])] [18, 6, 5, 0, 1] 0 ⟨[(18, vB (!(decide ((s.at i) = who)))), (6, vI (i : Int)), (5, .v (.slice A L.length c)), (0, .v s.val), (1, vI who)], []⟩ [s.A = some s.ad, (i : Int) = (i : Int), i < s.n] [(s.ad.add (i * 1), [.int .i64 (s.at i)])] (by kernel_rfl) (oc (Sl.ok.own (s := s) (i := i) oks (by omega)) (oc rfl (oc (by omega) on))) (fun w hk hr => ⟨(Sl.rd.all (s := s) (i := i) (Sl.rd.kp hs hk) (by omega) rfl), trivial⟩) (Ln (Qn ?_)))))))))
  cases h2 : decide ((s.at i) = who) with
  | true =>
   have h2 := of_decide_eq_true h2
   refine Ci false rfl (Ck (q_block_normal (Qn (Cg (Jr 3 [] [6, 5, 0, 1] 0 ⟨[(6, vI ((i : Int) + 1)), (5, .v (.slice A L.length c)), (0, .v s.val), (1, vI who)], []⟩ [inR ((i : Int) + 1)] [] (by kernel_rfl) (oc (by unfold inR; omega) on) wn (Ln (q_loop (x := (⟨i, A, c, L⟩ : Nat × Option Addr × Nat × List Int)) (⟨i + 1, A, c, L⟩ : Nat × Option Addr × Nat × List Int) ⟨by omega, by first | exact filtS_in (p := fun z => decide (z = who)) hI (by omega) (decide_eq_false (by assumption)) | exact filtS_out (p := fun z => decide (z = who)) hI (by omega) (decide_eq_true (by assumption))⟩ (by show s.n - (i + 1) < s.n - i; omega) (Ss [6, 5, 0, 1] 0 (by kernel_rfl) rfl))))))))
  | false =>
   have h2 := of_decide_eq_false h2
   refine Ci true rfl (Cg (Jr 6 [(3, .idx s.ad i), (4, .ext [.int .i64 (s.at i)])] [24, 19, 6, 0, 1] 1 ⟨[(24, .s 0 0 1 1), (19, .v (.slice A L.length c)), (6, vI (i : Int)), (0, .v s.val), (1, vI who)], [⟨3, [vI (s.at i)]⟩]⟩ [s.A = some s.ad, (i : Int) = (i : Int), i < s.n] [(s.ad.add (i * 1), [.int .i64 (s.at i)])] (by kernel_rfl) (oc (Sl.ok.own (s := s) (i := i) oks (by omega)) (oc rfl (oc (by omega) on))) (fun w hk hr => ⟨(Sl.rd.all (s := s) (i := i) (Sl.rd.kp hs hk) (by omega) rfl), trivial⟩) (l_appendA (α := Int) 3 8 A c (L) (.s 0 0 1 1) ([(s.at i)]) Try.underlying87 (by kernel_rfl) rfl rfl rfl (fun bs w hS => by obtain ⟨q1, q2, q3, q4⟩ := src_loc (i := 0) (off := 0) (k := 1) (c := 1) (q := 1) (vs := [.int .i64 (s.at i)]) hS rfl rfl; exact ⟨some q1, q2, q3, q4⟩) (by first | omega | (simp only [List.length_append, List.length_nil, List.length_cons]; omega)) (by first | omega | (simp only [List.length_append, List.length_nil, List.length_cons]; omega)) ?_)))
   intro A1 c1
   refine Jq 1 [5, 6, 0, 1] 0 ⟨[(5, .v (.slice A1 (L ++ [(s.at i)]).length c1)), (6, vI (i : Int)), (0, .v s.val), (1, vI who)], []⟩ (Ln (q_block_normal (Qn (Cg (Jr 3 [] [6, 5, 0, 1] 0 ⟨[(6, vI ((i : Int) + 1)), (5, .v (.slice A1 (L ++ [(s.at i)]).length c1)), (0, .v s.val), (1, vI who)], []⟩ [inR ((i : Int) + 1)] [] (by kernel_rfl) (oc (by unfold inR; omega) on) wn (Ln (q_loop (x := (⟨i, A, c, L⟩ : Nat × Option Addr × Nat × List Int)) (⟨i + 1, A1, c1, L ++ [(s.at i)]⟩ : Nat × Option Addr × Nat × List Int) ⟨by omega, by first | exact filtS_in (p := fun z => decide (z = who)) hI (by omega) (decide_eq_false (by assumption)) | exact filtS_out (p := fun z => decide (z = who)) hI (by omega) (decide_eq_true (by assumption))⟩ (by show s.n - (i + 1) < s.n - i; omega) (Ss [6, 5, 0, 1] 0 (by kernel_rfl) rfl))))))))
 | false =>
  have h1 := of_decide_eq_false h1
  refine Ci false rfl (c_exit (Qe (Qe (Qh (Qn (Cs (Cg (Jq 2 [4] 0 ⟨[(4, .v (.slice A L.length c))], []⟩ (Ln (Qn (Cr (Rt (.inl rfl) [.v (.slice A L.length c)] rfl (fun bs w hS => ?_)))))))))))))
  exact ⟨⟨A, c, L⟩, rfl, by show L = _; rw [hI, take_all (by omega)]; rfl, hS.outS (y := (⟨A, c, L⟩ : Sl Int)) (allR_row (.head _) (hS.res _ (.head _)) (fun _ _ => trivial))⟩

theorem ref_passed {B : Nat → Prop} (x : CLock) (w : World) (hx : Rds.sub B w x) (hf : 1 ≤ x.fence ∧ x.fence ≤ 1073741824) (hl : x.line.n ≤ 1048576) : Calls Try.prog 77 #[.agg #[.string x.name, .int .i64 x.holder, .int .i64 x.fence, .slice x.line.A x.line.n x.line.c]] w fun e w' => ∃ y : CLock, e = .returned (.agg #[.string y.name, .int .i64 y.holder, .int .i64 y.fence, .slice y.line.A y.line.n y.line.c]) ∧ y.abs = mPass x.abs ∧ FreshS w w' y := by
 have okx := Rds.okof hx
 have ncx := Sl.ok.nc okx.2
 have hnx : x.line.n = x.line.xs.length := rfl
 have hq1 : x.abs.line = x.line.xs := rfl
 have hq2 : x.abs.fence = x.fence := rfl
 refine calls_J0 31 Try.func77 rfl rfl [.agg #[.string x.name, .int .i64 x.holder, .int .i64 x.fence, .slice x.line.A x.line.n x.line.c]] rfl ?_
 refine Cs (Cg (Jq 2 [2, 1] 2 ⟨[(2, .p 1 0), (1, .p 0 0)], [⟨89, x.cs⟩, ⟨89, [vS emp, vI 0, vI 0, .v (.slice none 0 0)]⟩]⟩ (Ln (Qn (Cs (Cs (Cg (Jq 5 [7, 2, 1] 2 ⟨[(7, vB (decide (((x.line.n : Nat) : Int) = 0))), (2, .p 1 0), (1, .p 0 0)], [⟨89, x.cs⟩, ⟨89, [vS emp, vI 0, vI 0, .v (.slice none 0 0)]⟩]⟩ ?_))))))))
 cases h1 : decide (((x.line.n : Nat) : Int) = 0) with
 | true =>
  have h1 := of_decide_eq_true h1
  refine Jq 4 [11, 2, 1] 2 ⟨[(11, vB true), (2, .p 1 0), (1, .p 0 0)], [⟨89, x.cs⟩, ⟨89, [vS emp, vI 0, vI 0, .v (.slice none 0 0)]⟩]⟩ (Ln (Qn (Ci true rfl (Cs (Cg (Jq 6 [2] 2 ⟨[(2, .p 1 0)], [⟨89, x.cs⟩, ⟨89, [vS x.name, vI 0, vI x.fence, .v (.slice none 0 0)]⟩]⟩ (Ln (Qn (Cr (Qr (Rt (.inl rfl) [.v (.agg #[.string x.name, .int .i64 0, .int .i64 x.fence, .slice none 0 0])] rfl (fun bs w hS => ?_))))))))))))
  have hp : mPass x.abs = ⟨x.name, 0, x.fence, []⟩ := by unfold mPass; rw [hq1, hq2, if_neg (by omega)]; rfl
  exact ⟨⟨x.name, 0, x.fence, Sl.nil⟩, rfl, hp.symm, hS.outS (y := (⟨x.name, 0, x.fence, Sl.nil⟩ : CLock)) ⟨okx.1, Sl.rd_nil _ _⟩⟩
 | false =>
  have h1 := of_decide_eq_false h1
  refine Jq 4 [11, 2, 1] 2 ⟨[(11, vB (decide ((1073741824 : Int) ≤ x.fence))), (2, .p 1 0), (1, .p 0 0)], [⟨89, x.cs⟩, ⟨89, [vS emp, vI 0, vI 0, .v (.slice none 0 0)]⟩]⟩ (Ln (Qn ?_))
  cases h2 : decide ((1073741824 : Int) ≤ x.fence) with
  | true =>
   have h2 := of_decide_eq_true h2
   refine Ci true rfl (Cs (Cg (Jq 6 [2] 2 ⟨[(2, .p 1 0)], [⟨89, x.cs⟩, ⟨89, [vS x.name, vI 0, vI x.fence, .v (.slice none 0 0)]⟩]⟩ (Ln (Qn (Cr (Qr (Rt (.inl rfl) [.v (.agg #[.string x.name, .int .i64 0, .int .i64 x.fence, .slice none 0 0])] rfl (fun bs w hS => ?_)))))))))
   have hp : mPass x.abs = ⟨x.name, 0, x.fence, []⟩ := by unfold mPass; rw [hq1, hq2, if_neg (by omega)]; rfl
   exact ⟨⟨x.name, 0, x.fence, Sl.nil⟩, rfl, hp.symm, hS.outS (y := (⟨x.name, 0, x.fence, Sl.nil⟩ : CLock)) ⟨okx.1, Sl.rd_nil _ _⟩⟩
  | false =>
   have h2 := of_decide_eq_false h2
   refine Ci false rfl (Ck (Qn (Cs (Cd 14 [] (.p 0 (.q 1 (.p 2 (.q 3 (.p 4 (.q 5 (.p 6 (.q 7 (.p 8 (.p 9 (.q 10 (.p 11 (.b 12 (.p 13 .nil) .z))))))))))))) [] [] Try_mixed (by kernel_rfl) (pq_then pq_body) .slnil (Hq [(4, .idx x.line.ad 0), (5, .ext [.int .i64 (x.line.at 0)]), (11, .sl 1 x.line.n)] [(0, true), (1, false), (2, true), (3, false), (4, true), (5, false), (6, true), (7, false), (8, true), (9, true), (10, false), (11, true)] [(28, .v (.slice (if x.line.c = 1 then x.line.A else x.line.A.map (·.add (1 * 1))) (x.line.n - 1) (x.line.c - 1))), (27, .v x.line.val), (26, .p 0 3), (25, vI (x.fence + 1)), (24, vI x.fence), (23, .p 0 2), (22, vI (x.line.at 0)), (21, .v (.pointer (some (x.line.ad.add (0 * 1))))), (20, .v x.line.val), (19, .p 0 3), (18, vS x.name), (17, .p 0 0), (11, vB false), (2, .p 1 0), (1, .p 0 0)] [x.line.A = some x.line.ad, (0 : Int) = ((0 : Nat) : Int), 0 < x.line.n, inR (x.fence + 1), (1 : Int) = ((1 : Nat) : Int), x.line.n = x.line.n, 1 ≤ x.line.n] [(x.line.ad.add (0 * 1), [.int .i64 (x.line.at 0)])] rfl (by kernel_rfl) (oc (Sl.ok.own (s := x.line) (i := 0) (And.right okx) (by omega)) (oc rfl (oc (by omega) (oc (by unfold inR; omega) (oc rfl (oc rfl (oc (by omega) on))))))) (fun w hk hr => ⟨(Sl.rd.all (s := x.line) (i := 0) (And.right (Rds.kp hx hk)) (by omega) rfl), trivial⟩) (h_rowA (α := Int) 3 (h_appendA (α := Int) 3 8 none 0 ([]) (.v (.slice (if x.line.c = 1 then x.line.A else x.line.A.map (·.add (1 * 1))) (x.line.n - 1) (x.line.c - 1))) (x.line.xs.drop 1) rfl Try.underlying87 (by kernel_rfl) rfl rfl rfl rfl (fun bs w hS => ⟨_, _, by rw [(show (x.line.xs.drop 1).length = x.line.n - 1 from List.length_drop ..)]; rfl, by rw [(show (x.line.xs.drop 1).length = x.line.n - 1 from List.length_drop ..)]; exact Sl.rd.srcDrop (s := x.line) (And.right (Rds.kp hx hS.kp)) (by omega)⟩) (by simp only [List.length_nil, List.length_drop]; omega) (by simp only [List.length_nil, List.length_drop]; omega) (fun bs0 bs A2 c2 w hp hl hS => hS.down hp hl rfl (le_same (le_same le_nil)) (.cons _ .slnil)) ?_)))))))
   intro A1 c1
   refine Hq [] [(13, true)] [(30, .v (.agg #[.string x.name, .int .i64 (x.line.at 0), .int .i64 (x.fence + 1), .slice A1 ([] ++ x.line.xs.drop 1).length c1])), (29, .v (.slice A1 ([] ++ x.line.xs.drop 1).length c1)), (28, .v (.slice (if x.line.c = 1 then x.line.A else x.line.A.map (·.add (1 * 1))) (x.line.n - 1) (x.line.c - 1))), (27, .v x.line.val), (26, .p 0 3), (25, vI (x.fence + 1)), (24, vI x.fence), (23, .p 0 2), (22, vI (x.line.at 0)), (21, .v (.pointer (some (x.line.ad.add (0 * 1))))), (20, .v x.line.val), (19, .p 0 3), (18, vS x.name), (17, .p 0 0), (11, vB false), (2, .p 1 0), (1, .p 0 0)] [] [] rfl (by kernel_rfl) on wn ?_
   refine Hn (Jq 1 [2] 2 ⟨[(2, .p 1 0)], [⟨89, x.cs⟩, ⟨89, [vS x.name, vI (x.line.at 0), vI (x.fence + 1), .v (.slice A1 ([] ++ x.line.xs.drop 1).length c1)]⟩]⟩ (Ln (Qn (Cr (Rt (.inl rfl) [.v (.agg #[.string x.name, .int .i64 (x.line.at 0), .int .i64 (x.fence + 1), .slice A1 ([] ++ x.line.xs.drop 1).length c1])] rfl (fun bs w hS => ?_))))))
   have hp : mPass x.abs = ⟨x.name, x.line.at 0, x.fence + 1, x.line.xs.drop 1⟩ := by unfold mPass; rw [hq1, hq2, if_pos (by omega)]; rfl
   exact ⟨⟨x.name, x.line.at 0, x.fence + 1, ⟨A1, c1, [] ++ x.line.xs.drop 1⟩⟩, rfl, hp.symm, hS.outS (y := (⟨x.name, x.line.at 0, x.fence + 1, ⟨A1, c1, [] ++ x.line.xs.drop 1⟩⟩ : CLock)) ⟨okx.1, allR_row (.head _) (hS.res _ (.head _)) (fun _ _ => trivial)⟩⟩

theorem lock_pass {B : Nat → Prop} (A : Option Addr) (c : Nat) (L : List CLock) (k : Nat) (w : World) (hrow : (rowA 89 A c L).p w) (hlt : ∀ b, b ∈ (rowA 89 A c L).fp → b < w.heap.size) (hk : k < L.length) (hx : Rds.sub B w (L.getD k default)) (hB : ∀ b, B b → b ∉ (rowA 89 A c L).fp) (hf : 1 ≤ (L.getD k default).fence ∧ (L.getD k default).fence ≤ 1073741824) : Calls Try.prog 75 #[.pointer (some ((oad A).add (k * 4)))] w fun e w' => ∃ _ : Unit, e = .returned (.tuple #[]) ∧ True ∧ Turned (rowA 89 A c L) w w' (rowA 89 A c (L.set k (passC (L.getD k default)))) := by
 have hrok := rowA_rok hrow
 have nc := hrok.2
 have okx := Rds.okof hx
 have ncx := Sl.ok.nc okx.2
 have hnx : (L.getD k default).line.n = (L.getD k default).line.xs.length := rfl
 have hst : ∀ w', Kp (rowA 89 A c L).fp w w' → Rds.sub B w' (L.getD k default) := fun w' hk => Rds.stay (fun b hb hlt => hk.block b hlt (hB b hb)) hx
 refine calls_J 46 (rowA 89 A c L).fp Try.func75 rfl rfl [] [] [rowA 89 A c L] [.v (.pointer (some ((oad A).add (k * 4))))] [.pointer (some ((oad A).add (k * 4)))] rfl rfl (WS.start1 w _ hrow (by cases A <;> simp [rowA, rowR]) hlt) ?_
 refine Cs (Cg (Jq 3 [4, 0] 0 ⟨[(4, .v (.pointer (some (((oad A).add (k * 4)).add 1)))), (0, .v (.pointer (some ((oad A).add (k * 4)))))], []⟩ (l_storeA (α := CLock) 89 A c L k 1 (((oad A).add (k * 4)).add 1) (vI 0) [vI 0] [.int .i64 0] (⟨(L.getD k default).name, 0, (L.getD k default).fence, (L.getD k default).line⟩ : CLock) rfl rfl rfl rfl rfl (by kernel_rfl) (by kernel_rfl) rfl (by omega) (by kernel_rfl) rfl rfl rfl ?_)))
 intro L1 hL1 hlL1
 have hgL1 : L1.getD k default = (⟨(L.getD k default).name, 0, (L.getD k default).fence, (L.getD k default).line⟩ : CLock) := by rw [hL1]; exact getD_set (by omega)
 have hbL1 : L1 = List.set L k (⟨(L.getD k default).name, 0, (L.getD k default).fence, (L.getD k default).line⟩ : CLock) := by rw [hL1]
 refine Ln (Qn (Cs (Cs (Cg (Jr 7 [(3, .ext [.slice (L.getD k default).line.A (L.getD k default).line.n (L.getD k default).line.c])] [11, 0] 0 ⟨[(11, vB (decide ((0 : Int) < (((L.getD k default).line.n : Nat) : Int)))), (0, .v (.pointer (some ((oad A).add (k * 4)))))], []⟩ [] [(((oad A).add (k * 4)).add 3, [.slice (L.getD k default).line.A (L.getD k default).line.n (L.getD k default).line.c])] (by kernel_rfl) on (fun w hk hr => ⟨(rowA_fld (i := k) (hr _ (.head _)) (by omega) 3 1 (by rw [hgL1]; rfl)), trivial⟩) ?_)))))
 cases h1 : decide ((0 : Int) < (((L.getD k default).line.n : Nat) : Int)) with
 | true =>
  have h1 := of_decide_eq_true h1
  refine Jr 6 [(3, .ext [.int .i64 (L.getD k default).fence])] [17, 0] 0 ⟨[(17, vB (decide ((L.getD k default).fence < 1073741824))), (0, .v (.pointer (some ((oad A).add (k * 4)))))], []⟩ [] [(((oad A).add (k * 4)).add 2, [.int .i64 (L.getD k default).fence])] (by kernel_rfl) on (fun w hk hr => ⟨(rowA_fld (i := k) (hr _ (.head _)) (by omega) 2 1 (by rw [hgL1]; rfl)), trivial⟩) ?_
  refine Ln (Qn ?_)
  cases h2 : decide ((L.getD k default).fence < 1073741824) with
  | true =>
   have h2 := of_decide_eq_true h2
   refine Ci true rfl (Cs (Cd 27 [21] (.p 0 (.p 1 (.p 2 (.p 3 (.p 4 (.p 5 (.q 6 (.p 7 (.q 8 (.p 9 (.p 10 (.p 11 (.q 12 (.p 13 (.p 14 (.p 15 (.p 16 (.q 17 (.p 18 (.p 19 (.p 20 (.x 21 (.p 22 (.p 23 (.b 24 (.p 25 (.p 26 .nil)) .z))))))))))))))))))))))))) [] [rowA 89 A c (L1 : List CLock)] Try_mixed (by kernel_rfl) (pq_then (pq_then pq_body)) (List.Sublist.refl _) (Hq [(6, .ext [.slice (L.getD k default).line.A (L.getD k default).line.n (L.getD k default).line.c]), (7, .idx (L.getD k default).line.ad 0), (8, .ext [.int .i64 ((L.getD k default).line.at 0)]), (12, .ext [.int .i64 (L.getD k default).fence]), (17, .ext [.slice (L.getD k default).line.A (L.getD k default).line.n (L.getD k default).line.c]), (18, .sl 1 (L.getD k default).line.n)] [(0, true), (1, true), (2, true), (3, true), (4, true), (5, true), (6, false), (7, true), (8, false), (9, true), (10, true), (11, true), (12, false), (13, true), (14, true), (15, true), (16, true), (17, false), (18, true), (19, true), (20, true)] [(38, .v (.pointer (some (((oad A).add (k * 4)).add 1)))), (37, .v (.pointer (some ((oad A).add (k * 4))))), (36, .v (.slice (if (L.getD k default).line.c = 1 then (L.getD k default).line.A else (L.getD k default).line.A.map (·.add (1 * 1))) ((L.getD k default).line.n - 1) ((L.getD k default).line.c - 1))), (35, .v (L.getD k default).line.val), (34, .v (.pointer (some (((oad A).add (k * 4)).add 3)))), (33, .v (.pointer (some ((oad A).add (k * 4))))), (32, .v (.pointer (some ((oad A).add (k * 4))))), (31, vI ((L.getD k default).fence + 1)), (30, vI (L.getD k default).fence), (29, .v (.pointer (some (((oad A).add (k * 4)).add 2)))), (28, .v (.pointer (some ((oad A).add (k * 4))))), (27, .v (.pointer (some ((oad A).add (k * 4))))), (26, vI ((L.getD k default).line.at 0)), (25, .v (.pointer (some ((L.getD k default).line.ad.add (0 * 1))))), (24, .v (L.getD k default).line.val), (23, .v (.pointer (some (((oad A).add (k * 4)).add 3)))), (22, .v (.pointer (some ((oad A).add (k * 4))))), (21, .v (.pointer (some ((oad A).add (k * 4))))), (20, .v (.pointer (some ((oad A).add (k * 4))))), (19, .v (.pointer (some ((oad A).add (k * 4))))), (18, .v (.pointer (some ((oad A).add (k * 4))))), (17, vB true), (0, .v (.pointer (some ((oad A).add (k * 4)))))] [(L.getD k default).line.A = some (L.getD k default).line.ad, (0 : Int) = ((0 : Nat) : Int), 0 < (L.getD k default).line.n, inR ((L.getD k default).fence + 1), (1 : Int) = ((1 : Nat) : Int), (L.getD k default).line.n = (L.getD k default).line.n, 1 ≤ (L.getD k default).line.n] [(((oad A).add (k * 4)).add 3, [.slice (L.getD k default).line.A (L.getD k default).line.n (L.getD k default).line.c]), ((L.getD k default).line.ad.add (0 * 1), [.int .i64 ((L.getD k default).line.at 0)]), (((oad A).add (k * 4)).add 2, [.int .i64 (L.getD k default).fence]), (((oad A).add (k * 4)).add 3, [.slice (L.getD k default).line.A (L.getD k default).line.n (L.getD k default).line.c])] rfl (by kernel_rfl) (oc (Sl.ok.own (s := (L.getD k default).line) (i := 0) (And.right okx) (by omega)) (oc rfl (oc (by omega) (oc (by unfold inR; omega) (oc rfl (oc rfl (oc (by omega) on))))))) (fun w hk hr => ⟨(rowA_fld (i := k) (hr _ (.head _)) (by omega) 3 1 (by rw [hgL1]; rfl)), ⟨(Sl.rd.all (s := (L.getD k default).line) (i := 0) (And.right (hst _ hk)) (by omega) rfl), ⟨(rowA_fld (i := k) (hr _ (.head _)) (by omega) 2 1 (by rw [hgL1]; rfl)), ⟨(rowA_fld (i := k) (hr _ (.head _)) (by omega) 3 1 (by rw [hgL1]; rfl)), trivial⟩⟩⟩⟩) ?_)))
   refine h_storeX [] [] (α := CLock) 89 A c L1 k 1 (((oad A).add (k * 4)).add 1) (vI ((L.getD k default).line.at 0)) [vI ((L.getD k default).line.at 0)] [.int .i64 ((L.getD k default).line.at 0)] (⟨(L.getD k default).name, ((L.getD k default).line.at 0), (L.getD k default).fence, (L.getD k default).line⟩ : CLock) rfl rfl rfl rfl rfl rfl (by kernel_rfl) (by kernel_rfl) rfl (by omega) (by kernel_rfl) (by rw [hgL1]; rfl) rfl rfl (fun bs0 bs w hp hl hS => hS.down hp hl rfl le_nil (.cons _ .slnil)) ?_
   intro L2 hL2 hlL2
   have hgL2 : L2.getD k default = (⟨(L.getD k default).name, ((L.getD k default).line.at 0), (L.getD k default).fence, (L.getD k default).line⟩ : CLock) := by rw [hL2]; exact getD_set (by omega)
   have hbL2 : L2 = List.set L k (⟨(L.getD k default).name, ((L.getD k default).line.at 0), (L.getD k default).fence, (L.getD k default).line⟩ : CLock) := by rw [hL2, hbL1, List.set_set]
   refine Hq [] [(22, true), (23, true)] [(40, .v (.pointer (some (((oad A).add (k * 4)).add 2)))), (39, .v (.pointer (some ((oad A).add (k * 4))))), (38, .v (.pointer (some (((oad A).add (k * 4)).add 1)))), (37, .v (.pointer (some ((oad A).add (k * 4))))), (36, .v (.slice (if (L.getD k default).line.c = 1 then (L.getD k default).line.A else (L.getD k default).line.A.map (·.add (1 * 1))) ((L.getD k default).line.n - 1) ((L.getD k default).line.c - 1))), (35, .v (L.getD k default).line.val), (34, .v (.pointer (some (((oad A).add (k * 4)).add 3)))), (33, .v (.pointer (some ((oad A).add (k * 4))))), (32, .v (.pointer (some ((oad A).add (k * 4))))), (31, vI ((L.getD k default).fence + 1)), (30, vI (L.getD k default).fence), (29, .v (.pointer (some (((oad A).add (k * 4)).add 2)))), (28, .v (.pointer (some ((oad A).add (k * 4))))), (27, .v (.pointer (some ((oad A).add (k * 4))))), (26, vI ((L.getD k default).line.at 0)), (25, .v (.pointer (some ((L.getD k default).line.ad.add (0 * 1))))), (24, .v (L.getD k default).line.val), (23, .v (.pointer (some (((oad A).add (k * 4)).add 3)))), (22, .v (.pointer (some ((oad A).add (k * 4))))), (21, .v (.pointer (some ((oad A).add (k * 4))))), (20, .v (.pointer (some ((oad A).add (k * 4))))), (19, .v (.pointer (some ((oad A).add (k * 4))))), (18, .v (.pointer (some ((oad A).add (k * 4))))), (17, vB true), (0, .v (.pointer (some ((oad A).add (k * 4)))))] [] [] rfl (by kernel_rfl) on wn ?_
   refine h_storeA (α := CLock) 89 A c L2 k 2 (((oad A).add (k * 4)).add 2) (vI ((L.getD k default).fence + 1)) [vI ((L.getD k default).fence + 1)] [.int .i64 ((L.getD k default).fence + 1)] (⟨(L.getD k default).name, ((L.getD k default).line.at 0), (L.getD k default).fence + 1, (L.getD k default).line⟩ : CLock) rfl rfl rfl rfl rfl rfl (by kernel_rfl) (by kernel_rfl) rfl (by omega) (by kernel_rfl) (by rw [hgL2]; rfl) rfl rfl (fun bs0 bs w hp hl hS => hS.down hp hl rfl le_nil (.cons _ .slnil)) ?_
   intro L3 hL3 hlL3
   have hgL3 : L3.getD k default = (⟨(L.getD k default).name, ((L.getD k default).line.at 0), (L.getD k default).fence + 1, (L.getD k default).line⟩ : CLock) := by rw [hL3]; exact getD_set (by omega)
   have hbL3 : L3 = List.set L k (⟨(L.getD k default).name, ((L.getD k default).line.at 0), (L.getD k default).fence + 1, (L.getD k default).line⟩ : CLock) := by rw [hL3, hbL2, List.set_set]
   refine Hq [] [(25, true), (26, true)] [(42, .v (.pointer (some (((oad A).add (k * 4)).add 3)))), (41, .v (.pointer (some ((oad A).add (k * 4))))), (40, .v (.pointer (some (((oad A).add (k * 4)).add 2)))), (39, .v (.pointer (some ((oad A).add (k * 4))))), (38, .v (.pointer (some (((oad A).add (k * 4)).add 1)))), (37, .v (.pointer (some ((oad A).add (k * 4))))), (36, .v (.slice (if (L.getD k default).line.c = 1 then (L.getD k default).line.A else (L.getD k default).line.A.map (·.add (1 * 1))) ((L.getD k default).line.n - 1) ((L.getD k default).line.c - 1))), (35, .v (L.getD k default).line.val), (34, .v (.pointer (some (((oad A).add (k * 4)).add 3)))), (33, .v (.pointer (some ((oad A).add (k * 4))))), (32, .v (.pointer (some ((oad A).add (k * 4))))), (31, vI ((L.getD k default).fence + 1)), (30, vI (L.getD k default).fence), (29, .v (.pointer (some (((oad A).add (k * 4)).add 2)))), (28, .v (.pointer (some ((oad A).add (k * 4))))), (27, .v (.pointer (some ((oad A).add (k * 4))))), (26, vI ((L.getD k default).line.at 0)), (25, .v (.pointer (some ((L.getD k default).line.ad.add (0 * 1))))), (24, .v (L.getD k default).line.val), (23, .v (.pointer (some (((oad A).add (k * 4)).add 3)))), (22, .v (.pointer (some ((oad A).add (k * 4))))), (21, .v (.pointer (some ((oad A).add (k * 4))))), (20, .v (.pointer (some ((oad A).add (k * 4))))), (19, .v (.pointer (some ((oad A).add (k * 4))))), (18, .v (.pointer (some ((oad A).add (k * 4))))), (17, vB true), (0, .v (.pointer (some ((oad A).add (k * 4)))))] [] [] rfl (by kernel_rfl) on wn ?_
   refine Hn (l_storeA (α := CLock) 89 A c L3 k 3 (((oad A).add (k * 4)).add 3) (.v (.slice (if (L.getD k default).line.c = 1 then (L.getD k default).line.A else (L.getD k default).line.A.map (·.add (1 * 1))) ((L.getD k default).line.n - 1) ((L.getD k default).line.c - 1))) [.v (.slice (if (L.getD k default).line.c = 1 then (L.getD k default).line.A else (L.getD k default).line.A.map (·.add (1 * 1))) ((L.getD k default).line.n - 1) ((L.getD k default).line.c - 1))] [.slice (if (L.getD k default).line.c = 1 then (L.getD k default).line.A else (L.getD k default).line.A.map (·.add (1 * 1))) ((L.getD k default).line.n - 1) ((L.getD k default).line.c - 1)] (⟨(L.getD k default).name, ((L.getD k default).line.at 0), (L.getD k default).fence + 1, ⟨offA (L.getD k default).line.A (L.getD k default).line.c 1 1, (L.getD k default).line.c - 1, (L.getD k default).line.xs.drop 1⟩⟩ : CLock) rfl rfl rfl rfl rfl (by kernel_rfl) (by kernel_rfl) rfl (by omega) (by kernel_rfl) (by rw [hgL3]; exact congrArg (fun q => [Value.string (L.getD k default).name, .int .i64 ((L.getD k default).line.at 0), .int .i64 ((L.getD k default).fence + 1), .slice (offA (L.getD k default).line.A (L.getD k default).line.c 1 1) q ((L.getD k default).line.c - 1)]) (List.length_drop ..).symm) rfl rfl ?_)
   intro L4 hL4 hlL4
   have hgL4 : L4.getD k default = (⟨(L.getD k default).name, ((L.getD k default).line.at 0), (L.getD k default).fence + 1, ⟨offA (L.getD k default).line.A (L.getD k default).line.c 1 1, (L.getD k default).line.c - 1, (L.getD k default).line.xs.drop 1⟩⟩ : CLock) := by rw [hL4]; exact getD_set (by omega)
   have hbL4 : L4 = List.set L k (⟨(L.getD k default).name, ((L.getD k default).line.at 0), (L.getD k default).fence + 1, ⟨offA (L.getD k default).line.A (L.getD k default).line.c 1 1, (L.getD k default).line.c - 1, (L.getD k default).line.xs.drop 1⟩⟩ : CLock) := by rw [hL4, hbL3, List.set_set]
   refine Ln (Qn (Cr (Qr (Rt (.inl rfl) [] rfl (fun bs w hS => ?_)))))
   have hp : passC (L.getD k default) = (⟨(L.getD k default).name, ((L.getD k default).line.at 0), (L.getD k default).fence + 1, ⟨offA (L.getD k default).line.A (L.getD k default).line.c 1 1, (L.getD k default).line.c - 1, (L.getD k default).line.xs.drop 1⟩⟩ : CLock) := by unfold passC; rw [if_pos ⟨by show 0 < (L.getD k default).line.xs.length; omega, by omega⟩]
   have hL : L4 = L.set k (passC (L.getD k default)) := by rw [hp]; exact hbL4
   subst hL
   exact ⟨(), rfl, trivial, hS.turned⟩
  | false =>
   have h2 := of_decide_eq_false h2
   refine Ci false rfl (Ck (Qn (Cg (Jq 3 [45] 0 ⟨[(45, .v (.pointer (some (((oad A).add (k * 4)).add 3))))], []⟩ (l_storeA (α := CLock) 89 A c L1 k 3 (((oad A).add (k * 4)).add 3) (.v (.slice none 0 0)) [.v (.slice none 0 0)] [.slice none 0 0] (⟨(L.getD k default).name, 0, (L.getD k default).fence, Sl.nil⟩ : CLock) rfl rfl rfl rfl rfl (by kernel_rfl) (by kernel_rfl) rfl (by omega) (by kernel_rfl) (by rw [hgL1]; rfl) rfl rfl ?_)))))
   intro L5 hL5 hlL5
   have hgL5 : L5.getD k default = (⟨(L.getD k default).name, 0, (L.getD k default).fence, Sl.nil⟩ : CLock) := by rw [hL5]; exact getD_set (by omega)
   have hbL5 : L5 = List.set L k (⟨(L.getD k default).name, 0, (L.getD k default).fence, Sl.nil⟩ : CLock) := by rw [hL5, hbL1, List.set_set]
   refine Ln (Rt (.inr rfl) [] rfl (fun bs w hS => ?_))
   have hp : passC (L.getD k default) = (⟨(L.getD k default).name, 0, (L.getD k default).fence, Sl.nil⟩ : CLock) := by unfold passC; rw [if_neg (by rintro ⟨h8, h9⟩; omega)]
   have hL : L5 = L.set k (passC (L.getD k default)) := by rw [hp]; exact hbL5
   subst hL
   exact ⟨(), rfl, trivial, hS.turned⟩
 | false =>
  have h1 := of_decide_eq_false h1
  refine Jq 6 [17, 0] 0 ⟨[(17, vB false), (0, .v (.pointer (some ((oad A).add (k * 4)))))], []⟩ (Ln (Qn (Ci false rfl (Ck (Qn (Cg (Jq 3 [45] 0 ⟨[(45, .v (.pointer (some (((oad A).add (k * 4)).add 3))))], []⟩ (l_storeA (α := CLock) 89 A c L1 k 3 (((oad A).add (k * 4)).add 3) (.v (.slice none 0 0)) [.v (.slice none 0 0)] [.slice none 0 0] (⟨(L.getD k default).name, 0, (L.getD k default).fence, Sl.nil⟩ : CLock) rfl rfl rfl rfl rfl (by kernel_rfl) (by kernel_rfl) rfl (by omega) (by kernel_rfl) (by rw [hgL1]; rfl) rfl rfl ?_))))))))
  intro L6 hL6 hlL6
  have hgL6 : L6.getD k default = (⟨(L.getD k default).name, 0, (L.getD k default).fence, Sl.nil⟩ : CLock) := by rw [hL6]; exact getD_set (by omega)
  have hbL6 : L6 = List.set L k (⟨(L.getD k default).name, 0, (L.getD k default).fence, Sl.nil⟩ : CLock) := by rw [hL6, hbL1, List.set_set]
  refine Ln (Rt (.inr rfl) [] rfl (fun bs w hS => ?_))
  have hp : passC (L.getD k default) = (⟨(L.getD k default).name, 0, (L.getD k default).fence, Sl.nil⟩ : CLock) := by unfold passC; rw [if_neg (by rintro ⟨h8, h9⟩; omega)]
  have hL : L6 = L.set k (passC (L.getD k default)) := by rw [hp]; exact hbL6
  subst hL
  exact ⟨(), rfl, trivial, hS.turned⟩

theorem delR_Int (A : Option Addr) (c : Nat) (L : List Int) (i j : Nat) (ii jj : Int) (w : World) (hrow : (rowA 3 A c L).p w) (hlt : ∀ b, b ∈ (rowA 3 A c L).fp → b < w.heap.size) (ei : ii = (i : Int)) (ej : jj = (j : Int)) (hij : i ≤ j) (hj : j ≤ L.length) :
  Calls Try.prog 74 #[.slice A L.length c, .int .i64 ii, .int .i64 jj] w fun e w' => e = .returned (.slice A (L.take i ++ L.drop j).length c) ∧ Turned (rowA 3 A c L) w w' (rowA 3 A c (L.take i ++ L.drop j)) := by
 subst ei ej
 have hrok := rowA_rok hrow
 have nc := hrok.2
 refine calls_J 33 (rowA 3 A c L).fp Try.func74 rfl rfl [] [] [rowA 3 A c L] [.v (.slice A L.length c), vI (i : Int), vI (j : Int)] [.slice A L.length c, .int .i64 (i : Int), .int .i64 (j : Int)] rfl rfl (WS.start1 w _ hrow (by cases A <;> simp [rowA, rowR]) hlt) ?_
 refine Cs (Cg (Jq 1 [0, 1, 2] 0 ⟨[(0, .v (.slice A L.length c)), (1, vI (i : Int)), (2, vI (j : Int))], []⟩ (Ln (Qn (Cs (Cg (Jq 5 [12, 10, 9, 8, 0, 1, 2] 0 ⟨[(12, vI ((L.length : Nat) : Int)), (10, vI (j : Int)), (9, vI (i : Int)), (8, .v (.slice A L.length c)), (0, .v (.slice A L.length c)), (1, vI (i : Int)), (2, vI (j : Int))], []⟩ (l_slice3 3 A L.length c i j L.length (i : Int) (j : Int) ((L.length : Nat) : Int) Try.underlying87 (by kernel_rfl) rfl rfl rfl rfl rfl rfl rfl rfl rfl (by omega) (by omega) (by omega) (Ln (Qn (Cs (Cs (Cg (Jq 3 [16, 0, 1, 2] 0 ⟨[(16, vB (decide ((i : Int) = (j : Int)))), (0, .v (.slice A L.length c)), (1, vI (i : Int)), (2, vI (j : Int))], []⟩ (Ln (Qn ?_))))))))))))))))
 cases h1 : decide ((i : Int) = (j : Int)) with
 | true =>
  have h1 := of_decide_eq_true h1
  refine Ci true rfl (Cs (Cg (Jq 2 [6] 0 ⟨[(6, .v (.slice A L.length c))], []⟩ (Ln (Qn (Cr (Qr (Rt (.inl rfl) [.v (.slice A L.length c)] rfl (fun bs w hS => ?_)))))))))
  have hij2 : i = j := by omega
  subst hij2
  rw [List.take_append_drop]
  exact ⟨rfl, hS.turned⟩
 | false =>
  have h1 := of_decide_eq_false h1
  refine Ci false rfl (Ck (Qn (Cs (Cg (Jq 3 [7, 0, 1, 2] 0 ⟨[(7, vI ((L.length : Nat) : Int)), (0, .v (.slice A L.length c)), (1, vI (i : Int)), (2, vI (j : Int))], []⟩ (Ln (Qn (Cs (Cd 6 [] (.p 0 (.p 1 (.p 2 (.p 3 (.p 4 (.p 5 .nil)))))) [] [rowA 3 A c (L : List Int)] Try_mixed (by kernel_rfl) (pq_then pq_body) (List.Sublist.refl _) (Hq [(2, .sl 0 i), (5, .sl j L.length)] [(0, true), (1, true), (2, true), (3, true), (4, true), (5, true)] [(25, .v (.slice (if c = j then A else A.map (·.add (j * 1))) (L.length - j) (c - j))), (24, vI (j : Int)), (23, .v (.slice A L.length c)), (22, .v (.slice A i c)), (21, vI (i : Int)), (20, .v (.slice A L.length c)), (7, vI ((L.length : Nat) : Int)), (0, .v (.slice A L.length c)), (1, vI (i : Int)), (2, vI (j : Int))] [0 = 0, (i : Int) = (i : Int), i ≤ c, (j : Int) = (j : Int), L.length = L.length, j ≤ L.length] [] rfl (by kernel_rfl) (oc rfl (oc rfl (oc (by omega) (oc rfl (oc rfl (oc (by omega) on)))))) wn (Hn (l_appdel (α := Int) 3 8 A c L i j (.v (.slice (if c = j then A else A.map (·.add (j * 1))) (L.length - j) (c - j))) Try.underlying87 (by kernel_rfl) rfl rfl rfl rfl rfl hij hj (Jq 1 [0, 7] 0 ⟨[(0, .v (.slice A (i + (L.length - j)) c)), (7, vI ((L.length : Nat) : Int))], []⟩ (Ln (Qn (Cs (Cg (Jr 5 [(4, .sl (i + (L.length - j)) L.length)] [31, 0] 0 ⟨[(31, .v (.slice (if c = (i + (L.length - j)) then A else A.map (·.add ((i + (L.length - j)) * 1))) (L.length - (i + (L.length - j))) (c - (i + (L.length - j))))), (0, .v (.slice A (i + (L.length - j)) c))], []⟩ [((i + (L.length - j) : Nat) : Int) = (((i + (L.length - j)) : Nat) : Int), ((L.length : Nat) : Int) = ((L.length : Nat) : Int), (i + (L.length - j)) ≤ L.length, L.length ≤ c] [] (by kernel_rfl) (oc rfl (oc rfl (oc (by omega) (oc (by omega) on)))) wn (l_clear (α := Int) 3 A c (L.take i ++ L.drop j) (i + (L.length - j)) (L.length - (i + (L.length - j))) (.v (.slice (if c = (i + (L.length - j)) then A else A.map (·.add ((i + (L.length - j)) * 1))) (L.length - (i + (L.length - j))) (c - (i + (L.length - j))))) Try.underlying87 (by kernel_rfl) rfl rfl rfl rfl (by simp only [List.length_append, List.length_take, List.length_drop]; omega) (by omega) (Ln (Qn (Cs (Cg (Jq 2 [6] 0 ⟨[(6, .v (.slice A (i + (L.length - j)) c))], []⟩ (Ln (Qn (Cr (Rt (.inl rfl) [.v (.slice A (i + (L.length - j)) c)] rfl (fun bs w hS => ?_)))))))))))))))))))))))))))))
  have hlen : (L.take i ++ L.drop j).length = i + (L.length - j) := by simp only [List.length_append, List.length_take, List.length_drop]; omega
  have hS2 := hS
  rw [← hlen, List.take_length] at hS2
  refine ⟨?_, hS2.turned⟩
  rw [hlen]
  rfl

theorem lock_Gone {B : Nat → Prop} (s : Sl CLock) (who : Int) (w : World) (hs : s.rd B w) : Calls Try.prog 30 #[.slice s.A s.n s.c, .int .i64 who] w fun e w' => ∃ y : Sl CLock, e = .returned (.tuple #[.slice y.A y.n y.c, .int .i64 (mGone (s.xs.map CLock.abs) who).2]) ∧ y.xs.map CLock.abs = (mGone (s.xs.map CLock.abs) who).1 ∧ FreshS w w' y := by
 have oks := Sl.rd.ok hs
 have ncs := Sl.ok.nc oks
 have hns : s.n = s.xs.length := rfl
 refine calls_J0 57 Try.func30 rfl rfl [.slice s.A s.n s.c, .int .i64 who] rfl ?_
 refine Cs (Cg (Jq 2 [0, 1] 0 ⟨[(0, .v s.val), (1, vI who)], []⟩ (Ln (Qn (Cs (Cs (Cg (Jq 1 [10, 0, 1] 0 ⟨[(10, .v s.val), (0, .v s.val), (1, vI who)], []⟩ (Lp 52 [] [.v s.val] (.int .i64 (mLocks (s.xs.map CLock.abs))) Try.call52 rfl rfl rfl rfl (fun bs w hS => lock_Check s w (Sl.rd.kp hs hS.kp)) (Jq 1 [6, 0, 1] 0 ⟨[(6, vI (mLocks (s.xs.map CLock.abs))), (0, .v s.val), (1, vI who)], []⟩ (Ln (Qn (Cs (Cg (Jq 2 [13, 6, 0, 1] 0 ⟨[(13, vB (!(decide (mLocks (s.xs.map CLock.abs) = 0)))), (6, vI (mLocks (s.xs.map CLock.abs))), (0, .v s.val), (1, vI who)], []⟩ (Ln (Qn ?_)))))))))))))))))
 cases h1 : decide (mLocks (s.xs.map CLock.abs) = 0) with
 | true =>
  have h1 := of_decide_eq_true h1
  refine Ci false rfl (Ck (Qn (Cs (Cs (Cg (Jq 1 [15, 0, 1] 0 ⟨[(15, vI who), (0, .v s.val), (1, vI who)], []⟩ (Lp 71 [] [vI who] (.bool (inB who 1 9)) Try.call71 rfl rfl rfl rfl (fun bs w hS => lock_client who w) (Jq 1 [17, 0, 1] 0 ⟨[(17, vB (!(inB who 1 9))), (0, .v s.val), (1, vI who)], []⟩ (Ln (Qn ?_))))))))))
  cases h2 : inB who 1 9 with
  | true =>
   simp only [inB, Bool.and_eq_true, Bool.and_eq_false_iff, decide_eq_true_eq, decide_eq_false_iff_not] at h2
   refine Ci false rfl (Ck (Qn (Cs (Cg (Jq 1 [18, 1] 0 ⟨[(18, .v s.val), (1, vI who)], []⟩ (l_freshF (σ := Sl CLock) 72 [] [.v s.val] (fun y1 => .slice y1.A y1.n y1.c) (fun y1 => y1.xs.map CLock.abs = s.xs.map CLock.abs) (fun y1 => locksR 89 3 y1) Try.call72 rfl rfl rfl rfl (fun bs w hS => lock_Copy s w (Sl.rd.kp hs hS.kp) (small_locks (by assumption))) ?_))))))
   rintro y1 hF1
   refine l_split2 ?_
   obtain ⟨A1, c1, S1⟩ := y1
   have hF1 : S1.map CLock.abs = s.xs.map CLock.abs := hF1
   refine Lm (R' := [ownL (lineR 3) S1, rowA 89 A1 c1 (S1 : List CLock)]) (List.Perm.refl _) ?_
   have hnm1 := locks_names (y := (⟨A1, c1, S1⟩ : Sl CLock)) (hs) hF1
   have hlen1 : S1.length = s.xs.length := by simpa using congrArg List.length hF1
   refine l_know (F := ∀ i, i < S1.length → Rds.ok (S1.getD i default)) (fun bs w hS i hi => Rds.okof (B := anyB) (w := w) (own_eltL (hS.res _ (.head _)) hnm1 (mem_of_getD hi))) fun okown1 => ?_
   refine l_know (F := RowOk A1 c1 (S1 : List CLock)) (fun bs w hS => rowA_rok (hS.res _ (.tail _ (.head _)))) fun hrow1 => ?_
   have nchrow1 := hrow1.2
   have hm1 : mLocks (S1.map CLock.abs) = 0 := by rw [hF1]; assumption
   have hln5 : S1.length ≤ 5 := by have h9 := (mLocks_bd hm1).1; simpa using h9
   refine Jq 1 [0, 1] 0 ⟨[(0, .v (.slice A1 S1.length c1)), (1, vI who)], []⟩ (Ln (Qn (Cs (Cs (Cg (Jq 3 [22, 21, 0, 1] 0 ⟨[(22, vI 0), (21, vI ((S1.length : Nat) : Int)), (0, .v (.slice A1 S1.length c1)), (1, vI who)], []⟩ (Ln (Qn (Cb (c_nores (goneR [] (S1.take 0)) rfl (fun w x hx => by cases hx) (Cl (σ := Nat × List CLock × List Nat) (fun ⟨k, L, fp⟩ => GoneI who S1 k L) (fun ⟨k, L, fp⟩ => S1.length - k) (fun ⟨k, L, fp⟩ => [goneR fp (L.take k), ownL (lineR 3) (S1.drop k), rowA 89 A1 c1 (L : List CLock)]) (fun ⟨k, L, fp⟩ => ⟨[(22, vI (k : Int)), (21, vI ((S1.length : Nat) : Int)), (0, .v (.slice A1 S1.length c1)), (1, vI who)], []⟩) ⟨0, S1, []⟩ (GoneI.start hnm1) (Ss [22, 21, 0, 1] 0 (by kernel_rfl) rfl) ?_)))))))))))
   rintro ⟨k, L, fp⟩ hI
   have hIl := hI.len
   have hIk := hI.le
   refine Cs (Cg (Jq 1 [23, 22, 21, 0, 1] 0 ⟨[(23, vB (decide ((k : Int) < ((S1.length : Nat) : Int)))), (22, vI (k : Int)), (21, vI ((S1.length : Nat) : Int)), (0, .v (.slice A1 S1.length c1)), (1, vI who)], []⟩ (Ln (Qn (Cs ?_)))))
   cases h3 : decide ((k : Int) < ((S1.length : Nat) : Int)) with
   | true =>
    have h3 := of_decide_eq_true h3
    have hD : (L.getD k default) = S1.getD k default := hI.rest k (Nat.le_refl _)
    have hkL : k < L.length := by omega
    have hk5 := lock_all hm1 (k := k) (by omega)
    rw [← hD] at hk5
    obtain ⟨hk51, hk52, hk53, hk54, hk55, hk56⟩ := hk5
    have hk7 : (L.getD k default).line.n = (L.getD k default).line.xs.length := rfl
    have okD := okown1 k (by omega)
    rw [← hD] at okD
    have ncD := Sl.ok.nc okD.2
    refine Ci true rfl (Ck (Qn (Cs (Cb (Cs (c_perm (R' := [ownL (lineR 3) (S1.drop k), goneR fp (L.take k), rowA 89 A1 c1 (L : List CLock)]) (Pf 1 rfl) (c_part2 (rowA 3 (L.getD k default).line.A (L.getD k default).line.c ((L.getD k default).line.xs : List Int)) (ownL (lineR 3) (S1.drop (k + 1))) (own_uncons_fp (lineR 3) (i := k) (by omega) hD) (own_uncons_p (lineR 3) (i := k) (by omega) hD) (Cg (Jq 2 [7, 22, 21, 0, 1] 0 ⟨[(7, vI (k : Int)), (22, vI (k : Int)), (21, vI ((S1.length : Nat) : Int)), (0, .v (.slice A1 S1.length c1)), (1, vI who)], []⟩ (Ln (Qn (Cs (Cg (Jr 4 [(2, .idx (oad A1) k)] [8, 22, 21, 0, 1] 0 ⟨[(8, .v (.pointer (some ((oad A1).add (k * 4))))), (22, vI (k : Int)), (21, vI ((S1.length : Nat) : Int)), (0, .v (.slice A1 S1.length c1)), (1, vI who)], []⟩ [A1 = some (oad A1), (k : Int) = (k : Int), k < S1.length] [] (by kernel_rfl) (oc (hrow1.1 k (by omega)) (oc rfl (oc (by omega) on))) wn (Ln (Qn (Cs (Cs (Cg (Jr 5 [(3, .ext [.slice (L.getD k default).line.A (L.getD k default).line.n (L.getD k default).line.c])] [32, 31, 8, 22, 21, 0, 1] 0 ⟨[(32, vI who), (31, .v (L.getD k default).line.val), (8, .v (.pointer (some ((oad A1).add (k * 4))))), (22, vI (k : Int)), (21, vI ((S1.length : Nat) : Int)), (0, .v (.slice A1 S1.length c1)), (1, vI who)], []⟩ [] [(((oad A1).add (k * 4)).add 3, [.slice (L.getD k default).line.A (L.getD k default).line.n (L.getD k default).line.c])] (by kernel_rfl) on (fun w hk hr => ⟨(rowA_fld (i := k) (hr _ (.tail _ (.tail _ (.tail _ (.head _))))) (by omega) 3 1 rfl), trivial⟩) (Lp 73 [] [.v (L.getD k default).line.val, vI who] (.int .i64 (mIdx (fun z => decide (z = who)) ((L.getD k default).line.xs.take (L.getD k default).line.n))) Try.call73 rfl rfl rfl rfl (fun bs w hS => idx_ints (L.getD k default).line (L.getD k default).line.n who w (And.right ⟨hI.names _ (mem_of_getD hkL), rowA_rd (B := anyB) (hS.res _ (.head _)) (fun _ _ => trivial) (fun _ _ => trivial)⟩) (by omega)) ?_)))))))))))))))))))))
    have hix : mIdx (fun z => decide (z = who)) ((L.getD k default).line.xs.take (L.getD k default).line.n) = mIdx (fun z => decide (z = who)) (L.getD k default).line.xs := by rw [take_all (Nat.le_refl _)]
    rw [hix]
    have hIb := mIdx_bd (fun z => decide (z = who)) (L.getD k default).line.xs
    generalize hIx : mIdx (fun z => decide (z = who)) (L.getD k default).line.xs = I at hIb ⊢
    refine Jq 1 [9, 8, 22, 21, 0, 1] 0 ⟨[(9, vI I), (8, .v (.pointer (some ((oad A1).add (k * 4))))), (22, vI (k : Int)), (21, vI ((S1.length : Nat) : Int)), (0, .v (.slice A1 S1.length c1)), (1, vI who)], []⟩ (Ln (Qn (Cs (Cg (Jq 2 [35, 9, 8, 22, 21, 0, 1] 0 ⟨[(35, vB (decide ((0 : Int) ≤ I))), (9, vI I), (8, .v (.pointer (some ((oad A1).add (k * 4))))), (22, vI (k : Int)), (21, vI ((S1.length : Nat) : Int)), (0, .v (.slice A1 S1.length c1)), (1, vI who)], []⟩ (Ln (Qn ?_)))))))
    cases h4 : decide ((0 : Int) ≤ I) with
    | true =>
     have h4 := of_decide_eq_true h4
     refine Ci true rfl (Cg (Jr 8 [(4, .ext [.slice (L.getD k default).line.A (L.getD k default).line.n (L.getD k default).line.c])] [43, 41, 40, 36, 8, 22, 21, 0, 1] 0 ⟨[(43, vI (I + 1)), (41, vI I), (40, .v (L.getD k default).line.val), (36, .v (.pointer (some ((oad A1).add (k * 4))))), (8, .v (.pointer (some ((oad A1).add (k * 4))))), (22, vI (k : Int)), (21, vI ((S1.length : Nat) : Int)), (0, .v (.slice A1 S1.length c1)), (1, vI who)], []⟩ [inR (I + 1)] [(((oad A1).add (k * 4)).add 3, [.slice (L.getD k default).line.A (L.getD k default).line.n (L.getD k default).line.c])] (by kernel_rfl) (oc (by unfold inR; omega) on) (fun w hk hr => ⟨(rowA_fld (i := k) (hr _ (.tail _ (.tail _ (.tail _ (.head _))))) (by omega) 3 1 rfl), trivial⟩) (l_turn (σ := Unit) 74 [] [.v (L.getD k default).line.val, vI I, vI (I + 1)] (fun _ => .slice (L.getD k default).line.A ((L.getD k default).line.xs.take I.toNat ++ (L.getD k default).line.xs.drop (I.toNat + 1)).length (L.getD k default).line.c) (fun _ => True) (fun _ => rowA 3 (L.getD k default).line.A (L.getD k default).line.c ((L.getD k default).line.xs.take I.toNat ++ (L.getD k default).line.xs.drop (I.toNat + 1) : List Int)) Try.call74 rfl rfl rfl rfl (fun bs w hS => (delR_Int (L.getD k default).line.A (L.getD k default).line.c (L.getD k default).line.xs I.toNat (I.toNat + 1) _ _ w (hS.res _ (.head _)) hS.head1.2.2 (by omega) (by omega) (by first | omega | (simp only [Sl.n] at *; omega)) (by first | omega | (simp only [Sl.n] at *; omega))).mono (fun e w' ⟨h1, h2⟩ => ⟨(), h1, trivial, h2⟩)) ?_)))
     rintro _ _
     refine Jq 2 [46, 44, 8, 22, 21, 0, 1] 0 ⟨[(46, .v (.pointer (some (((oad A1).add (k * 4)).add 3)))), (44, .v (.slice (L.getD k default).line.A ((L.getD k default).line.xs.take I.toNat ++ (L.getD k default).line.xs.drop (I.toNat + 1)).length (L.getD k default).line.c)), (8, .v (.pointer (some ((oad A1).add (k * 4))))), (22, vI (k : Int)), (21, vI ((S1.length : Nat) : Int)), (0, .v (.slice A1 S1.length c1)), (1, vI who)], []⟩ (Lm (R' := [rowA 89 A1 c1 (L : List CLock), rowA 3 (L.getD k default).line.A (L.getD k default).line.c ((L.getD k default).line.xs.take I.toNat ++ (L.getD k default).line.xs.drop (I.toNat + 1) : List Int), ownL (lineR 3) (S1.drop (k + 1)), goneR fp (L.take k)]) (Pf 3 rfl) (l_storeA (α := CLock) 89 A1 c1 L k 3 (((oad A1).add (k * 4)).add 3) (.v (.slice (L.getD k default).line.A ((L.getD k default).line.xs.take I.toNat ++ (L.getD k default).line.xs.drop (I.toNat + 1)).length (L.getD k default).line.c)) [.v (.slice (L.getD k default).line.A ((L.getD k default).line.xs.take I.toNat ++ (L.getD k default).line.xs.drop (I.toNat + 1)).length (L.getD k default).line.c)] [.slice (L.getD k default).line.A ((L.getD k default).line.xs.take I.toNat ++ (L.getD k default).line.xs.drop (I.toNat + 1)).length (L.getD k default).line.c] (⟨(L.getD k default).name, (L.getD k default).holder, (L.getD k default).fence, ⟨(L.getD k default).line.A, (L.getD k default).line.c, (L.getD k default).line.xs.take I.toNat ++ (L.getD k default).line.xs.drop (I.toNat + 1)⟩⟩ : CLock) rfl rfl rfl rfl rfl (by kernel_rfl) (by kernel_rfl) rfl (by omega) (by kernel_rfl) rfl rfl rfl ?_))
     intro L4 hL4 hlL4
     have hgL4 : L4.getD k default = (⟨(L.getD k default).name, (L.getD k default).holder, (L.getD k default).fence, ⟨(L.getD k default).line.A, (L.getD k default).line.c, (L.getD k default).line.xs.take I.toNat ++ (L.getD k default).line.xs.drop (I.toNat + 1)⟩⟩ : CLock) := by rw [hL4]; exact getD_set (by omega)
     have hbL4 : L4 = List.set L k (⟨(L.getD k default).name, (L.getD k default).holder, (L.getD k default).fence, ⟨(L.getD k default).line.A, (L.getD k default).line.c, (L.getD k default).line.xs.take I.toNat ++ (L.getD k default).line.xs.drop (I.toNat + 1)⟩⟩ : CLock) := by rw [hL4]
     refine Ln (Qn (Cs (Cg (Jr 6 [(3, .ext [.int .i64 (L.getD k default).holder])] [52, 8, 22, 21, 0, 1] 0 ⟨[(52, vB (decide ((L.getD k default).holder = who))), (8, .v (.pointer (some ((oad A1).add (k * 4))))), (22, vI (k : Int)), (21, vI ((S1.length : Nat) : Int)), (0, .v (.slice A1 S1.length c1)), (1, vI who)], []⟩ [] [(((oad A1).add (k * 4)).add 1, [.int .i64 (L.getD k default).holder])] (by kernel_rfl) on (fun w hk hr => ⟨(rowA_fld (i := k) (hr _ (.head _)) (by omega) 1 1 (by rw [hgL4]; rfl)), trivial⟩) (Ln (Qn ?_))))))
     cases h5 : decide ((L.getD k default).holder = who) with
     | true =>
      have h5 := of_decide_eq_true h5
      refine Ci true rfl (Cg (Jq 1 [53, 22, 21, 0, 1] 0 ⟨[(53, .v (.pointer (some ((oad A1).add (k * 4))))), (22, vI (k : Int)), (21, vI ((S1.length : Nat) : Int)), (0, .v (.slice A1 S1.length c1)), (1, vI who)], []⟩ (l_turn (σ := Unit) 75 [] [.v (.pointer (some ((oad A1).add (k * 4))))] (fun _ => .tuple #[]) (fun _ => True) (fun _ => rowA 89 A1 c1 (L4.set k (passC (L4.getD k default)) : List CLock)) Try.call75 rfl rfl rfl rfl (fun bs w hS => lock_pass (B := (· ∈ (rowA 3 (L.getD k default).line.A (L.getD k default).line.c ((L.getD k default).line.xs.take I.toNat ++ (L.getD k default).line.xs.drop (I.toNat + 1) : List Int)).fp)) A1 c1 L4 k w (hS.res _ (.head _)) hS.head1.2.2 (by omega) (by rw [hgL4]; exact ⟨(show (L.getD k default).name.size ≤ 9223372036854775807 from hI.names _ (mem_of_getD hkL)), rowA_rd (hS.res _ (.tail _ (.head _))) (fun b hb => hb) (fun _ _ => trivial)⟩) (fun b hb => hS.disj (r2 := rowA 3 (L.getD k default).line.A (L.getD k default).line.c ((L.getD k default).line.xs.take I.toNat ++ (L.getD k default).line.xs.drop (I.toNat + 1) : List Int)) (.head _) b hb) (by rw [hgL4]; exact ⟨hk54, hk55⟩)) ?_)))
      rintro _ _
      obtain ⟨L6, hL6⟩ : ∃ M : List CLock, M = L4.set k (passC (L4.getD k default)) := ⟨_, rfl⟩
      rw [← hL6]
      have hlL6 : L6.length = L4.length := by rw [hL6, List.length_set]
      have hgL6 : L6.getD k default = passC (⟨(L.getD k default).name, (L.getD k default).holder, (L.getD k default).fence, ⟨(L.getD k default).line.A, (L.getD k default).line.c, (L.getD k default).line.xs.take I.toNat ++ (L.getD k default).line.xs.drop (I.toNat + 1)⟩⟩ : CLock) := by rw [hL6, hgL4]; exact getD_set (by omega)
      have hbL6 : L6 = List.set L k (passC (⟨(L.getD k default).name, (L.getD k default).holder, (L.getD k default).fence, ⟨(L.getD k default).line.A, (L.getD k default).line.c, (L.getD k default).line.xs.take I.toNat ++ (L.getD k default).line.xs.drop (I.toNat + 1)⟩⟩ : CLock)) := by rw [hL6, hgL4, hbL4, List.set_set]
      refine Ln (q_block_normal (Qn (Cg (Jr 2 [] [22, 21, 0, 1] 0 ⟨[(22, vI ((k : Int) + 1)), (21, vI ((S1.length : Nat) : Int)), (0, .v (.slice A1 S1.length c1)), (1, vI who)], []⟩ [inR ((k : Int) + 1)] [] (by kernel_rfl) (oc (by unfold inR; omega) on) wn ?_))))
      have hul : (L.getD k default).line.xs.take I.toNat ++ (L.getD k default).line.xs.drop (I.toNat + 1) = unline (L.getD k default).line.xs who := line_one' (d := (L.getD k default).abs) hk53 (i := I.toNat) (by show mIdx _ (L.getD k default).line.xs = _; rw [hIx]; omega) rfl
      have hga : ((passC (⟨(L.getD k default).name, (L.getD k default).holder, (L.getD k default).fence, ⟨(L.getD k default).line.A, (L.getD k default).line.c, (L.getD k default).line.xs.take I.toNat ++ (L.getD k default).line.xs.drop (I.toNat + 1)⟩⟩ : CLock))).abs = goneF who (L.getD k default).abs := gone_pass (D := (L.getD k default)) (x := (⟨(L.getD k default).name, (L.getD k default).holder, (L.getD k default).fence, ⟨(L.getD k default).line.A, (L.getD k default).line.c, (L.getD k default).line.xs.take I.toNat ++ (L.getD k default).line.xs.drop (I.toNat + 1)⟩⟩ : CLock)) (passC_abs _) rfl rfl rfl hul h5
      have hgn : ((passC (⟨(L.getD k default).name, (L.getD k default).holder, (L.getD k default).fence, ⟨(L.getD k default).line.A, (L.getD k default).line.c, (L.getD k default).line.xs.take I.toNat ++ (L.getD k default).line.xs.drop (I.toNat + 1)⟩⟩ : CLock))).name = (L.getD k default).name := passC_name _
      refine Lm (R' := [goneR fp (L.take k), rowA 89 A1 c1 (L6 : List CLock), rowA 3 (L.getD k default).line.A (L.getD k default).line.c ((L.getD k default).line.xs.take I.toNat ++ (L.getD k default).line.xs.drop (I.toNat + 1) : List Int), ownL (lineR 3) (S1.drop (k + 1))]) (Pf 3 rfl) ?_
      refine Lm (R' := [rowA 3 (L.getD k default).line.A (L.getD k default).line.c ((L.getD k default).line.xs.take I.toNat ++ (L.getD k default).line.xs.drop (I.toNat + 1) : List Int), goneR fp (L.take k), rowA 89 A1 c1 (L6 : List CLock), ownL (lineR 3) (S1.drop (k + 1))]) (Pf 2 rfl) ?_
      refine l_join (goneR (fp ++ (rowA 3 (L.getD k default).line.A (L.getD k default).line.c ((L.getD k default).line.xs.take I.toNat ++ (L.getD k default).line.xs.drop (I.toNat + 1) : List Int)).fp) (List.take (k + 1) L6)) List.perm_append_comm (fun w h1 h2 => goneR_step hkL hbL6 (passC_rd (x := (⟨(L.getD k default).name, (L.getD k default).holder, (L.getD k default).fence, ⟨(L.getD k default).line.A, (L.getD k default).line.c, (L.getD k default).line.xs.take I.toNat ++ (L.getD k default).line.xs.drop (I.toNat + 1)⟩⟩ : CLock)) (rowA_rd (A := (L.getD k default).line.A) (c := (L.getD k default).line.c) (L := (L.getD k default).line.xs.take I.toNat ++ (L.getD k default).line.xs.drop (I.toNat + 1)) h1 (fun b hb => hb) (fun _ _ => trivial))) h2) ?_
      refine Lm (R' := [goneR (fp ++ (rowA 3 (L.getD k default).line.A (L.getD k default).line.c ((L.getD k default).line.xs.take I.toNat ++ (L.getD k default).line.xs.drop (I.toNat + 1) : List Int)).fp) (List.take (k + 1) L6), ownL (lineR 3) (S1.drop (k + 1)), rowA 89 A1 c1 (L6 : List CLock)]) (List.Perm.trans (l₂ := [ownL (lineR 3) (S1.drop (k + 1)), rowA 89 A1 c1 (L6 : List CLock), goneR (fp ++ (rowA 3 (L.getD k default).line.A (L.getD k default).line.c ((L.getD k default).line.xs.take I.toNat ++ (L.getD k default).line.xs.drop (I.toNat + 1) : List Int)).fp) (List.take (k + 1) L6)]) (Pf 2 rfl) (List.Perm.trans (l₂ := [rowA 89 A1 c1 (L6 : List CLock), goneR (fp ++ (rowA 3 (L.getD k default).line.A (L.getD k default).line.c ((L.getD k default).line.xs.take I.toNat ++ (L.getD k default).line.xs.drop (I.toNat + 1) : List Int)).fp) (List.take (k + 1) L6), ownL (lineR 3) (S1.drop (k + 1))]) (Pf 2 rfl) (List.Perm.trans (l₂ := [goneR (fp ++ (rowA 3 (L.getD k default).line.A (L.getD k default).line.c ((L.getD k default).line.xs.take I.toNat ++ (L.getD k default).line.xs.drop (I.toNat + 1) : List Int)).fp) (List.take (k + 1) L6), rowA 89 A1 c1 (L6 : List CLock), ownL (lineR 3) (S1.drop (k + 1))]) (Pf 1 rfl) (List.Perm.refl _)))) ?_
      refine Ln (q_loop (x := (⟨k, L, fp⟩ : Nat × List CLock × List Nat)) (⟨k + 1, L6, fp ++ (rowA 3 (L.getD k default).line.A (L.getD k default).line.c ((L.getD k default).line.xs.take I.toNat ++ (L.getD k default).line.xs.drop (I.toNat + 1) : List Int)).fp⟩ : Nat × List CLock × List Nat) (GoneI.step hI (by omega) hbL6 hga hgn) (by show S1.length - (k + 1) < S1.length - k; omega) (Ss [22, 21, 0, 1] 0 (by kernel_rfl) rfl))
     | false =>
      have h5 := of_decide_eq_false h5
      refine Ci false rfl (Ck (q_block_normal (Qn (Cg (Jr 2 [] [22, 21, 0, 1] 0 ⟨[(22, vI ((k : Int) + 1)), (21, vI ((S1.length : Nat) : Int)), (0, .v (.slice A1 S1.length c1)), (1, vI who)], []⟩ [inR ((k : Int) + 1)] [] (by kernel_rfl) (oc (by unfold inR; omega) on) wn ?_)))))
      have hul : (L.getD k default).line.xs.take I.toNat ++ (L.getD k default).line.xs.drop (I.toNat + 1) = unline (L.getD k default).line.xs who := line_one' (d := (L.getD k default).abs) hk53 (i := I.toNat) (by show mIdx _ (L.getD k default).line.xs = _; rw [hIx]; omega) rfl
      have hga : ((⟨(L.getD k default).name, (L.getD k default).holder, (L.getD k default).fence, ⟨(L.getD k default).line.A, (L.getD k default).line.c, (L.getD k default).line.xs.take I.toNat ++ (L.getD k default).line.xs.drop (I.toNat + 1)⟩⟩ : CLock)).abs = goneF who (L.getD k default).abs := gone_keep (D := (L.getD k default)) (x := (⟨(L.getD k default).name, (L.getD k default).holder, (L.getD k default).fence, ⟨(L.getD k default).line.A, (L.getD k default).line.c, (L.getD k default).line.xs.take I.toNat ++ (L.getD k default).line.xs.drop (I.toNat + 1)⟩⟩ : CLock)) rfl rfl rfl hul h5
      have hgn : ((⟨(L.getD k default).name, (L.getD k default).holder, (L.getD k default).fence, ⟨(L.getD k default).line.A, (L.getD k default).line.c, (L.getD k default).line.xs.take I.toNat ++ (L.getD k default).line.xs.drop (I.toNat + 1)⟩⟩ : CLock)).name = (L.getD k default).name := rfl
      refine Lm (R' := [goneR fp (L.take k), rowA 89 A1 c1 (L4 : List CLock), rowA 3 (L.getD k default).line.A (L.getD k default).line.c ((L.getD k default).line.xs.take I.toNat ++ (L.getD k default).line.xs.drop (I.toNat + 1) : List Int), ownL (lineR 3) (S1.drop (k + 1))]) (Pf 3 rfl) ?_
      refine Lm (R' := [rowA 3 (L.getD k default).line.A (L.getD k default).line.c ((L.getD k default).line.xs.take I.toNat ++ (L.getD k default).line.xs.drop (I.toNat + 1) : List Int), goneR fp (L.take k), rowA 89 A1 c1 (L4 : List CLock), ownL (lineR 3) (S1.drop (k + 1))]) (Pf 2 rfl) ?_
      refine l_join (goneR (fp ++ (rowA 3 (L.getD k default).line.A (L.getD k default).line.c ((L.getD k default).line.xs.take I.toNat ++ (L.getD k default).line.xs.drop (I.toNat + 1) : List Int)).fp) (List.take (k + 1) L4)) List.perm_append_comm (fun w h1 h2 => goneR_step hkL hbL4 (rowA_rd (A := (L.getD k default).line.A) (c := (L.getD k default).line.c) (L := (L.getD k default).line.xs.take I.toNat ++ (L.getD k default).line.xs.drop (I.toNat + 1)) h1 (fun b hb => hb) (fun _ _ => trivial)) h2) ?_
      refine Lm (R' := [goneR (fp ++ (rowA 3 (L.getD k default).line.A (L.getD k default).line.c ((L.getD k default).line.xs.take I.toNat ++ (L.getD k default).line.xs.drop (I.toNat + 1) : List Int)).fp) (List.take (k + 1) L4), ownL (lineR 3) (S1.drop (k + 1)), rowA 89 A1 c1 (L4 : List CLock)]) (List.Perm.trans (l₂ := [ownL (lineR 3) (S1.drop (k + 1)), rowA 89 A1 c1 (L4 : List CLock), goneR (fp ++ (rowA 3 (L.getD k default).line.A (L.getD k default).line.c ((L.getD k default).line.xs.take I.toNat ++ (L.getD k default).line.xs.drop (I.toNat + 1) : List Int)).fp) (List.take (k + 1) L4)]) (Pf 2 rfl) (List.Perm.trans (l₂ := [rowA 89 A1 c1 (L4 : List CLock), goneR (fp ++ (rowA 3 (L.getD k default).line.A (L.getD k default).line.c ((L.getD k default).line.xs.take I.toNat ++ (L.getD k default).line.xs.drop (I.toNat + 1) : List Int)).fp) (List.take (k + 1) L4), ownL (lineR 3) (S1.drop (k + 1))]) (Pf 2 rfl) (List.Perm.trans (l₂ := [goneR (fp ++ (rowA 3 (L.getD k default).line.A (L.getD k default).line.c ((L.getD k default).line.xs.take I.toNat ++ (L.getD k default).line.xs.drop (I.toNat + 1) : List Int)).fp) (List.take (k + 1) L4), rowA 89 A1 c1 (L4 : List CLock), ownL (lineR 3) (S1.drop (k + 1))]) (Pf 1 rfl) (List.Perm.refl _)))) ?_
      refine Ln (q_loop (x := (⟨k, L, fp⟩ : Nat × List CLock × List Nat)) (⟨k + 1, L4, fp ++ (rowA 3 (L.getD k default).line.A (L.getD k default).line.c ((L.getD k default).line.xs.take I.toNat ++ (L.getD k default).line.xs.drop (I.toNat + 1) : List Int)).fp⟩ : Nat × List CLock × List Nat) (GoneI.step hI (by omega) hbL4 hga hgn) (by show S1.length - (k + 1) < S1.length - k; omega) (Ss [22, 21, 0, 1] 0 (by kernel_rfl) rfl))
    | false =>
     have h4 := of_decide_eq_false h4
     refine Ci false rfl (Ck (Qn (Cs (Cg (Jr 6 [(3, .ext [.int .i64 (L.getD k default).holder])] [52, 8, 22, 21, 0, 1] 0 ⟨[(52, vB (decide ((L.getD k default).holder = who))), (8, .v (.pointer (some ((oad A1).add (k * 4))))), (22, vI (k : Int)), (21, vI ((S1.length : Nat) : Int)), (0, .v (.slice A1 S1.length c1)), (1, vI who)], []⟩ [] [(((oad A1).add (k * 4)).add 1, [.int .i64 (L.getD k default).holder])] (by kernel_rfl) on (fun w hk hr => ⟨(rowA_fld (i := k) (hr _ (.tail _ (.tail _ (.tail _ (.head _))))) (by omega) 1 1 rfl), trivial⟩) (Ln (Qn ?_)))))))
     cases h6 : decide ((L.getD k default).holder = who) with
     | true =>
      have h6 := of_decide_eq_true h6
      refine Ci true rfl (Cg (Jq 1 [53, 22, 21, 0, 1] 0 ⟨[(53, .v (.pointer (some ((oad A1).add (k * 4))))), (22, vI (k : Int)), (21, vI ((S1.length : Nat) : Int)), (0, .v (.slice A1 S1.length c1)), (1, vI who)], []⟩ (Lm (R' := [rowA 89 A1 c1 (L : List CLock), rowA 3 (L.getD k default).line.A (L.getD k default).line.c ((L.getD k default).line.xs : List Int), ownL (lineR 3) (S1.drop (k + 1)), goneR fp (L.take k)]) (Pf 3 rfl) (l_turn (σ := Unit) 75 [] [.v (.pointer (some ((oad A1).add (k * 4))))] (fun _ => .tuple #[]) (fun _ => True) (fun _ => rowA 89 A1 c1 (L.set k (passC (L.getD k default)) : List CLock)) Try.call75 rfl rfl rfl rfl (fun bs w hS => lock_pass (B := (· ∈ (rowA 3 (L.getD k default).line.A (L.getD k default).line.c ((L.getD k default).line.xs : List Int)).fp)) A1 c1 L k w (hS.res _ (.head _)) hS.head1.2.2 (by omega) ⟨(show (L.getD k default).name.size ≤ 9223372036854775807 from hI.names _ (mem_of_getD hkL)), rowA_rd (hS.res _ (.tail _ (.head _))) (fun b hb => hb) (fun _ _ => trivial)⟩ (fun b hb => hS.disj (r2 := rowA 3 (L.getD k default).line.A (L.getD k default).line.c ((L.getD k default).line.xs : List Int)) (.head _) b hb) ⟨hk54, hk55⟩) ?_))))
      rintro _ _
      obtain ⟨L8, hL8⟩ : ∃ M : List CLock, M = L.set k (passC (L.getD k default)) := ⟨_, rfl⟩
      rw [← hL8]
      have hlL8 : L8.length = L.length := by rw [hL8, List.length_set]
      have hgL8 : L8.getD k default = passC (L.getD k default) := by rw [hL8]; exact getD_set (by omega)
      have hbL8 : L8 = List.set L k (passC (L.getD k default)) := by rw [hL8]
      refine Ln (q_block_normal (Qn (Cg (Jr 2 [] [22, 21, 0, 1] 0 ⟨[(22, vI ((k : Int) + 1)), (21, vI ((S1.length : Nat) : Int)), (0, .v (.slice A1 S1.length c1)), (1, vI who)], []⟩ [inR ((k : Int) + 1)] [] (by kernel_rfl) (oc (by unfold inR; omega) on) wn ?_))))
      have hul : (L.getD k default).line.xs = unline (L.getD k default).line.xs who := (line_none (by rw [hIx]; omega)).symm
      have hga : ((passC (L.getD k default))).abs = goneF who (L.getD k default).abs := gone_pass (D := (L.getD k default)) (x := (L.getD k default)) (passC_abs _) rfl rfl rfl hul h6
      have hgn : ((passC (L.getD k default))).name = (L.getD k default).name := passC_name _
      refine Lm (R' := [goneR fp (L.take k), rowA 89 A1 c1 (L8 : List CLock), rowA 3 (L.getD k default).line.A (L.getD k default).line.c ((L.getD k default).line.xs : List Int), ownL (lineR 3) (S1.drop (k + 1))]) (Pf 3 rfl) ?_
      refine Lm (R' := [rowA 3 (L.getD k default).line.A (L.getD k default).line.c ((L.getD k default).line.xs : List Int), goneR fp (L.take k), rowA 89 A1 c1 (L8 : List CLock), ownL (lineR 3) (S1.drop (k + 1))]) (Pf 2 rfl) ?_
      refine l_join (goneR (fp ++ (rowA 3 (L.getD k default).line.A (L.getD k default).line.c ((L.getD k default).line.xs : List Int)).fp) (List.take (k + 1) L8)) List.perm_append_comm (fun w h1 h2 => goneR_step hkL hbL8 (passC_rd (x := (L.getD k default)) (rowA_rd (A := (L.getD k default).line.A) (c := (L.getD k default).line.c) (L := (L.getD k default).line.xs) h1 (fun b hb => hb) (fun _ _ => trivial))) h2) ?_
      refine Lm (R' := [goneR (fp ++ (rowA 3 (L.getD k default).line.A (L.getD k default).line.c ((L.getD k default).line.xs : List Int)).fp) (List.take (k + 1) L8), ownL (lineR 3) (S1.drop (k + 1)), rowA 89 A1 c1 (L8 : List CLock)]) (List.Perm.trans (l₂ := [ownL (lineR 3) (S1.drop (k + 1)), rowA 89 A1 c1 (L8 : List CLock), goneR (fp ++ (rowA 3 (L.getD k default).line.A (L.getD k default).line.c ((L.getD k default).line.xs : List Int)).fp) (List.take (k + 1) L8)]) (Pf 2 rfl) (List.Perm.trans (l₂ := [rowA 89 A1 c1 (L8 : List CLock), goneR (fp ++ (rowA 3 (L.getD k default).line.A (L.getD k default).line.c ((L.getD k default).line.xs : List Int)).fp) (List.take (k + 1) L8), ownL (lineR 3) (S1.drop (k + 1))]) (Pf 2 rfl) (List.Perm.trans (l₂ := [goneR (fp ++ (rowA 3 (L.getD k default).line.A (L.getD k default).line.c ((L.getD k default).line.xs : List Int)).fp) (List.take (k + 1) L8), rowA 89 A1 c1 (L8 : List CLock), ownL (lineR 3) (S1.drop (k + 1))]) (Pf 1 rfl) (List.Perm.refl _)))) ?_
      refine Ln (q_loop (x := (⟨k, L, fp⟩ : Nat × List CLock × List Nat)) (⟨k + 1, L8, fp ++ (rowA 3 (L.getD k default).line.A (L.getD k default).line.c ((L.getD k default).line.xs : List Int)).fp⟩ : Nat × List CLock × List Nat) (GoneI.step hI (by omega) hbL8 hga hgn) (by show S1.length - (k + 1) < S1.length - k; omega) (Ss [22, 21, 0, 1] 0 (by kernel_rfl) rfl))
     | false =>
      have h6 := of_decide_eq_false h6
      refine Ci false rfl (Ck (q_block_normal (Qn (Cg (Jr 2 [] [22, 21, 0, 1] 0 ⟨[(22, vI ((k : Int) + 1)), (21, vI ((S1.length : Nat) : Int)), (0, .v (.slice A1 S1.length c1)), (1, vI who)], []⟩ [inR ((k : Int) + 1)] [] (by kernel_rfl) (oc (by unfold inR; omega) on) wn ?_)))))
      have hul : (L.getD k default).line.xs = unline (L.getD k default).line.xs who := (line_none (by rw [hIx]; omega)).symm
      have hga : ((L.getD k default)).abs = goneF who (L.getD k default).abs := gone_keep (D := (L.getD k default)) (x := (L.getD k default)) rfl rfl rfl hul h6
      have hgn : ((L.getD k default)).name = (L.getD k default).name := rfl
      refine Lm (R' := [goneR fp (L.take k), rowA 3 (L.getD k default).line.A (L.getD k default).line.c ((L.getD k default).line.xs : List Int), ownL (lineR 3) (S1.drop (k + 1)), rowA 89 A1 c1 (L : List CLock)]) (Pf 2 rfl) ?_
      refine Lm (R' := [rowA 3 (L.getD k default).line.A (L.getD k default).line.c ((L.getD k default).line.xs : List Int), goneR fp (L.take k), ownL (lineR 3) (S1.drop (k + 1)), rowA 89 A1 c1 (L : List CLock)]) (Pf 1 rfl) ?_
      refine l_join (goneR (fp ++ (rowA 3 (L.getD k default).line.A (L.getD k default).line.c ((L.getD k default).line.xs : List Int)).fp) (List.take (k + 1) L)) List.perm_append_comm (fun w h1 h2 => goneR_step hkL (set_getD hkL).symm (rowA_rd (A := (L.getD k default).line.A) (c := (L.getD k default).line.c) (L := (L.getD k default).line.xs) h1 (fun b hb => hb) (fun _ _ => trivial)) h2) ?_
      refine Lm (R' := [goneR (fp ++ (rowA 3 (L.getD k default).line.A (L.getD k default).line.c ((L.getD k default).line.xs : List Int)).fp) (List.take (k + 1) L), ownL (lineR 3) (S1.drop (k + 1)), rowA 89 A1 c1 (L : List CLock)]) (List.Perm.trans (l₂ := [ownL (lineR 3) (S1.drop (k + 1)), rowA 89 A1 c1 (L : List CLock), goneR (fp ++ (rowA 3 (L.getD k default).line.A (L.getD k default).line.c ((L.getD k default).line.xs : List Int)).fp) (List.take (k + 1) L)]) (Pf 2 rfl) (List.Perm.trans (l₂ := [rowA 89 A1 c1 (L : List CLock), goneR (fp ++ (rowA 3 (L.getD k default).line.A (L.getD k default).line.c ((L.getD k default).line.xs : List Int)).fp) (List.take (k + 1) L), ownL (lineR 3) (S1.drop (k + 1))]) (Pf 2 rfl) (List.Perm.trans (l₂ := [goneR (fp ++ (rowA 3 (L.getD k default).line.A (L.getD k default).line.c ((L.getD k default).line.xs : List Int)).fp) (List.take (k + 1) L), ownL (lineR 3) (S1.drop (k + 1)), rowA 89 A1 c1 (L : List CLock)]) (Pf 2 rfl) (List.Perm.refl _)))) ?_
      refine Ln (q_loop (x := (⟨k, L, fp⟩ : Nat × List CLock × List Nat)) (⟨k + 1, L, fp ++ (rowA 3 (L.getD k default).line.A (L.getD k default).line.c ((L.getD k default).line.xs : List Int)).fp⟩ : Nat × List CLock × List Nat) (GoneI.step hI (by omega) (set_getD hkL).symm hga hgn) (by show S1.length - (k + 1) < S1.length - k; omega) (Ss [22, 21, 0, 1] 0 (by kernel_rfl) rfl))
   | false =>
    have h3 := of_decide_eq_false h3
    refine Ci false rfl (c_exit (Qe (Qe (Qh (Qn (Cs (Cg (Jq 3 [5, 4] 0 ⟨[(5, vI 0), (4, .v (.slice A1 S1.length c1))], []⟩ (Ln (Qn (Cr (Rt (.inl rfl) [.v (.slice A1 S1.length c1), vI 0] rfl (fun bs w hS => ?_)))))))))))))
    have hm := gone_ok (who := who) h1 (by simp only [inB, Bool.and_eq_true, Bool.and_eq_false_iff, decide_eq_true_eq, decide_eq_false_iff_not] at *; omega)
    refine ⟨⟨A1, c1, L⟩, ?_, ?_, hS.outS (y := (⟨A1, c1, L⟩ : Sl CLock)) (gone_out hI (by omega) (.tail _ (.tail _ (.head _))) (.head _) hS.res)⟩
    · rw [hm]; exact congrArg (fun q => Ending.returned (.tuple #[.slice A1 q c1, .int .i64 0])) hI.len.symm
    · rw [hm, ← hF1]; exact hI.fin (by omega)
  | false =>
   simp only [inB, Bool.and_eq_true, Bool.and_eq_false_iff, decide_eq_true_eq, decide_eq_false_iff_not] at h2
   refine Ci true rfl (Cs (Cg (Jq 2 [5, 4] 0 ⟨[(5, vI 2), (4, .v (.slice none 0 0))], []⟩ (Ln (Qn (Cr (Qr (Rt (.inl rfl) [.v (.slice none 0 0), vI 2] rfl (fun bs w hS => ?_)))))))))
   have hm := gone_who (who := who) h1 (by simp only [inB, Bool.and_eq_true, Bool.and_eq_false_iff, decide_eq_true_eq, decide_eq_false_iff_not] at *; omega)
   refine ⟨Sl.nil, ?_, ?_, hS.outS (Sl.rd_nil _ _)⟩
   · rw [hm] <;> rfl
   · rw [hm] <;> rfl
 | false =>
  have h1 := of_decide_eq_false h1
  refine Ci true rfl (Cs (Cg (Jq 3 [5, 4] 0 ⟨[(5, vI (mLocks (s.xs.map CLock.abs))), (4, .v (.slice none 0 0))], []⟩ (Ln (Qn (Cr (Qr (Rt (.inl rfl) [.v (.slice none 0 0), vI (mLocks (s.xs.map CLock.abs))] rfl (fun bs w hS => ?_)))))))))
  have hm := gone_bad (who := who) h1
  refine ⟨Sl.nil, ?_, ?_, hS.outS (Sl.rd_nil _ _)⟩
  · rw [hm] <;> rfl
  · rw [hm] <;> rfl

theorem ref_GoneOf {B : Nat → Prop} (s : Sl CLock) (who : Int) (w : World) (hs : s.rd B w) : Calls Try.prog 31 #[.slice s.A s.n s.c, .int .i64 who] w fun e w' => ∃ y : Sl CLock, e = .returned (.tuple #[.slice y.A y.n y.c, .int .i64 (mGone (s.xs.map CLock.abs) who).2]) ∧ y.xs.map CLock.abs = (mGone (s.xs.map CLock.abs) who).1 ∧ FreshS w w' y := by
 have oks := Sl.rd.ok hs
 have ncs := Sl.ok.nc oks
 have hns : s.n = s.xs.length := rfl
 refine calls_J0 56 Try.func31 rfl rfl [.slice s.A s.n s.c, .int .i64 who] rfl ?_
 refine Cs (Cg (Jq 2 [0, 1] 0 ⟨[(0, .v s.val), (1, vI who)], []⟩ (Ln (Qn (Cs (Cg (Jq 1 [9, 0, 1] 0 ⟨[(9, .v s.val), (0, .v s.val), (1, vI who)], []⟩ (Lp 56 [] [.v s.val] (.int .i64 (mLocks (s.xs.map CLock.abs))) Try.call56 rfl rfl rfl rfl (fun bs w hS => ref_LocksFault s w (Sl.rd.kp hs hS.kp)) (Jq 1 [6, 0, 1] 0 ⟨[(6, vI (mLocks (s.xs.map CLock.abs))), (0, .v s.val), (1, vI who)], []⟩ (Ln (Qn (Cs (Cs (Cg (Jq 3 [13, 6, 0, 1] 0 ⟨[(13, vB (decide (mLocks (s.xs.map CLock.abs) = 0))), (6, vI (mLocks (s.xs.map CLock.abs))), (0, .v s.val), (1, vI who)], []⟩ ?_)))))))))))))))
 cases h1 : decide (mLocks (s.xs.map CLock.abs) = 0) with
 | true =>
  have h1 := of_decide_eq_true h1
  refine Jq 1 [14, 13, 6, 0, 1] 0 ⟨[(14, vI who), (13, vB true), (6, vI (mLocks (s.xs.map CLock.abs))), (0, .v s.val), (1, vI who)], []⟩ (Lp 68 [] [vI who, vI 1, vI 9] (.bool (inB who 1 9)) Try.call68 rfl rfl rfl rfl (fun bs w hS => ref_In _ _ _ w) (Jq 2 [17, 6, 0, 1] 0 ⟨[(17, vB (!(inB who 1 9))), (6, vI (mLocks (s.xs.map CLock.abs))), (0, .v s.val), (1, vI who)], []⟩ (Ln (Qn ?_))))
  cases h2 : inB who 1 9 with
  | true =>
   simp only [inB, Bool.and_eq_true, Bool.and_eq_false_iff, decide_eq_true_eq, decide_eq_false_iff_not] at h2
   refine Ci false rfl (Ck (Qn (Cs (Cs (Cg (Jq 2 [19, 6, 0, 1] 0 ⟨[(19, vB (!(decide (mLocks (s.xs.map CLock.abs) = 0)))), (6, vI (mLocks (s.xs.map CLock.abs))), (0, .v s.val), (1, vI who)], []⟩ (Ln (Qn ?_))))))))
   cases h3 : decide (mLocks (s.xs.map CLock.abs) = 0) with
   | true =>
    have h3 := of_decide_eq_true h3
    refine Ci false rfl (Ck (Qn (Cs (Cg (Jq 1 [21, 1] 0 ⟨[(21, .v s.val), (1, vI who)], []⟩ (l_freshF (σ := Sl CLock) 29 [] [.v s.val] (fun y1 => .slice y1.A y1.n y1.c) (fun y1 => y1.xs.map CLock.abs = s.xs.map CLock.abs) (fun y1 => locksR 89 3 y1) Try.call29 rfl rfl rfl rfl (fun bs w hS => ref_LocksCopy s w (Sl.rd.kp hs hS.kp) (small_locks (by assumption))) ?_))))))
    rintro y1 hF1
    refine l_split2 ?_
    obtain ⟨A1, c1, S1⟩ := y1
    have hF1 : S1.map CLock.abs = s.xs.map CLock.abs := hF1
    refine Lm (R' := [ownL (lineR 3) S1, rowA 89 A1 c1 (S1 : List CLock)]) (List.Perm.refl _) ?_
    have hnm1 := locks_names (y := (⟨A1, c1, S1⟩ : Sl CLock)) (hs) hF1
    have hlen1 : S1.length = s.xs.length := by simpa using congrArg List.length hF1
    refine l_know (F := ∀ i, i < S1.length → Rds.ok (S1.getD i default)) (fun bs w hS i hi => Rds.okof (B := anyB) (w := w) (own_eltL (hS.res _ (.head _)) hnm1 (mem_of_getD hi))) fun okown1 => ?_
    refine l_know (F := RowOk A1 c1 (S1 : List CLock)) (fun bs w hS => rowA_rok (hS.res _ (.tail _ (.head _)))) fun hrow1 => ?_
    have nchrow1 := hrow1.2
    have hm1 : mLocks (S1.map CLock.abs) = 0 := by rw [hF1]; assumption
    have hln5 : S1.length ≤ 5 := by have h9 := (mLocks_bd hm1).1; simpa using h9
    refine Jq 1 [7, 1] 0 ⟨[(7, .v (.slice A1 S1.length c1)), (1, vI who)], []⟩ (Ln (Qn (Cs (Cs (Cg (Jq 1 [8, 7, 1] 0 ⟨[(8, vI 0), (7, .v (.slice A1 S1.length c1)), (1, vI who)], []⟩ (Ln (Qn (Cb (c_nores (goneR [] (S1.take 0)) rfl (fun w x hx => by cases hx) (Cl (σ := Nat × List CLock × List Nat) (fun ⟨k, L, fp⟩ => GoneI who S1 k L) (fun ⟨k, L, fp⟩ => S1.length - k) (fun ⟨k, L, fp⟩ => [goneR fp (L.take k), ownL (lineR 3) S1, rowA 89 A1 c1 (L : List CLock)]) (fun ⟨k, L, fp⟩ => ⟨[(8, vI (k : Int)), (7, .v (.slice A1 S1.length c1)), (1, vI who)], []⟩) ⟨0, S1, []⟩ (GoneI.start hnm1) (Ss [8, 7, 1] 0 (by kernel_rfl) rfl) ?_)))))))))))
    rintro ⟨k, L, fp⟩ hI
    have hIl := hI.len
    have hIk := hI.le
    refine Cs (Cs (Cg (Jq 4 [26, 8, 7, 1] 0 ⟨[(26, vB (decide ((k : Int) < ((S1.length : Nat) : Int)))), (8, vI (k : Int)), (7, .v (.slice A1 S1.length c1)), (1, vI who)], []⟩ (Ln (Qn ?_)))))
    cases h4 : decide ((k : Int) < ((S1.length : Nat) : Int)) with
    | true =>
     have h4 := of_decide_eq_true h4
     have hD : (L.getD k default) = S1.getD k default := hI.rest k (Nat.le_refl _)
     have hkL : k < L.length := by omega
     have hk5 := lock_all hm1 (k := k) (by omega)
     rw [← hD] at hk5
     obtain ⟨hk51, hk52, hk53, hk54, hk55, hk56⟩ := hk5
     have hk7 : (L.getD k default).line.n = (L.getD k default).line.xs.length := rfl
     have okD := okown1 k (by omega)
     rw [← hD] at okD
     have ncD := Sl.ok.nc okD.2
     refine Ci true rfl (Ck (Qn (Cs (Cb (Cs (Cg (Jr 8 [(4, .idx (oad A1) k), (6, .ext [.slice (L.getD k default).line.A (L.getD k default).line.n (L.getD k default).line.c])] [36, 35, 30, 29, 8, 7, 1] 0 ⟨[(36, vI who), (35, .v (L.getD k default).line.val), (30, vI (k : Int)), (29, .v (.slice A1 S1.length c1)), (8, vI (k : Int)), (7, .v (.slice A1 S1.length c1)), (1, vI who)], []⟩ [A1 = some (oad A1), (k : Int) = (k : Int), k < S1.length] [(((oad A1).add (k * 4)).add 3, [.slice (L.getD k default).line.A (L.getD k default).line.n (L.getD k default).line.c])] (by kernel_rfl) (oc (hrow1.1 k (by omega)) (oc rfl (oc (by omega) on))) (fun w hk hr => ⟨(rowA_fld (i := k) (hr _ (.tail _ (.tail _ (.head _)))) (by omega) 3 1 rfl), trivial⟩) (Lu (σ := Sl Int) 76 [] [.v (L.getD k default).line.val, vI who] (fun y3 => .slice y3.A y3.n y3.c) (fun y3 => y3.xs = unline (L.getD k default).line.xs who) Try.call76 rfl rfl rfl rfl (fun bs w hS => ref_unlined (L.getD k default).line who w (And.right (by rw [hD]; exact own_eltL (hS.res _ (.tail _ (.head _))) hnm1 (mem_of_getD (i := k) (by omega)))) (by omega)) ?_))))))))
     rintro fp3 y3 hF3 hok3
     refine Jr 2 [(0, .idx (oad A1) k)] [39, 37, 8, 7, 1] 0 ⟨[(39, .v (.pointer (some (((oad A1).add (k * 4)).add 3)))), (37, .v y3.val), (8, vI (k : Int)), (7, .v (.slice A1 S1.length c1)), (1, vI who)], []⟩ [A1 = some (oad A1), (k : Int) = (k : Int), k < S1.length] [] (by kernel_rfl) (oc (hrow1.1 k (by omega)) (oc rfl (oc (by omega) on))) wn ?_
     refine Lm (R' := [rowA 89 A1 c1 (L : List CLock), subR fp3 y3, goneR fp (L.take k), ownL (lineR 3) S1]) (Pf 3 rfl) ?_
     refine l_storeA (α := CLock) 89 A1 c1 L k 3 (((oad A1).add (k * 4)).add 3) (.v y3.val) [.v y3.val] [.slice y3.A y3.n y3.c] (⟨(L.getD k default).name, (L.getD k default).holder, (L.getD k default).fence, y3⟩ : CLock) rfl rfl rfl rfl rfl (by kernel_rfl) (by kernel_rfl) rfl (by omega) (by kernel_rfl) rfl rfl rfl ?_
     intro L4 hL4 hlL4
     have hgL4 : L4.getD k default = (⟨(L.getD k default).name, (L.getD k default).holder, (L.getD k default).fence, y3⟩ : CLock) := by rw [hL4]; exact getD_set (by omega)
     have hbL4 : L4 = List.set L k (⟨(L.getD k default).name, (L.getD k default).holder, (L.getD k default).fence, y3⟩ : CLock) := by rw [hL4]
     refine Ln (Qn (Cs (Cg (Jr 7 [(2, .idx (oad A1) k), (4, .ext [.int .i64 (L.getD k default).holder])] [46, 8, 7, 1] 0 ⟨[(46, vB (decide ((L.getD k default).holder = who))), (8, vI (k : Int)), (7, .v (.slice A1 S1.length c1)), (1, vI who)], []⟩ [A1 = some (oad A1), (k : Int) = (k : Int), k < S1.length] [(((oad A1).add (k * 4)).add 1, [.int .i64 (L.getD k default).holder])] (by kernel_rfl) (oc (hrow1.1 k (by omega)) (oc rfl (oc (by omega) on))) (fun w hk hr => ⟨(rowA_fld (i := k) (hr _ (.head _)) (by omega) 1 1 (by rw [hgL4]; rfl)), trivial⟩) (Ln (Qn ?_))))))
     cases h5 : decide ((L.getD k default).holder = who) with
     | true =>
      have h5 := of_decide_eq_true h5
      refine Ci true rfl (Cg (Jr 6 [(4, .idx (oad A1) k), (5, .ext [.string (L.getD k default).name, .int .i64 (L.getD k default).holder, .int .i64 (L.getD k default).fence, .slice y3.A y3.n y3.c])] [52, 48, 47, 8, 7, 1] 0 ⟨[(52, .v (.agg #[.string (L.getD k default).name, .int .i64 (L.getD k default).holder, .int .i64 (L.getD k default).fence, .slice y3.A y3.n y3.c])), (48, vI (k : Int)), (47, .v (.slice A1 S1.length c1)), (8, vI (k : Int)), (7, .v (.slice A1 S1.length c1)), (1, vI who)], []⟩ [A1 = some (oad A1), (k : Int) = (k : Int), k < S1.length] [((oad A1).add (k * 4), [.string (L.getD k default).name, .int .i64 (L.getD k default).holder, .int .i64 (L.getD k default).fence, .slice y3.A y3.n y3.c])] (by kernel_rfl) (oc (hrow1.1 k (by omega)) (oc rfl (oc (by omega) on))) (fun w hk hr => ⟨(rowA_all (i := k) (hr _ (.head _)) (by omega) (by rw [hgL4]; rfl)), trivial⟩) ?_))
      have hyl : y3.xs.length ≤ 3 := by rw [hF3]; exact Nat.le_trans (List.length_filter_le _ _) (by omega)
      refine Lu (σ := CLock) 77 [] [.v (.agg #[.string (L.getD k default).name, .int .i64 (L.getD k default).holder, .int .i64 (L.getD k default).fence, .slice y3.A y3.n y3.c])] (fun y5 => .agg #[.string y5.name, .int .i64 y5.holder, .int .i64 y5.fence, .slice y5.line.A y5.line.n y5.line.c]) (fun y5 => y5.abs = mPass (⟨(L.getD k default).name, (L.getD k default).holder, (L.getD k default).fence, y3⟩ : CLock).abs) Try.call77 rfl rfl rfl rfl (fun bs w hS => ref_passed (⟨(L.getD k default).name, (L.getD k default).holder, (L.getD k default).fence, y3⟩ : CLock) w ⟨(show (L.getD k default).name.size ≤ 9223372036854775807 from hI.names _ (mem_of_getD hkL)), (hS.res _ (.tail _ (.head _)))⟩ ⟨hk54, hk55⟩ (by show y3.xs.length ≤ _; omega)) ?_
      rintro fp5 y5 hF5 hok5
      refine Jr 1 [(0, .idx (oad A1) k)] [54, 53, 8, 7, 1] 0 ⟨[(54, .v (.pointer (some ((oad A1).add (k * 4))))), (53, .v y5.val), (8, vI (k : Int)), (7, .v (.slice A1 S1.length c1)), (1, vI who)], []⟩ [A1 = some (oad A1), (k : Int) = (k : Int), k < S1.length] [] (by kernel_rfl) (oc (hrow1.1 k (by omega)) (oc rfl (oc (by omega) on))) wn ?_
      refine Lm (R' := [rowA 89 A1 c1 (L4 : List CLock), subR fp5 y5, subR fp3 y3, goneR fp (L.take k), ownL (lineR 3) S1]) (Pf 1 rfl) ?_
      refine l_storeA (α := CLock) 89 A1 c1 L4 k 0 ((oad A1).add (k * 4)) (.v y5.val) y5.cs [.string y5.name, .int .i64 y5.holder, .int .i64 y5.fence, .slice y5.line.A y5.line.n y5.line.c] (⟨y5.name, y5.holder, y5.fence, y5.line⟩ : CLock) (add_zero _).symm rfl rfl rfl rfl (by kernel_rfl) (by kernel_rfl) rfl (by omega) (by kernel_rfl) (by rw [hgL4]; rfl) rfl rfl ?_
      intro L6 hL6 hlL6
      have hgL6 : L6.getD k default = (⟨y5.name, y5.holder, y5.fence, y5.line⟩ : CLock) := by rw [hL6]; exact getD_set (by omega)
      have hbL6 : L6 = List.set L k (⟨y5.name, y5.holder, y5.fence, y5.line⟩ : CLock) := by rw [hL6, hbL4, List.set_set]
      refine Ln (q_block_normal (Qn (Cg (Jr 3 [] [8, 7, 1] 0 ⟨[(8, vI ((k : Int) + 1)), (7, .v (.slice A1 S1.length c1)), (1, vI who)], []⟩ [inR ((k : Int) + 1)] [] (by kernel_rfl) (oc (by unfold inR; omega) on) wn ?_))))
      have hga : ((⟨y5.name, y5.holder, y5.fence, y5.line⟩ : CLock)).abs = goneF who (L.getD k default).abs := gone_pass (D := (L.getD k default)) (x := (⟨(L.getD k default).name, (L.getD k default).holder, (L.getD k default).fence, y3⟩ : CLock)) hF5 rfl rfl rfl hF3 h5
      have hgn : ((⟨y5.name, y5.holder, y5.fence, y5.line⟩ : CLock)).name = (L.getD k default).name := (congrArg DLock.name hF5).trans (mPass_name _)
      refine Lm (R' := [goneR fp (L.take k), rowA 89 A1 c1 (L6 : List CLock), subR fp5 y5, subR fp3 y3, ownL (lineR 3) S1]) (Pf 3 rfl) ?_
      refine Lm (R' := [subR fp3 y3, goneR fp (L.take k), rowA 89 A1 c1 (L6 : List CLock), subR fp5 y5, ownL (lineR 3) S1]) (Pf 3 rfl) ?_
      refine l_join (goneR (fp ++ fp3) (L.take k)) List.perm_append_comm (fun w h1 h2 x hx => Sl.rd.wide (h2 x hx) fun b hb => List.mem_append_left _ hb) ?_
      refine Lm (R' := [subR fp5 y5, goneR (fp ++ fp3) (L.take k), rowA 89 A1 c1 (L6 : List CLock), ownL (lineR 3) S1]) (Pf 2 rfl) ?_
      refine l_join (goneR ((fp ++ fp3) ++ fp5) (List.take (k + 1) L6)) List.perm_append_comm (fun w h1 h2 => goneR_step hkL hbL6 h1.2 h2) ?_
      refine Lm (R' := [goneR ((fp ++ fp3) ++ fp5) (List.take (k + 1) L6), ownL (lineR 3) S1, rowA 89 A1 c1 (L6 : List CLock)]) (List.Perm.trans (l₂ := [ownL (lineR 3) S1, rowA 89 A1 c1 (L6 : List CLock), goneR ((fp ++ fp3) ++ fp5) (List.take (k + 1) L6)]) (Pf 2 rfl) (List.Perm.trans (l₂ := [rowA 89 A1 c1 (L6 : List CLock), goneR ((fp ++ fp3) ++ fp5) (List.take (k + 1) L6), ownL (lineR 3) S1]) (Pf 2 rfl) (List.Perm.trans (l₂ := [goneR ((fp ++ fp3) ++ fp5) (List.take (k + 1) L6), rowA 89 A1 c1 (L6 : List CLock), ownL (lineR 3) S1]) (Pf 1 rfl) (List.Perm.refl _)))) ?_
      refine Ln (q_loop (x := (⟨k, L, fp⟩ : Nat × List CLock × List Nat)) (⟨k + 1, L6, (fp ++ fp3) ++ fp5⟩ : Nat × List CLock × List Nat) (GoneI.step hI (by omega) hbL6 hga hgn) (by show S1.length - (k + 1) < S1.length - k; omega) (Ss [8, 7, 1] 0 (by kernel_rfl) rfl))
     | false =>
      have h5 := of_decide_eq_false h5
      refine Ci false rfl (Ck (q_block_normal (Qn (Cg (Jr 3 [] [8, 7, 1] 0 ⟨[(8, vI ((k : Int) + 1)), (7, .v (.slice A1 S1.length c1)), (1, vI who)], []⟩ [inR ((k : Int) + 1)] [] (by kernel_rfl) (oc (by unfold inR; omega) on) wn ?_)))))
      have hga : ((⟨(L.getD k default).name, (L.getD k default).holder, (L.getD k default).fence, y3⟩ : CLock)).abs = goneF who (L.getD k default).abs := gone_keep (D := (L.getD k default)) (x := (⟨(L.getD k default).name, (L.getD k default).holder, (L.getD k default).fence, y3⟩ : CLock)) rfl rfl rfl hF3 h5
      have hgn : ((⟨(L.getD k default).name, (L.getD k default).holder, (L.getD k default).fence, y3⟩ : CLock)).name = (L.getD k default).name := rfl
      refine Lm (R' := [goneR fp (L.take k), rowA 89 A1 c1 (L4 : List CLock), subR fp3 y3, ownL (lineR 3) S1]) (Pf 2 rfl) ?_
      refine Lm (R' := [subR fp3 y3, goneR fp (L.take k), rowA 89 A1 c1 (L4 : List CLock), ownL (lineR 3) S1]) (Pf 2 rfl) ?_
      refine l_join (goneR (fp ++ fp3) (List.take (k + 1) L4)) List.perm_append_comm (fun w h1 h2 => goneR_step hkL hbL4 h1 h2) ?_
      refine Lm (R' := [goneR (fp ++ fp3) (List.take (k + 1) L4), ownL (lineR 3) S1, rowA 89 A1 c1 (L4 : List CLock)]) (List.Perm.trans (l₂ := [ownL (lineR 3) S1, rowA 89 A1 c1 (L4 : List CLock), goneR (fp ++ fp3) (List.take (k + 1) L4)]) (Pf 2 rfl) (List.Perm.trans (l₂ := [rowA 89 A1 c1 (L4 : List CLock), goneR (fp ++ fp3) (List.take (k + 1) L4), ownL (lineR 3) S1]) (Pf 2 rfl) (List.Perm.trans (l₂ := [goneR (fp ++ fp3) (List.take (k + 1) L4), rowA 89 A1 c1 (L4 : List CLock), ownL (lineR 3) S1]) (Pf 1 rfl) (List.Perm.refl _)))) ?_
      refine Ln (q_loop (x := (⟨k, L, fp⟩ : Nat × List CLock × List Nat)) (⟨k + 1, L4, fp ++ fp3⟩ : Nat × List CLock × List Nat) (GoneI.step hI (by omega) hbL4 hga hgn) (by show S1.length - (k + 1) < S1.length - k; omega) (Ss [8, 7, 1] 0 (by kernel_rfl) rfl))
    | false =>
     have h4 := of_decide_eq_false h4
     refine Ci false rfl (c_exit (Qe (Qe (Qh (Qn (Cs (Cg (Jq 3 [5, 4] 0 ⟨[(5, vI 0), (4, .v (.slice A1 S1.length c1))], []⟩ (Ln (Qn (Cr (Rt (.inl rfl) [.v (.slice A1 S1.length c1), vI 0] rfl (fun bs w hS => ?_)))))))))))))
     have hm := gone_ok (who := who) h3 (by simp only [inB, Bool.and_eq_true, Bool.and_eq_false_iff, decide_eq_true_eq, decide_eq_false_iff_not] at *; omega)
     refine ⟨⟨A1, c1, L⟩, ?_, ?_, hS.outS (y := (⟨A1, c1, L⟩ : Sl CLock)) (gone_out hI (by omega) (.tail _ (.tail _ (.head _))) (.head _) hS.res)⟩
     · rw [hm]; exact congrArg (fun q => Ending.returned (.tuple #[.slice A1 q c1, .int .i64 0])) hI.len.symm
     · rw [hm, ← hF1]; exact hI.fin (by omega)
   | false =>
    have h3 := of_decide_eq_false h3
    exact absurd h1 h3
  | false =>
   simp only [inB, Bool.and_eq_true, Bool.and_eq_false_iff, decide_eq_true_eq, decide_eq_false_iff_not] at h2
   refine Ci true rfl (Cg (Jq 1 [6, 0, 1] 0 ⟨[(6, vI 2), (0, .v s.val), (1, vI who)], []⟩ (Ln (Qn (Cs (Cs (Cg (Jq 2 [19, 6, 0, 1] 0 ⟨[(19, vB true), (6, vI 2), (0, .v s.val), (1, vI who)], []⟩ (Ln (Qn (Ci true rfl (Cs (Cg (Jq 3 [5, 4] 0 ⟨[(5, vI 2), (4, .v (.slice none 0 0))], []⟩ (Ln (Qn (Cr (Qr (Rt (.inl rfl) [.v (.slice none 0 0), vI 2] rfl (fun bs w hS => ?_))))))))))))))))))))
   have hm := gone_who (who := who) h1 (by simp only [inB, Bool.and_eq_true, Bool.and_eq_false_iff, decide_eq_true_eq, decide_eq_false_iff_not] at *; omega)
   refine ⟨Sl.nil, ?_, ?_, hS.outS (Sl.rd_nil _ _)⟩
   · rw [hm] <;> rfl
   · rw [hm] <;> rfl
 | false =>
  have h1 := of_decide_eq_false h1
  refine Jq 4 [17, 6, 0, 1] 0 ⟨[(17, vB false), (6, vI (mLocks (s.xs.map CLock.abs))), (0, .v s.val), (1, vI who)], []⟩ (Ln (Qn (Ci false rfl (Ck (Qn (Cs (Cs (Cg (Jq 2 [19, 6, 0, 1] 0 ⟨[(19, vB (!(decide (mLocks (s.xs.map CLock.abs) = 0)))), (6, vI (mLocks (s.xs.map CLock.abs))), (0, .v s.val), (1, vI who)], []⟩ (Ln (Qn ?_)))))))))))
  cases h6 : decide (mLocks (s.xs.map CLock.abs) = 0) with
  | true =>
   have h6 := of_decide_eq_true h6
   exact absurd h6 h1
  | false =>
   have h6 := of_decide_eq_false h6
   refine Ci true rfl (Cs (Cg (Jq 3 [5, 4] 0 ⟨[(5, vI (mLocks (s.xs.map CLock.abs))), (4, .v (.slice none 0 0))], []⟩ (Ln (Qn (Cr (Qr (Rt (.inl rfl) [.v (.slice none 0 0), vI (mLocks (s.xs.map CLock.abs))] rfl (fun bs w hS => ?_)))))))))
   have hm := gone_bad (who := who) h6
   refine ⟨Sl.nil, ?_, ?_, hS.outS (Sl.rd_nil _ _)⟩
   · rw [hm] <;> rfl
   · rw [hm] <;> rfl

end Go.Proofs.Ytececkgjacccmac.W
