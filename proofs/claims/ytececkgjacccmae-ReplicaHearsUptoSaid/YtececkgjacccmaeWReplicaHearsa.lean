/-
  The functions that the law ReplicaHears reaches, walked: each returns what its model says.
  Conditions: those that each theorem states.
-/
import Derived.Test.YtececkgjacccmaeMc
import Derived.Test.YtececkgjacccmaeChecked
set_option linter.unusedVariables false
set_option linter.unusedSimpArgs false
set_option maxRecDepth 100000
namespace Go.Proofs.Ytececkgjacccmae.W
open Go.Proofs.Ytececkgjacccmae.Fw Go.RowKit

theorem Try_mixed : Try.prog.follows .mixedOrders = true := by kernel_rfl
theorem laid : laidOutB Try.prog = true := by kernel_rfl

theorem ref_In (n lo hi : Int) (w : World) : Calls Try.prog 41 #[.int .i64 n, .int .i64 lo, .int .i64 hi] w fun e w' => e = .returned (.bool (inB n lo hi)) ∧ Kp [] w w' := by
 refine calls_J0 15 Try.func41 rfl rfl [.int .i64 n, .int .i64 lo, .int .i64 hi] rfl ?_
 refine Cs (Cg (Jq 1 [0, 1, 2] 0 ⟨[(0, vI n), (1, vI lo), (2, vI hi)], []⟩ (Ln (Qn (Cs (Cg (Jq 4 [10, 0, 2] 0 ⟨[(10, vB (decide (lo ≤ n))), (0, vI n), (2, vI hi)], []⟩ ?_)))))))
 cases h1 : decide (lo ≤ n) with
 | true =>
  have h1 := of_decide_eq_true h1
  refine Jq 5 [6] 0 ⟨[(6, vB (decide (n ≤ hi)))], []⟩ (Ln (Qn (Cr (Rt (.inl rfl) [vB (decide (n ≤ hi))] rfl (fun bs w hS => ?_)))))
  exact ⟨by simp [retOf, den, inB, h1], hS.kp⟩
 | false =>
  have h1 := of_decide_eq_false h1
  refine Jq 5 [6] 0 ⟨[(6, vB false)], []⟩ (Ln (Qn (Cr (Rt (.inl rfl) [vB false] rfl (fun bs w hS => ?_)))))
  exact ⟨by simp [retOf, den, inB, h1], hS.kp⟩

theorem lock_Name1 (c : UInt8) (w : World) : Calls Try.prog 96 #[.int .u8 (c.toNat : Int)] w fun e w' => e = .returned (.bool (nameBad c)) ∧ Kp [] w w' := by
 refine calls_J0 9 Try.func96 rfl rfl [.int .u8 (c.toNat : Int)] rfl ?_
 refine Cs (Cg (Jq 1 [0] 0 ⟨[(0, .v (.int .u8 (c.toNat : Int)))], []⟩ (Ln (Qn (Cs (Cg (Jq 3 [5, 0] 0 ⟨[(5, vB (decide ((c.toNat : Int) < 97))), (0, .v (.int .u8 (c.toNat : Int)))], []⟩ ?_)))))))
 cases h1 : decide ((c.toNat : Int) < 97) with
 | true =>
  have h1 := of_decide_eq_true h1
  refine Jq 4 [2] 0 ⟨[(2, vB true)], []⟩ (Ln (Qn (Cr (Rt (.inl rfl) [vB true] rfl (fun bs w hS => ?_)))))
  exact ⟨by simp [retOf, den, nameBad, h1], hS.kp⟩
 | false =>
  have h1 := of_decide_eq_false h1
  refine Jq 4 [2] 0 ⟨[(2, vB (decide ((122 : Int) < (c.toNat : Int))))], []⟩ (Ln (Qn (Cr (Rt (.inl rfl) [vB (decide ((122 : Int) < (c.toNat : Int)))] rfl (fun bs w hS => ?_)))))
  exact ⟨by simp [retOf, den, nameBad, h1], hS.kp⟩

theorem idx_bytes {B : Nat → Prop} (s : Sl UInt8) (w : World) (hs : s.rd B w) : Calls Try.prog 98 #[.slice s.A s.n s.c, .func (.func 96) #[] #[]] w fun e w' => e = .returned (.int .i64 (mIdx nameBad s.xs)) ∧ Kp [] w w' := by
 have oks := Sl.rd.ok hs
 have ncs := Sl.ok.nc oks
 have hns : s.n = s.xs.length := rfl
 refine Cj 19 [] Try.func98 rfl rfl [] [] [] [.v s.val, .fn 96 []] [.slice s.A s.n s.c, .func (.func 96) #[] #[]] rfl rfl (WS.start w) ?_
 refine Cs (Cg (Jq 1 [0, 1] 0 ⟨[(0, .v s.val), (1, .fn 96 [])], []⟩ (Ln (Qn (Cs (Cs (Cg (Jq 3 [8, 7, 0, 1] 0 ⟨[(8, vI 0), (7, vI (s.n : Int)), (0, .v s.val), (1, .fn 96 [])], []⟩ (Ln (Qn (Cb (Cl (σ := Nat) (fun i => i ≤ s.n ∧ ∀ j, j < i → nameBad (s.at j) = false) (fun i => s.n - i) (fun i => []) (fun i => ⟨[(8, vI (i : Int)), (7, vI (s.n : Int)), (0, .v s.val), (1, .fn 96 [])], []⟩) 0 ⟨Nat.zero_le _, fun j hj => absurd hj (Nat.not_lt_zero _)⟩ (Ss [8, 7, 0, 1] 0 (by kernel_rfl) rfl) ?_))))))))))))
 rintro i ⟨hi, hI⟩
 refine Cs (Cg (Jq 1 [9, 8, 7, 0, 1] 0 ⟨[(9, vB (decide ((i : Int) < (s.n : Int)))), (8, vI (i : Int)), (7, vI (s.n : Int)), (0, .v s.val), (1, .fn 96 [])], []⟩ (Ln (Qn (Cs ?_)))))
 cases h1 : decide ((i : Int) < (s.n : Int)) with
 | true =>
  have h1 := of_decide_eq_true h1
  refine Ci true rfl (Ck (Qn (Cs (Cb (Cs (Cg (Jq 2 [5, 8, 7, 0, 1] 0 ⟨[(5, vI (i : Int)), (8, vI (i : Int)), (7, vI (s.n : Int)), (0, .v s.val), (1, .fn 96 [])], []⟩ (Ln (Qn (Cs (Cg (Jr 5 [(3, .idx s.ad i), (4, .ext [.int .u8 ((s.at i).toNat : Int)])] [15, 11, 5, 8, 7, 0, 1] 0 ⟨[(15, .v (.int .u8 ((s.at i).toNat : Int))), (11, .fn 96 []), (5, vI (i : Int)), (8, vI (i : Int)), (7, vI (s.n : Int)), (0, .v s.val), (1, .fn 96 [])], []⟩ [s.A = some s.ad, (i : Int) = (i : Int), i < s.n] [(s.ad.add (i * 1), [.int .u8 ((s.at i).toNat : Int)])] (by kernel_rfl) (oc (Sl.ok.own (s := s) (i := i) oks (by omega)) (oc rfl (oc (by omega) on))) (fun w hk hr => ⟨(Sl.rd.all (s := s) (i := i) (Sl.rd.kp hs hk) (by omega) rfl), trivial⟩) (Lp 96 [] [.v (.int .u8 ((s.at i).toNat : Int))] (.bool (nameBad (s.at i))) Try.call96 rfl rfl rfl rfl (fun bs w hS => lock_Name1 _ w) (Ln (Qn ?_)))))))))))))))
  cases h2 : nameBad (s.at i) with
  | true =>
   refine Ci true rfl (Cs (Cg (Jq 2 [4] 0 ⟨[(4, vI (i : Int))], []⟩ (Ln (Qn (Cr (Qb (Qr (Qr (Qb (Qr (Rt (.inl rfl) [vI (i : Int)] rfl (fun bs w hS => (⟨?_, hS.kp⟩))))))))))))))
   rw [mIdx_here (by omega) (by assumption) hI]
   rfl
  | false =>
   refine Ci false rfl (Ck (q_block_normal (Qn (Cg (Jr 2 [] [8, 7, 0, 1] 0 ⟨[(8, vI ((i : Int) + 1)), (7, vI (s.n : Int)), (0, .v s.val), (1, .fn 96 [])], []⟩ [inR ((i : Int) + 1)] [] (by kernel_rfl) (oc (by unfold inR; omega) on) wn (Ln (Ql (x := (i : Nat)) ((i + 1) : Nat) ⟨by omega, fun j hj => by rcases Nat.lt_succ_iff_lt_or_eq.1 hj with h | h; exact hI j h; subst h; assumption⟩ (by omega) (Ss [8, 7, 0, 1] 0 (by kernel_rfl) rfl))))))))
 | false =>
  have h1 := of_decide_eq_false h1
  refine Ci false rfl (c_exit (Qe (Qe (Qh (Qn (Cs (Cg (Jq 1 [4] 0 ⟨[(4, vI (-1))], []⟩ (Ln (Qn (Cr (Rt (.inl rfl) [vI (-1)] rfl (fun bs w hS => (⟨?_, hS.kp⟩))))))))))))))
  rw [mIdx_none fun j hj => hI j (by omega)]
  rfl

theorem has_bytes {B : Nat → Prop} (s : Sl UInt8) (w : World) (hs : s.rd B w) : Calls Try.prog 95 #[.slice s.A s.n s.c, .func (.func 96) #[] #[]] w fun e w' => e = .returned (.bool (s.xs.any nameBad)) ∧ Kp [] w w' := by
 have oks := Sl.rd.ok hs
 have ncs := Sl.ok.nc oks
 have hns : s.n = s.xs.length := rfl
 refine Cj 9 [] Try.func95 rfl rfl [] [] [] [.v s.val, .fn 96 []] [.slice s.A s.n s.c, .func (.func 96) #[] #[]] rfl rfl (WS.start w) ?_
 refine Cs (Cg (Jq 1 [0, 1] 0 ⟨[(0, .v s.val), (1, .fn 96 [])], []⟩ (Ln (Qn (Cs (Cg (Jq 2 [6, 5] 0 ⟨[(6, .fn 96 []), (5, .v s.val)], []⟩ (Lp 98 [] [.v s.val, .fn 96 []] (.int .i64 (mIdx nameBad s.xs)) Try.call98 rfl rfl rfl rfl (fun bs w hS => idx_bytes _ w (Sl.rd.kp hs hS.kp)) (Jq 2 [4] 0 ⟨[(4, vB (decide ((0 : Int) ≤ mIdx nameBad s.xs)))], []⟩ (Ln (Qn (Cr (Rt (.inl rfl) [vB (decide ((0 : Int) ≤ mIdx nameBad s.xs))] rfl (fun bs w hS => (⟨?_, hS.kp⟩)))))))))))))))
 simp only [retOf, den, List.map_cons, List.map_nil, mIdx_nonneg]

theorem lock_Name (s : ByteArray) (w : World) (hs : s.size ≤ 9223372036854775807) : Calls Try.prog 83 #[.string s] w fun e w' => e = .returned (.bool (mName s)) ∧ Kp [] w w' := by
 refine calls_J0 16 Try.func83 rfl rfl [.string s] rfl ?_
 refine Cs (Cg (Jq 1 [0] 0 ⟨[(0, vS s)], []⟩ (Ln (Qn (Cs (Cg (Jq 3 [5, 0] 0 ⟨[(5, vB (!(decide (s = emp)))), (0, vS s)], []⟩ ?_)))))))
 cases h1 : decide (s = emp) with
 | true =>
  have h1 := of_decide_eq_true h1
  refine Jq 11 [2] 0 ⟨[(2, vB false)], []⟩ (Ln (Qn (Cr (Rt (.inl rfl) [vB false] rfl (fun bs w hS => (⟨?_, hS.kp⟩))))))
  simp [retOf, den, mName, *]
 | false =>
  have h1 := of_decide_eq_false h1
  refine Jq 5 [10, 0] 0 ⟨[(10, vB (decide ((s.size : Int) ≤ 6))), (0, vS s)], []⟩ ?_
  cases h2 : decide ((s.size : Int) ≤ 6) with
  | true =>
   have h2 := of_decide_eq_true h2
   refine Jq 1 [11, 10] 0 ⟨[(11, vS s), (10, vB true)], []⟩ (l_strbytes 5 s Try.underlying9 Try.underlying105 Try.underlying5 (by unfold maxLen; omega) rfl rfl rfl ?_)
   rintro fp1 y1 hF1 hok1
   refine Lp 95 [] [.v y1.val, .fn 96 []] (.bool (y1.xs.any nameBad)) Try.call95 rfl rfl rfl rfl (fun bs w hS => has_bytes _ w (hS.res _ (.head _))) ?_
   refine Jq 3 [2] 0 ⟨[(2, vB (!(y1.xs.any nameBad)))], []⟩ (Ln (Qn (Cr (Rt (.inl rfl) [vB (!(y1.xs.any nameBad))] rfl (fun bs w hS => (⟨?_, hS.kp⟩))))))
   simp [retOf, den, mName, *]
  | false =>
   have h2 := of_decide_eq_false h2
   refine Jq 6 [2] 0 ⟨[(2, vB false)], []⟩ (Ln (Qn (Cr (Rt (.inl rfl) [vB false] rfl (fun bs w hS => (⟨?_, hS.kp⟩))))))
   simp [retOf, den, mName, *]

theorem ref_NameMay (s : ByteArray) (w : World) (hs : s.size ≤ 9223372036854775807) : Calls Try.prog 89 #[.string s] w fun e w' => e = .returned (.bool (mName s)) ∧ Kp [] w w' := by
 refine calls_J0 19 Try.func89 rfl rfl [.string s] rfl ?_
 refine Cs (Cg (Jq 1 [0] 0 ⟨[(0, vS s)], []⟩ (Ln (Qn (Cs (Cs (Cg (Jq 1 [3, 0] 0 ⟨[(3, vI 0), (0, vS s)], []⟩ (Ln (Qn (Cb (Cl (σ := Nat) (fun i => i ≤ s.size ∧ ∀ j, j < i → nameBad (s.data.getD j 0) = false) (fun i => s.size - i) (fun i => []) (fun i => ⟨[(3, vI (i : Int)), (0, vS s)], []⟩) 0 ⟨Nat.zero_le _, fun j hj => absurd hj (Nat.not_lt_zero _)⟩ (Ss [3, 0] 0 (by kernel_rfl) rfl) ?_))))))))))))
 rintro i ⟨hi, hI⟩
 have hu := (s.data.getD i 0).toNat_lt
 refine Cs (Cs (Cg (Jq 4 [7, 3, 0] 0 ⟨[(7, vB (decide ((i : Int) < (s.size : Int)))), (3, vI (i : Int)), (0, vS s)], []⟩ (Ln (Qn ?_)))))
 cases h1 : decide ((i : Int) < (s.size : Int)) with
 | true =>
  have h1 := of_decide_eq_true h1
  refine Ci true rfl (Ck (Qn (Cs (Cb (Cs (Cg (Jr 4 [(2, .sidx i)] [13, 3, 0] 0 ⟨[(13, vI ((s.data.getD i 0).toNat : Int)), (3, vI (i : Int)), (0, vS s)], []⟩ [(i : Int) = (i : Int), i < s.size, 0 ≤ ((s.data.getD i 0).toNat : Int), ((s.data.getD i 0).toNat : Int) ≤ 255] [] (by kernel_rfl) (oc rfl (oc (by omega) (oc (by omega) (oc (by omega) on)))) wn (Lp 41 [] [vI ((s.data.getD i 0).toNat : Int), vI 97, vI 122] (.bool (inB ((s.data.getD i 0).toNat : Int) 97 122)) Try.call41 rfl rfl rfl rfl (fun bs w hS => ref_In _ _ _ w) (Jq 1 [15, 3, 0] 0 ⟨[(15, vB (!(inB ((s.data.getD i 0).toNat : Int) 97 122))), (3, vI (i : Int)), (0, vS s)], []⟩ (Ln (Qn ?_)))))))))))
  cases h2 : inB ((s.data.getD i 0).toNat : Int) 97 122 with
  | true =>
   refine Ci false rfl (Ck (q_block_normal (Qn (Cg (Jr 3 [] [3, 0] 0 ⟨[(3, vI ((i : Int) + 1)), (0, vS s)], []⟩ [inR ((i : Int) + 1)] [] (by kernel_rfl) (oc (by unfold inR; omega) on) wn (Ln (Ql (x := (i : Nat)) ((i + 1) : Nat) ⟨by omega, fun j hj => by rcases Nat.lt_succ_iff_lt_or_eq.1 hj with h | h; exact hI j h; subst h; simp only [inB, nameBad, Bool.and_eq_true, Bool.or_eq_false_iff, decide_eq_true_eq, decide_eq_false_iff_not] at *; omega⟩ (by omega) (Ss [3, 0] 0 (by kernel_rfl) rfl))))))))
  | false =>
   refine Ci true rfl (Cs (Cg (Jq 1 [2] 0 ⟨[(2, vB false)], []⟩ (Ln (Qn (Cr (Qb (Qr (Qr (Qb (Qr (Rt (.inl rfl) [vB false] rfl (fun bs w hS => (⟨?_, hS.kp⟩))))))))))))))
   rw [mName_bad (i := i) (by omega) (by simp only [inB, nameBad, Bool.and_eq_false_iff, Bool.or_eq_true, decide_eq_true_eq, decide_eq_false_iff_not] at *; omega)]
   rfl
 | false =>
  have h1 := of_decide_eq_false h1
  refine Ci false rfl (c_exit (Qe (Qe (Qh (Qn (Cs (Cg (Jq 2 [17] 0 ⟨[(17, vI (s.size : Int))], []⟩ (Lp 41 [] [vI (s.size : Int), vI 1, vI 6] (.bool (inB (s.size : Int) 1 6)) Try.call41 rfl rfl rfl rfl (fun bs w hS => ref_In _ _ _ w) (Jq 1 [2] 0 ⟨[(2, vB (inB (s.size : Int) 1 6))], []⟩ (Ln (Qn (Cr (Rt (.inl rfl) [vB (inB (s.size : Int) 1 6)] rfl (fun bs w hS => (⟨?_, hS.kp⟩))))))))))))))))
  simp only [retOf, den, List.map_cons, List.map_nil, mName_good fun j hj => hI j (by omega)]

theorem codec_ReadNumber (s : ByteArray) (w : World) (hs : s.size ≤ 9223372036854775807) : Calls Try.prog 86 #[.string s] w fun e w' => e = .returned (.tuple #[.int .i64 (mRead s).1, .string (mRead s).2.1, .int .i64 (mRead s).2.2]) ∧ Kp [] w w' := by
 refine calls_J0 46 Try.func86 rfl rfl [.string s] rfl ?_
 refine Cs (Cg (Jq 3 [0] 0 ⟨[(0, vS s)], []⟩ (Ln (Qn (Cs (Cg (Jq 1 [5, 0] 0 ⟨[(5, vI 0), (0, vS s)], []⟩ (Ln (Qn (Cs (Cs (Cg (Jq 1 [6, 5, 0] 0 ⟨[(6, vI 0), (5, vI 0), (0, vS s)], []⟩ (Ln (Qn (Cb (Cl (σ := Nat × Int) (fun ⟨i, n⟩ => RdIn s i n) (fun ⟨i, n⟩ => 6 - i) (fun ⟨i, n⟩ => []) (fun ⟨i, n⟩ => ⟨[(6, vI (i : Int)), (5, vI n), (0, vS s)], []⟩) ⟨0, 0⟩ (RdIn.start s) (Ss [6, 5, 0] 0 (by kernel_rfl) rfl) ?_)))))))))))))))))
 rintro ⟨i, n⟩ hI
 have hle := hI.le
 have hsz := hI.sz
 have hlo := hI.lo
 have hhi := hI.hi
 have hu := (s.data.getD i 0).toNat_lt
 have hbt := and127_bd (s.data.getD i 0)
 refine Cs (Cs (Cg (Jq 2 [8, 6, 5, 0] 0 ⟨[(8, vB (decide ((i : Int) < 6))), (6, vI (i : Int)), (5, vI n), (0, vS s)], []⟩ (Ln (Qn ?_)))))
 cases h1 : decide ((i : Int) < 6) with
 | true =>
  have h1 := of_decide_eq_true h1
  refine Ci true rfl (Ck (Qn (Cs (Cb (Cs (Cs (Cg (Jq 4 [14, 6, 5, 0] 0 ⟨[(14, vB (decide ((i : Int) = (s.size : Int)))), (6, vI (i : Int)), (5, vI n), (0, vS s)], []⟩ (Ln (Qn ?_))))))))))
  cases h2 : decide ((i : Int) = (s.size : Int)) with
  | true =>
   have h2 := of_decide_eq_true h2
   refine Ci true rfl (Cs (Cg (Jq 3 [4, 3, 2] 0 ⟨[(4, vI 5), (3, vS emp), (2, vI 0)], []⟩ (Ln (Qn (Cr (Qr (Qb (Qr (Qr (Qb (Qr (Rt (.inl rfl) [vI 0, vS emp, vI 5] rfl (fun bs w hS => (⟨?_, hS.kp⟩)))))))))))))))
   rw [hI.short (by omega) (by omega)]
   simp only [retOf, den, List.map_cons, List.map_nil]
  | false =>
   have h2 := of_decide_eq_false h2
   refine Ci false rfl (Ck (Qn (Cs (Cg (Jr 11 [(3, .sidx i)] [5, 6, 0] 0 ⟨[(5, vI (bits .or .i64 n (IntKind.i64.wrap ((bits .and .u8 ((s.data.getD i 0).toNat : Int) 127) * 2 ^ ((7 : Int) * (i : Int) : Int).toNat)))), (6, vI (i : Int)), (0, vS s)], []⟩ [(i : Int) = (i : Int), i < s.size, 0 ≤ (bits .and .u8 ((s.data.getD i 0).toNat : Int) 127), (bits .and .u8 ((s.data.getD i 0).toNat : Int) 127) ≤ 255, inR ((7 : Int) * (i : Int)), (0 : Int) ≤ (7 : Int) * (i : Int), (7 : Int) * (i : Int) ≤ (64 : Int)] [] (by kernel_rfl) (oc rfl (oc (by omega) (oc (by omega) (oc (by omega) (oc (by unfold inR; omega) (oc (by omega) (oc (by omega) on))))))) wn (Ln (Qn (Cs (Cs (Cg (Jr 4 [(2, .sidx i)] [28, 5, 6, 0] 0 ⟨[(28, vB (decide ((128 : Int) ≤ ((s.data.getD i 0).toNat : Int)))), (5, vI (bits .or .i64 n (IntKind.i64.wrap ((bits .and .u8 ((s.data.getD i 0).toNat : Int) 127) * 2 ^ ((7 : Int) * (i : Int) : Int).toNat)))), (6, vI (i : Int)), (0, vS s)], []⟩ [(i : Int) = (i : Int), i < s.size] [] (by kernel_rfl) (oc rfl (oc (by omega) on)) wn (Ln (Qn ?_)))))))))))))
   cases h3 : decide ((128 : Int) ≤ ((s.data.getD i 0).toNat : Int)) with
   | true =>
    have h3 := of_decide_eq_true h3
    refine Ci true rfl (c_exit (Qe (Qh (Qn (Cg (Jr 3 [] [6, 5, 0] 0 ⟨[(6, vI ((i : Int) + 1)), (5, vI (bits .or .i64 n (IntKind.i64.wrap ((bits .and .u8 ((s.data.getD i 0).toNat : Int) 127) * 2 ^ ((7 : Int) * (i : Int) : Int).toNat)))), (0, vS s)], []⟩ [inR ((i : Int) + 1)] [] (by kernel_rfl) (oc (by unfold inR; omega) on) wn (Ln (Ql (x := (⟨i, n⟩ : Nat × Int)) (⟨i + 1, bits .or .i64 n (IntKind.i64.wrap ((bits .and .u8 ((s.data.getD i 0).toNat : Int) 127) * 2 ^ ((7 : Int) * (i : Int) : Int).toNat))⟩ : Nat × Int) (by show RdIn s (i + 1) _; rw [or_shift s i n hI.lo hI.hi (by omega)]; exact hI.step (by omega) (by omega) (by omega)) (by show 6 - (i + 1) < 6 - i; omega) (Ss [6, 5, 0] 0 (by kernel_rfl) rfl)))))))))
   | false =>
    have h3 := of_decide_eq_false h3
    refine Ci false rfl (Ck (Qn (Cs (Cs (Cg (Jr 5 [(2, .sidx i)] [33, 5, 6, 0] 0 ⟨[(33, vB (decide (((s.data.getD i 0).toNat : Int) = 0))), (5, vI (bits .or .i64 n (IntKind.i64.wrap ((bits .and .u8 ((s.data.getD i 0).toNat : Int) 127) * 2 ^ ((7 : Int) * (i : Int) : Int).toNat)))), (6, vI (i : Int)), (0, vS s)], []⟩ [(i : Int) = (i : Int), i < s.size] [] (by kernel_rfl) (oc rfl (oc (by omega) on)) wn ?_))))))
    cases h4 : decide (((s.data.getD i 0).toNat : Int) = 0) with
    | true =>
     have h4 := of_decide_eq_true h4
     refine Jq 4 [37, 5, 6, 0] 0 ⟨[(37, vB (decide ((0 : Int) < (i : Int)))), (5, vI (bits .or .i64 n (IntKind.i64.wrap ((bits .and .u8 ((s.data.getD i 0).toNat : Int) 127) * 2 ^ ((7 : Int) * (i : Int) : Int).toNat)))), (6, vI (i : Int)), (0, vS s)], []⟩ ?_
     cases h5 : decide ((0 : Int) < (i : Int)) with
     | true =>
      have h5 := of_decide_eq_true h5
      refine Jq 3 [40, 5, 6, 0] 0 ⟨[(40, vB true), (5, vI (bits .or .i64 n (IntKind.i64.wrap ((bits .and .u8 ((s.data.getD i 0).toNat : Int) 127) * 2 ^ ((7 : Int) * (i : Int) : Int).toNat)))), (6, vI (i : Int)), (0, vS s)], []⟩ (Ln (Qn (Ci true rfl (Cs (Cg (Jq 3 [4, 3, 2] 0 ⟨[(4, vI 4), (3, vS emp), (2, vI 0)], []⟩ (Ln (Qn (Cr (Qr (Qb (Qr (Qr (Qb (Qr (Rt (.inl rfl) [vI 0, vS emp, vI 4] rfl (fun bs w hS => (⟨?_, hS.kp⟩))))))))))))))))))
      have hor := or_shift s i n hI.lo hI.hi (by omega)
      try rw [hor] at h5
      try rw [hor]
      rw [hI.last (by omega) (by omega) (by omega), if_pos (by omega)]
      simp only [retOf, den, List.map_cons, List.map_nil]
     | false =>
      have h5 := of_decide_eq_false h5
      refine Jq 3 [40, 5, 6, 0] 0 ⟨[(40, vB (decide ((1099511627776 : Int) < bits .or .i64 n (IntKind.i64.wrap ((bits .and .u8 ((s.data.getD i 0).toNat : Int) 127) * 2 ^ ((7 : Int) * (i : Int) : Int).toNat))))), (5, vI (bits .or .i64 n (IntKind.i64.wrap ((bits .and .u8 ((s.data.getD i 0).toNat : Int) 127) * 2 ^ ((7 : Int) * (i : Int) : Int).toNat)))), (6, vI (i : Int)), (0, vS s)], []⟩ (Ln (Qn ?_))
      cases h6 : decide ((1099511627776 : Int) < bits .or .i64 n (IntKind.i64.wrap ((bits .and .u8 ((s.data.getD i 0).toNat : Int) 127) * 2 ^ ((7 : Int) * (i : Int) : Int).toNat))) with
      | true =>
       have h6 := of_decide_eq_true h6
       refine Ci true rfl (Cs (Cg (Jq 3 [4, 3, 2] 0 ⟨[(4, vI 4), (3, vS emp), (2, vI 0)], []⟩ (Ln (Qn (Cr (Qr (Qb (Qr (Qr (Qb (Qr (Rt (.inl rfl) [vI 0, vS emp, vI 4] rfl (fun bs w hS => (⟨?_, hS.kp⟩)))))))))))))))
       have hor := or_shift s i n hI.lo hI.hi (by omega)
       try rw [hor] at h6
       try rw [hor]
       rw [hI.last (by omega) (by omega) (by omega), if_pos (by omega)]
       simp only [retOf, den, List.map_cons, List.map_nil]
      | false =>
       have h6 := of_decide_eq_false h6
       refine Ci false rfl (Ck (Qn (Cs (Cd 8 [] (.p 0 (.p 1 (.p 2 (.p 3 (.p 4 (.p 5 (.p 6 (.p 7 .nil)))))))) [] [] Try_mixed (by kernel_rfl) (pq_then (pq_block (pq_then (pq_then (pq_block (pq_then pq_body)))))) .slnil (Hq [(4, .sl (i + 1) s.size)] [(0, true), (1, true), (2, true), (3, true), (4, true), (5, true), (6, true), (7, true)] [(4, vI 0), (3, vS (s.extract (i + 1) s.size)), (2, vI (bits .or .i64 n (IntKind.i64.wrap ((bits .and .u8 ((s.data.getD i 0).toNat : Int) 127) * 2 ^ ((7 : Int) * (i : Int) : Int).toNat)))), (45, vS (s.extract (i + 1) s.size)), (44, vI ((i : Int) + 1)), (43, vI (i : Int)), (42, vS s), (41, vI (bits .or .i64 n (IntKind.i64.wrap ((bits .and .u8 ((s.data.getD i 0).toNat : Int) 127) * 2 ^ ((7 : Int) * (i : Int) : Int).toNat)))), (40, vB false), (5, vI (bits .or .i64 n (IntKind.i64.wrap ((bits .and .u8 ((s.data.getD i 0).toNat : Int) 127) * 2 ^ ((7 : Int) * (i : Int) : Int).toNat)))), (6, vI (i : Int)), (0, vS s)] [inR ((i : Int) + 1), (i : Int) + 1 = (((i + 1) : Nat) : Int), s.size = s.size, (i + 1) ≤ s.size] [] rfl (by kernel_rfl) (oc (by unfold inR; omega) (oc (by omega) (oc rfl (oc (by omega) on)))) wn (Hn (Ln (Qn (Cr (Qb (Qr (Qr (Qb (Qr (Rt (.inl rfl) [vI (bits .or .i64 n (IntKind.i64.wrap ((bits .and .u8 ((s.data.getD i 0).toNat : Int) 127) * 2 ^ ((7 : Int) * (i : Int) : Int).toNat))), vS (s.extract (i + 1) s.size), vI 0] rfl (fun bs w hS => (⟨?_, hS.kp⟩)))))))))))))))))
       have hor := or_shift s i n hI.lo hI.hi (by omega)
       try rw [hor] at h6
       try rw [hor]
       rw [hI.last (by omega) (by omega) (by omega), if_neg (by omega)]
       simp only [retOf, den, List.map_cons, List.map_nil]
    | false =>
     have h4 := of_decide_eq_false h4
     refine Jq 7 [40, 5, 6, 0] 0 ⟨[(40, vB (decide ((1099511627776 : Int) < bits .or .i64 n (IntKind.i64.wrap ((bits .and .u8 ((s.data.getD i 0).toNat : Int) 127) * 2 ^ ((7 : Int) * (i : Int) : Int).toNat))))), (5, vI (bits .or .i64 n (IntKind.i64.wrap ((bits .and .u8 ((s.data.getD i 0).toNat : Int) 127) * 2 ^ ((7 : Int) * (i : Int) : Int).toNat)))), (6, vI (i : Int)), (0, vS s)], []⟩ (Ln (Qn ?_))
     cases h7 : decide ((1099511627776 : Int) < bits .or .i64 n (IntKind.i64.wrap ((bits .and .u8 ((s.data.getD i 0).toNat : Int) 127) * 2 ^ ((7 : Int) * (i : Int) : Int).toNat))) with
     | true =>
      have h7 := of_decide_eq_true h7
      refine Ci true rfl (Cs (Cg (Jq 3 [4, 3, 2] 0 ⟨[(4, vI 4), (3, vS emp), (2, vI 0)], []⟩ (Ln (Qn (Cr (Qr (Qb (Qr (Qr (Qb (Qr (Rt (.inl rfl) [vI 0, vS emp, vI 4] rfl (fun bs w hS => (⟨?_, hS.kp⟩)))))))))))))))
      have hor := or_shift s i n hI.lo hI.hi (by omega)
      try rw [hor] at h7
      try rw [hor]
      rw [hI.last (by omega) (by omega) (by omega), if_pos (by omega)]
      simp only [retOf, den, List.map_cons, List.map_nil]
     | false =>
      have h7 := of_decide_eq_false h7
      refine Ci false rfl (Ck (Qn (Cs (Cd 8 [] (.p 0 (.p 1 (.p 2 (.p 3 (.p 4 (.p 5 (.p 6 (.p 7 .nil)))))))) [] [] Try_mixed (by kernel_rfl) (pq_then (pq_block (pq_then (pq_then (pq_block (pq_then pq_body)))))) .slnil (Hq [(4, .sl (i + 1) s.size)] [(0, true), (1, true), (2, true), (3, true), (4, true), (5, true), (6, true), (7, true)] [(4, vI 0), (3, vS (s.extract (i + 1) s.size)), (2, vI (bits .or .i64 n (IntKind.i64.wrap ((bits .and .u8 ((s.data.getD i 0).toNat : Int) 127) * 2 ^ ((7 : Int) * (i : Int) : Int).toNat)))), (45, vS (s.extract (i + 1) s.size)), (44, vI ((i : Int) + 1)), (43, vI (i : Int)), (42, vS s), (41, vI (bits .or .i64 n (IntKind.i64.wrap ((bits .and .u8 ((s.data.getD i 0).toNat : Int) 127) * 2 ^ ((7 : Int) * (i : Int) : Int).toNat)))), (40, vB false), (5, vI (bits .or .i64 n (IntKind.i64.wrap ((bits .and .u8 ((s.data.getD i 0).toNat : Int) 127) * 2 ^ ((7 : Int) * (i : Int) : Int).toNat)))), (6, vI (i : Int)), (0, vS s)] [inR ((i : Int) + 1), (i : Int) + 1 = (((i + 1) : Nat) : Int), s.size = s.size, (i + 1) ≤ s.size] [] rfl (by kernel_rfl) (oc (by unfold inR; omega) (oc (by omega) (oc rfl (oc (by omega) on)))) wn (Hn (Ln (Qn (Cr (Qb (Qr (Qr (Qb (Qr (Rt (.inl rfl) [vI (bits .or .i64 n (IntKind.i64.wrap ((bits .and .u8 ((s.data.getD i 0).toNat : Int) 127) * 2 ^ ((7 : Int) * (i : Int) : Int).toNat))), vS (s.extract (i + 1) s.size), vI 0] rfl (fun bs w hS => (⟨?_, hS.kp⟩)))))))))))))))))
      have hor := or_shift s i n hI.lo hI.hi (by omega)
      try rw [hor] at h7
      try rw [hor]
      rw [hI.last (by omega) (by omega) (by omega), if_neg (by omega)]
      simp only [retOf, den, List.map_cons, List.map_nil]
 | false =>
  have h1 := of_decide_eq_false h1
  refine Ci false rfl (c_exit (Qe (Qe (Qh (Qn (Cs (Cg (Jq 3 [4, 3, 2] 0 ⟨[(4, vI 4), (3, vS emp), (2, vI 0)], []⟩ (Ln (Qn (Cr (Rt (.inl rfl) [vI 0, vS emp, vI 4] rfl (fun bs w hS => (⟨?_, hS.kp⟩))))))))))))))
  rw [hI.out (by omega)]
  simp only [retOf, den, List.map_cons, List.map_nil]

theorem ref_NumberOf (s : ByteArray) (w : World) (hs : s.size ≤ 9223372036854775807) : Calls Try.prog 69 #[.string s] w fun e w' => e = .returned (.tuple #[.int .i64 (mRead s).1, .string (mRead s).2.1, .int .i64 (mRead s).2.2]) ∧ Kp [] w w' := by
 refine calls_J0 48 Try.func69 rfl rfl [.string s] rfl ?_
 refine Cs (Cg (Jq 3 [0] 0 ⟨[(0, vS s)], []⟩ (Ln (Qn (Cs (Cg (Jq 1 [5, 0] 0 ⟨[(5, vI 0), (0, vS s)], []⟩ (Ln (Qn (Cs (Cg (Jq 1 [6, 5, 0] 0 ⟨[(6, vI 1), (5, vI 0), (0, vS s)], []⟩ (Ln (Qn (Cs (Cs (Cg (Jq 1 [7, 6, 5, 0] 0 ⟨[(7, vI 0), (6, vI 1), (5, vI 0), (0, vS s)], []⟩ (Ln (Qn (Cb (Cl (σ := Nat × Int) (fun ⟨i, n⟩ => RdIn s i n) (fun ⟨i, n⟩ => 6 - i) (fun ⟨i, n⟩ => []) (fun ⟨i, n⟩ => ⟨[(7, vI (i : Int)), (6, vI ((128 : Int) ^ i)), (5, vI n), (0, vS s)], []⟩) ⟨0, 0⟩ (RdIn.start s) (Ss [7, 6, 5, 0] 0 (by kernel_rfl) rfl) ?_))))))))))))))))))))))
 rintro ⟨i, n⟩ hI
 have hle := hI.le
 have hsz := hI.sz
 have hlo := hI.lo
 have hhi := hI.hi
 have hu := (s.data.getD i 0).toNat_lt
 have hbt := unit_bd (s.data.getD i 0) i hle
 refine Cs (Cs (Cg (Jq 2 [9, 7, 6, 5, 0] 0 ⟨[(9, vB (decide ((i : Int) < 6))), (7, vI (i : Int)), (6, vI ((128 : Int) ^ i)), (5, vI n), (0, vS s)], []⟩ (Ln (Qn ?_)))))
 cases h1 : decide ((i : Int) < 6) with
 | true =>
  have h1 := of_decide_eq_true h1
  refine Ci true rfl (Ck (Qn (Cs (Cb (Cs (Cs (Cg (Jq 4 [15, 7, 6, 5, 0] 0 ⟨[(15, vB (decide ((s.size : Int) ≤ (i : Int)))), (7, vI (i : Int)), (6, vI ((128 : Int) ^ i)), (5, vI n), (0, vS s)], []⟩ (Ln (Qn ?_))))))))))
  cases h2 : decide ((s.size : Int) ≤ (i : Int)) with
  | true =>
   have h2 := of_decide_eq_true h2
   refine Ci true rfl (Cs (Cg (Jq 3 [4, 3, 2] 0 ⟨[(4, vI 5), (3, vS emp), (2, vI 0)], []⟩ (Ln (Qn (Cr (Qr (Qb (Qr (Qr (Qb (Qr (Rt (.inl rfl) [vI 0, vS emp, vI 5] rfl (fun bs w hS => (⟨?_, hS.kp⟩)))))))))))))))
   rw [hI.short (by omega) (by omega)]
   simp only [retOf, den, List.map_cons, List.map_nil]
  | false =>
   have h2 := of_decide_eq_false h2
   refine Ci false rfl (Ck (Qn (Cs (Cg (Jr 10 [(4, .sidx i)] [5, 7, 6, 0] 0 ⟨[(5, vI (n + (((128 : Int) ^ i) * (((s.data.getD i 0).toNat : Int) % 128)))), (7, vI (i : Int)), (6, vI ((128 : Int) ^ i)), (0, vS s)], []⟩ [(i : Int) = (i : Int), i < s.size, 0 ≤ ((s.data.getD i 0).toNat : Int), ((s.data.getD i 0).toNat : Int) ≤ 255, 0 ≤ ((s.data.getD i 0).toNat : Int), (0 : Int) < 128, inR (((128 : Int) ^ i) * (((s.data.getD i 0).toNat : Int) % 128)), inR (n + (((128 : Int) ^ i) * (((s.data.getD i 0).toNat : Int) % 128)))] [] (by kernel_rfl) (oc rfl (oc (by omega) (oc (by omega) (oc (by omega) (oc (by omega) (oc (by omega) (oc (by unfold inR; omega) (oc (by unfold inR; omega) on)))))))) wn (Ln (Qn (Cs (Cg (Jr 3 [] [6, 5, 7, 0] 0 ⟨[(6, vI (((128 : Int) ^ i) * 128)), (5, vI (n + (((128 : Int) ^ i) * (((s.data.getD i 0).toNat : Int) % 128)))), (7, vI (i : Int)), (0, vS s)], []⟩ [inR (((128 : Int) ^ i) * 128)] [] (by kernel_rfl) (oc (by unfold inR; omega) on) wn (Ln (Qn (Cs (Cg (Jr 4 [(2, .sidx i)] [30, 6, 5, 7, 0] 0 ⟨[(30, vB (decide (((s.data.getD i 0).toNat : Int) < 128))), (6, vI (((128 : Int) ^ i) * 128)), (5, vI (n + (((128 : Int) ^ i) * (((s.data.getD i 0).toNat : Int) % 128)))), (7, vI (i : Int)), (0, vS s)], []⟩ [(i : Int) = (i : Int), i < s.size] [] (by kernel_rfl) (oc rfl (oc (by omega) on)) wn (Ln (Qn ?_)))))))))))))))))
   cases h3 : decide (((s.data.getD i 0).toNat : Int) < 128) with
   | true =>
    have h3 := of_decide_eq_true h3
    refine Ci true rfl (Cs (Cs (Cg (Jq 3 [33, 5, 7, 0] 0 ⟨[(33, vB (decide ((0 : Int) < (i : Int)))), (5, vI (n + (((128 : Int) ^ i) * (((s.data.getD i 0).toNat : Int) % 128)))), (7, vI (i : Int)), (0, vS s)], []⟩ ?_))))
    cases h4 : decide ((0 : Int) < (i : Int)) with
    | true =>
     have h4 := of_decide_eq_true h4
     refine Jr 6 [(2, .sidx i)] [39, 5, 7, 0] 0 ⟨[(39, vB (decide (((s.data.getD i 0).toNat : Int) = 0))), (5, vI (n + (((128 : Int) ^ i) * (((s.data.getD i 0).toNat : Int) % 128)))), (7, vI (i : Int)), (0, vS s)], []⟩ [(i : Int) = (i : Int), i < s.size] [] (by kernel_rfl) (oc rfl (oc (by omega) on)) wn ?_
     cases h5 : decide (((s.data.getD i 0).toNat : Int) = 0) with
     | true =>
      have h5 := of_decide_eq_true h5
      refine Jq 3 [42, 5, 7, 0] 0 ⟨[(42, vB true), (5, vI (n + (((128 : Int) ^ i) * (((s.data.getD i 0).toNat : Int) % 128)))), (7, vI (i : Int)), (0, vS s)], []⟩ (Ln (Qn (Ci true rfl (Cs (Cg (Jq 3 [4, 3, 2] 0 ⟨[(4, vI 4), (3, vS emp), (2, vI 0)], []⟩ (Ln (Qn (Cr (Qr (Qb (Qr (Qr (Qb (Qr (Rt (.inl rfl) [vI 0, vS emp, vI 4] rfl (fun bs w hS => (⟨?_, hS.kp⟩))))))))))))))))))
      rw [hI.last (by omega) (by omega) (by omega), if_pos (by omega)]
      simp only [retOf, den, List.map_cons, List.map_nil]
     | false =>
      have h5 := of_decide_eq_false h5
      refine Jq 3 [42, 5, 7, 0] 0 ⟨[(42, vB (decide ((1099511627776 : Int) < n + (((128 : Int) ^ i) * (((s.data.getD i 0).toNat : Int) % 128))))), (5, vI (n + (((128 : Int) ^ i) * (((s.data.getD i 0).toNat : Int) % 128)))), (7, vI (i : Int)), (0, vS s)], []⟩ (Ln (Qn ?_))
      cases h6 : decide ((1099511627776 : Int) < n + (((128 : Int) ^ i) * (((s.data.getD i 0).toNat : Int) % 128))) with
      | true =>
       have h6 := of_decide_eq_true h6
       refine Ci true rfl (Cs (Cg (Jq 3 [4, 3, 2] 0 ⟨[(4, vI 4), (3, vS emp), (2, vI 0)], []⟩ (Ln (Qn (Cr (Qr (Qb (Qr (Qr (Qb (Qr (Rt (.inl rfl) [vI 0, vS emp, vI 4] rfl (fun bs w hS => (⟨?_, hS.kp⟩)))))))))))))))
       rw [hI.last (by omega) (by omega) (by omega), if_pos (by omega)]
       simp only [retOf, den, List.map_cons, List.map_nil]
      | false =>
       have h6 := of_decide_eq_false h6
       refine Ci false rfl (Ck (Qn (Cs (Cd 8 [] (.p 0 (.p 1 (.p 2 (.p 3 (.p 4 (.p 5 (.p 6 (.p 7 .nil)))))))) [] [] Try_mixed (by kernel_rfl) (pq_then (pq_block (pq_then (pq_then (pq_block (pq_then pq_body)))))) .slnil (Hq [(4, .sl (i + 1) s.size)] [(0, true), (1, true), (2, true), (3, true), (4, true), (5, true), (6, true), (7, true)] [(4, vI 0), (3, vS (s.extract (i + 1) s.size)), (2, vI (n + (((128 : Int) ^ i) * (((s.data.getD i 0).toNat : Int) % 128)))), (47, vS (s.extract (i + 1) s.size)), (46, vI ((i : Int) + 1)), (45, vI (i : Int)), (44, vS s), (43, vI (n + (((128 : Int) ^ i) * (((s.data.getD i 0).toNat : Int) % 128)))), (42, vB false), (5, vI (n + (((128 : Int) ^ i) * (((s.data.getD i 0).toNat : Int) % 128)))), (7, vI (i : Int)), (0, vS s)] [inR ((i : Int) + 1), (i : Int) + 1 = (((i + 1) : Nat) : Int), s.size = s.size, (i + 1) ≤ s.size] [] rfl (by kernel_rfl) (oc (by unfold inR; omega) (oc (by omega) (oc rfl (oc (by omega) on)))) wn (Hn (Ln (Qn (Cr (Qb (Qr (Qr (Qb (Qr (Rt (.inl rfl) [vI (n + (((128 : Int) ^ i) * (((s.data.getD i 0).toNat : Int) % 128))), vS (s.extract (i + 1) s.size), vI 0] rfl (fun bs w hS => (⟨?_, hS.kp⟩)))))))))))))))))
       rw [hI.last (by omega) (by omega) (by omega), if_neg (by omega)]
       simp only [retOf, den, List.map_cons, List.map_nil]
    | false =>
     have h4 := of_decide_eq_false h4
     refine Jq 9 [42, 5, 7, 0] 0 ⟨[(42, vB (decide ((1099511627776 : Int) < n + (((128 : Int) ^ i) * (((s.data.getD i 0).toNat : Int) % 128))))), (5, vI (n + (((128 : Int) ^ i) * (((s.data.getD i 0).toNat : Int) % 128)))), (7, vI (i : Int)), (0, vS s)], []⟩ (Ln (Qn ?_))
     cases h7 : decide ((1099511627776 : Int) < n + (((128 : Int) ^ i) * (((s.data.getD i 0).toNat : Int) % 128))) with
     | true =>
      have h7 := of_decide_eq_true h7
      refine Ci true rfl (Cs (Cg (Jq 3 [4, 3, 2] 0 ⟨[(4, vI 4), (3, vS emp), (2, vI 0)], []⟩ (Ln (Qn (Cr (Qr (Qb (Qr (Qr (Qb (Qr (Rt (.inl rfl) [vI 0, vS emp, vI 4] rfl (fun bs w hS => (⟨?_, hS.kp⟩)))))))))))))))
      rw [hI.last (by omega) (by omega) (by omega), if_pos (by omega)]
      simp only [retOf, den, List.map_cons, List.map_nil]
     | false =>
      have h7 := of_decide_eq_false h7
      refine Ci false rfl (Ck (Qn (Cs (Cd 8 [] (.p 0 (.p 1 (.p 2 (.p 3 (.p 4 (.p 5 (.p 6 (.p 7 .nil)))))))) [] [] Try_mixed (by kernel_rfl) (pq_then (pq_block (pq_then (pq_then (pq_block (pq_then pq_body)))))) .slnil (Hq [(4, .sl (i + 1) s.size)] [(0, true), (1, true), (2, true), (3, true), (4, true), (5, true), (6, true), (7, true)] [(4, vI 0), (3, vS (s.extract (i + 1) s.size)), (2, vI (n + (((128 : Int) ^ i) * (((s.data.getD i 0).toNat : Int) % 128)))), (47, vS (s.extract (i + 1) s.size)), (46, vI ((i : Int) + 1)), (45, vI (i : Int)), (44, vS s), (43, vI (n + (((128 : Int) ^ i) * (((s.data.getD i 0).toNat : Int) % 128)))), (42, vB false), (5, vI (n + (((128 : Int) ^ i) * (((s.data.getD i 0).toNat : Int) % 128)))), (7, vI (i : Int)), (0, vS s)] [inR ((i : Int) + 1), (i : Int) + 1 = (((i + 1) : Nat) : Int), s.size = s.size, (i + 1) ≤ s.size] [] rfl (by kernel_rfl) (oc (by unfold inR; omega) (oc (by omega) (oc rfl (oc (by omega) on)))) wn (Hn (Ln (Qn (Cr (Qb (Qr (Qr (Qb (Qr (Rt (.inl rfl) [vI (n + (((128 : Int) ^ i) * (((s.data.getD i 0).toNat : Int) % 128))), vS (s.extract (i + 1) s.size), vI 0] rfl (fun bs w hS => (⟨?_, hS.kp⟩)))))))))))))))))
      rw [hI.last (by omega) (by omega) (by omega), if_neg (by omega)]
      simp only [retOf, den, List.map_cons, List.map_nil]
   | false =>
    have h3 := of_decide_eq_false h3
    refine Ci false rfl (Ck (q_block_normal (Qn (Cg (Jr 3 [] [7, 6, 5, 0] 0 ⟨[(7, vI ((i : Int) + 1)), (6, vI (((128 : Int) ^ i) * 128)), (5, vI (n + (((128 : Int) ^ i) * (((s.data.getD i 0).toNat : Int) % 128)))), (0, vS s)], []⟩ [inR ((i : Int) + 1)] [] (by kernel_rfl) (oc (by unfold inR; omega) on) wn (Ln (Ql (x := (⟨i, n⟩ : Nat × Int)) (⟨i + 1, n + (((128 : Int) ^ i) * (((s.data.getD i 0).toNat : Int) % 128))⟩ : Nat × Int) (hI.step (by omega) (by omega) (by omega)) (by show 6 - (i + 1) < 6 - i; omega) (Ss [7, 6, 5, 0] 0 (by simp only [Int.pow_succ]; kernel_rfl) rfl))))))))
 | false =>
  have h1 := of_decide_eq_false h1
  refine Ci false rfl (c_exit (Qe (Qe (Qh (Qn (Cs (Cg (Jq 3 [4, 3, 2] 0 ⟨[(4, vI 4), (3, vS emp), (2, vI 0)], []⟩ (Ln (Qn (Cr (Rt (.inl rfl) [vI 0, vS emp, vI 4] rfl (fun bs w hS => (⟨?_, hS.kp⟩))))))))))))))
  rw [hI.out (by omega)]
  simp only [retOf, den, List.map_cons, List.map_nil]

theorem codec_ReadText (s : ByteArray) (w : World) (hs : s.size ≤ 9223372036854775807) : Calls Try.prog 87 #[.string s] w fun e w' => e = .returned (.tuple #[.string (mTell s).1, .string (mTell s).2.1, .int .i64 (mTell s).2.2]) ∧ Kp [] w w' := by
 have hb := mRead_bd s
 refine calls_J0 29 Try.func87 rfl rfl [.string s] rfl ?_
 refine Cs (Cg (Jq 3 [0] 0 ⟨[(0, vS s)], []⟩ (Ln (Qn (Cs (Cg (Jq 1 [9] 0 ⟨[(9, vS s)], []⟩ (Lp 86 [] [vS s] (.tuple #[.int .i64 (mRead s).1, .string (mRead s).2.1, .int .i64 (mRead s).2.2]) Try.call86 rfl rfl rfl rfl (fun bs w hS => codec_ReadNumber _ w (by first | assumption | omega | (simp only [emp_size]; omega))) (Jq 7 [7, 6, 5] 0 ⟨[(7, vI (mRead s).2.2), (6, vS (mRead s).2.1), (5, vI (mRead s).1)], []⟩ (Ln (Qn (Cs (Cs (Cg (Jq 2 [15, 7, 6, 5] 0 ⟨[(15, vB (!(decide ((mRead s).2.2 = 0)))), (7, vI (mRead s).2.2), (6, vS (mRead s).2.1), (5, vI (mRead s).1)], []⟩ (Ln (Qn ?_)))))))))))))))))
 cases h1 : decide ((mRead s).2.2 = 0) with
 | true =>
  have h1 := of_decide_eq_true h1
  refine Ci false rfl (Ck (Qn (Cs (Cs (Cg (Jq 2 [18, 6, 5] 0 ⟨[(18, vB (decide ((5000 : Int) < (mRead s).1))), (6, vS (mRead s).2.1), (5, vI (mRead s).1)], []⟩ (Ln (Qn ?_))))))))
  cases h2 : decide ((5000 : Int) < (mRead s).1) with
  | true =>
   have h2 := of_decide_eq_true h2
   refine Ci true rfl (Cs (Cg (Jq 3 [4, 3, 2] 0 ⟨[(4, vI 1), (3, vS emp), (2, vS emp)], []⟩ (Ln (Qn (Cr (Qr (Rt (.inl rfl) [vS emp, vS emp, vI 1] rfl (fun bs w hS => (⟨?_, hS.kp⟩))))))))))
   simp only [retOf, den, List.map_cons, List.map_nil]
   unfold mTell
   try simp only [h1, h2, emp_size, ne_eq, not_true_eq_false, not_false_eq_true, true_or, or_true, false_or, or_false, and_true, true_and, and_false, false_and, and_self, or_self, if_true, if_false, Bool.true_eq_false, Bool.false_eq_true, reduceIte, Classical.not_not, Bool.and_eq_true, decide_eq_true_eq]
   repeat (first | rw [if_pos (by omega)] | rw [if_neg (by omega)])
   all_goals first | rfl | (exfalso; omega)
  | false =>
   have h2 := of_decide_eq_false h2
   refine Ci false rfl (Ck (Qn (Cs (Cs (Cg (Jq 4 [22, 6, 5] 0 ⟨[(22, vB (decide (((mRead s).2.1.size : Int) < (mRead s).1))), (6, vS (mRead s).2.1), (5, vI (mRead s).1)], []⟩ (Ln (Qn ?_))))))))
   cases h3 : decide (((mRead s).2.1.size : Int) < (mRead s).1) with
   | true =>
    have h3 := of_decide_eq_true h3
    refine Ci true rfl (Cs (Cg (Jq 3 [4, 3, 2] 0 ⟨[(4, vI 5), (3, vS emp), (2, vS emp)], []⟩ (Ln (Qn (Cr (Qr (Rt (.inl rfl) [vS emp, vS emp, vI 5] rfl (fun bs w hS => (⟨?_, hS.kp⟩))))))))))
    simp only [retOf, den, List.map_cons, List.map_nil]
    unfold mTell
    try simp only [h1, h2, h3, emp_size, ne_eq, not_true_eq_false, not_false_eq_true, true_or, or_true, false_or, or_false, and_true, true_and, and_false, false_and, and_self, or_self, if_true, if_false, Bool.true_eq_false, Bool.false_eq_true, reduceIte, Classical.not_not, Bool.and_eq_true, decide_eq_true_eq]
    repeat (first | rw [if_pos (by omega)] | rw [if_neg (by omega)])
    all_goals first | rfl | (exfalso; omega)
   | false =>
    have h3 := of_decide_eq_false h3
    refine Ci false rfl (Ck (Qn (Cs (Cd 9 [] (.p 0 (.p 1 (.p 2 (.p 3 (.p 4 (.p 5 (.p 6 (.p 7 (.p 8 .nil))))))))) [] [] Try_mixed (by kernel_rfl) (pq_then pq_body) .slnil (Hq [(2, .sl 0 (mRead s).1.toNat), (5, .sl (mRead s).1.toNat (mRead s).2.1.size)] [(0, true), (1, true), (2, true), (3, true), (4, true), (5, true), (6, true), (7, true), (8, true)] [(4, vI 0), (3, vS ((mRead s).2.1.extract (mRead s).1.toNat (mRead s).2.1.size)), (2, vS ((mRead s).2.1.extract 0 (mRead s).1.toNat)), (28, vS ((mRead s).2.1.extract (mRead s).1.toNat (mRead s).2.1.size)), (27, vI (mRead s).1), (26, vS (mRead s).2.1), (25, vS ((mRead s).2.1.extract 0 (mRead s).1.toNat)), (24, vI (mRead s).1), (23, vS (mRead s).2.1), (22, vB false), (6, vS (mRead s).2.1), (5, vI (mRead s).1)] [0 = 0, (mRead s).1 = (((mRead s).1.toNat : Nat) : Int), (mRead s).1.toNat ≤ (mRead s).2.1.size, (mRead s).1 = (((mRead s).1.toNat : Nat) : Int), (mRead s).2.1.size = (mRead s).2.1.size, (mRead s).1.toNat ≤ (mRead s).2.1.size] [] rfl (by kernel_rfl) (oc rfl (oc (by omega) (oc (by omega) (oc (by omega) (oc rfl (oc (by omega) on)))))) wn (Hn (Ln (Qn (Cr (Rt (.inl rfl) [vS ((mRead s).2.1.extract 0 (mRead s).1.toNat), vS ((mRead s).2.1.extract (mRead s).1.toNat (mRead s).2.1.size), vI 0] rfl (fun bs w hS => (⟨?_, hS.kp⟩))))))))))))
    simp only [retOf, den, List.map_cons, List.map_nil]
    unfold mTell
    try simp only [h1, h2, h3, emp_size, ne_eq, not_true_eq_false, not_false_eq_true, true_or, or_true, false_or, or_false, and_true, true_and, and_false, false_and, and_self, or_self, if_true, if_false, Bool.true_eq_false, Bool.false_eq_true, reduceIte, Classical.not_not, Bool.and_eq_true, decide_eq_true_eq]
    repeat (first | rw [if_pos (by omega)] | rw [if_neg (by omega)])
    all_goals first | rfl | (exfalso; omega)
 | false =>
  have h1 := of_decide_eq_false h1
  refine Ci true rfl (Cs (Cg (Jq 4 [4, 3, 2] 0 ⟨[(4, vI (mRead s).2.2), (3, vS emp), (2, vS emp)], []⟩ (Ln (Qn (Cr (Qr (Rt (.inl rfl) [vS emp, vS emp, vI (mRead s).2.2] rfl (fun bs w hS => (⟨?_, hS.kp⟩))))))))))
  simp only [retOf, den, List.map_cons, List.map_nil]
  unfold mTell
  try simp only [h1, emp_size, ne_eq, not_true_eq_false, not_false_eq_true, true_or, or_true, false_or, or_false, and_true, true_and, and_false, false_and, and_self, or_self, if_true, if_false, Bool.true_eq_false, Bool.false_eq_true, reduceIte, Classical.not_not, Bool.and_eq_true, decide_eq_true_eq]
  repeat (first | rw [if_pos (by omega)] | rw [if_neg (by omega)])
  all_goals first | rfl | (exfalso; omega)

theorem ref_TextOf (s : ByteArray) (w : World) (hs : s.size ≤ 9223372036854775807) : Calls Try.prog 70 #[.string s] w fun e w' => e = .returned (.tuple #[.string (mTell s).1, .string (mTell s).2.1, .int .i64 (mTell s).2.2]) ∧ Kp [] w w' := by
 have hb := mRead_bd s
 refine calls_J0 37 Try.func70 rfl rfl [.string s] rfl ?_
 refine Cs (Cg (Jq 3 [0] 0 ⟨[(0, vS s)], []⟩ (Ln (Qn (Cs (Cg (Jq 1 [9] 0 ⟨[(9, vS s)], []⟩ (Lp 69 [] [vS s] (.tuple #[.int .i64 (mRead s).1, .string (mRead s).2.1, .int .i64 (mRead s).2.2]) Try.call69 rfl rfl rfl rfl (fun bs w hS => ref_NumberOf _ w (by first | assumption | omega | (simp only [emp_size]; omega))) (Jq 7 [7, 6, 5] 0 ⟨[(7, vI (mRead s).2.2), (6, vS (mRead s).2.1), (5, vI (mRead s).1)], []⟩ (Ln (Qn (Cs (Cs (Cg (Jq 3 [16, 7, 6, 5] 0 ⟨[(16, vB (decide ((mRead s).2.2 = 0))), (7, vI (mRead s).2.2), (6, vS (mRead s).2.1), (5, vI (mRead s).1)], []⟩ ?_)))))))))))))))
 cases h1 : decide ((mRead s).2.2 = 0) with
 | true =>
  have h1 := of_decide_eq_true h1
  refine Jq 3 [19, 7, 6, 5] 0 ⟨[(19, vB (decide ((5000 : Int) < (mRead s).1))), (7, vI (mRead s).2.2), (6, vS (mRead s).2.1), (5, vI (mRead s).1)], []⟩ (Ln (Qn ?_))
  cases h2 : decide ((5000 : Int) < (mRead s).1) with
  | true =>
   have h2 := of_decide_eq_true h2
   refine Ci true rfl (Cg (Jq 1 [7, 6, 5] 0 ⟨[(7, vI 1), (6, vS (mRead s).2.1), (5, vI (mRead s).1)], []⟩ (Ln (Qn (Cs (Cs (Cg (Jq 8 [27, 7, 6, 5] 0 ⟨[(27, vB false), (7, vI 1), (6, vS (mRead s).2.1), (5, vI (mRead s).1)], []⟩ (Ln (Qn (Ci false rfl (Ck (Qn (Cs (Cs (Cg (Jq 2 [29, 7, 6, 5] 0 ⟨[(29, vB true), (7, vI 1), (6, vS (mRead s).2.1), (5, vI (mRead s).1)], []⟩ (Ln (Qn (Ci true rfl (Cs (Cg (Jq 4 [4, 3, 2] 0 ⟨[(4, vI 1), (3, vS emp), (2, vS emp)], []⟩ (Ln (Qn (Cr (Qr (Rt (.inl rfl) [vS emp, vS emp, vI 1] rfl (fun bs w hS => (⟨?_, hS.kp⟩))))))))))))))))))))))))))))))
   simp only [retOf, den, List.map_cons, List.map_nil]
   unfold mTell
   try simp only [h1, h2, emp_size, ne_eq, not_true_eq_false, not_false_eq_true, true_or, or_true, false_or, or_false, and_true, true_and, and_false, false_and, and_self, or_self, if_true, if_false, Bool.true_eq_false, Bool.false_eq_true, reduceIte, Classical.not_not, Bool.and_eq_true, decide_eq_true_eq]
   repeat (first | rw [if_pos (by omega)] | rw [if_neg (by omega)])
   all_goals first | rfl | (exfalso; omega)
  | false =>
   have h2 := of_decide_eq_false h2
   refine Ci false rfl (Ck (Qn (Cs (Cs (Cg (Jq 3 [22, 7, 6, 5] 0 ⟨[(22, vB (decide ((mRead s).2.2 = 0))), (7, vI (mRead s).2.2), (6, vS (mRead s).2.1), (5, vI (mRead s).1)], []⟩ ?_))))))
   cases h3 : decide ((mRead s).2.2 = 0) with
   | true =>
    have h3 := of_decide_eq_true h3
    refine Jq 5 [27, 7, 6, 5] 0 ⟨[(27, vB (decide (((mRead s).2.1.size : Int) < (mRead s).1))), (7, vI (mRead s).2.2), (6, vS (mRead s).2.1), (5, vI (mRead s).1)], []⟩ (Ln (Qn ?_))
    cases h4 : decide (((mRead s).2.1.size : Int) < (mRead s).1) with
    | true =>
     have h4 := of_decide_eq_true h4
     refine Ci true rfl (Cg (Jq 1 [7, 6, 5] 0 ⟨[(7, vI 5), (6, vS (mRead s).2.1), (5, vI (mRead s).1)], []⟩ (Ln (Qn (Cs (Cs (Cg (Jq 2 [29, 7, 6, 5] 0 ⟨[(29, vB true), (7, vI 5), (6, vS (mRead s).2.1), (5, vI (mRead s).1)], []⟩ (Ln (Qn (Ci true rfl (Cs (Cg (Jq 4 [4, 3, 2] 0 ⟨[(4, vI 5), (3, vS emp), (2, vS emp)], []⟩ (Ln (Qn (Cr (Qr (Rt (.inl rfl) [vS emp, vS emp, vI 5] rfl (fun bs w hS => (⟨?_, hS.kp⟩)))))))))))))))))))))
     simp only [retOf, den, List.map_cons, List.map_nil]
     unfold mTell
     try simp only [h1, h2, h3, h4, emp_size, ne_eq, not_true_eq_false, not_false_eq_true, true_or, or_true, false_or, or_false, and_true, true_and, and_false, false_and, and_self, or_self, if_true, if_false, Bool.true_eq_false, Bool.false_eq_true, reduceIte, Classical.not_not, Bool.and_eq_true, decide_eq_true_eq]
     repeat (first | rw [if_pos (by omega)] | rw [if_neg (by omega)])
     all_goals first | rfl | (exfalso; omega)
    | false =>
     have h4 := of_decide_eq_false h4
     refine Ci false rfl (Ck (Qn (Cs (Cs (Cg (Jq 2 [29, 7, 6, 5] 0 ⟨[(29, vB (!(decide ((mRead s).2.2 = 0)))), (7, vI (mRead s).2.2), (6, vS (mRead s).2.1), (5, vI (mRead s).1)], []⟩ (Ln (Qn ?_))))))))
     cases h5 : decide ((mRead s).2.2 = 0) with
     | true =>
      have h5 := of_decide_eq_true h5
      refine Ci false rfl (Ck (Qn (Cs (Cd 9 [] (.p 0 (.p 1 (.p 2 (.p 3 (.p 4 (.p 5 (.p 6 (.p 7 (.p 8 .nil))))))))) [] [] Try_mixed (by kernel_rfl) (pq_then pq_body) .slnil (Hq [(2, .sl 0 (mRead s).1.toNat), (5, .sl (mRead s).1.toNat (mRead s).2.1.size)] [(0, true), (1, true), (2, true), (3, true), (4, true), (5, true), (6, true), (7, true), (8, true)] [(4, vI 0), (3, vS ((mRead s).2.1.extract (mRead s).1.toNat (mRead s).2.1.size)), (2, vS ((mRead s).2.1.extract 0 (mRead s).1.toNat)), (36, vS ((mRead s).2.1.extract (mRead s).1.toNat (mRead s).2.1.size)), (35, vI (mRead s).1), (34, vS (mRead s).2.1), (33, vS ((mRead s).2.1.extract 0 (mRead s).1.toNat)), (32, vI (mRead s).1), (31, vS (mRead s).2.1), (29, vB false), (7, vI (mRead s).2.2), (6, vS (mRead s).2.1), (5, vI (mRead s).1)] [0 = 0, (mRead s).1 = (((mRead s).1.toNat : Nat) : Int), (mRead s).1.toNat ≤ (mRead s).2.1.size, (mRead s).1 = (((mRead s).1.toNat : Nat) : Int), (mRead s).2.1.size = (mRead s).2.1.size, (mRead s).1.toNat ≤ (mRead s).2.1.size] [] rfl (by kernel_rfl) (oc rfl (oc (by omega) (oc (by omega) (oc (by omega) (oc rfl (oc (by omega) on)))))) wn (Hn (Ln (Qn (Cr (Rt (.inl rfl) [vS ((mRead s).2.1.extract 0 (mRead s).1.toNat), vS ((mRead s).2.1.extract (mRead s).1.toNat (mRead s).2.1.size), vI 0] rfl (fun bs w hS => (⟨?_, hS.kp⟩))))))))))))
      simp only [retOf, den, List.map_cons, List.map_nil]
      unfold mTell
      try simp only [h1, h2, h3, h4, h5, emp_size, ne_eq, not_true_eq_false, not_false_eq_true, true_or, or_true, false_or, or_false, and_true, true_and, and_false, false_and, and_self, or_self, if_true, if_false, Bool.true_eq_false, Bool.false_eq_true, reduceIte, Classical.not_not, Bool.and_eq_true, decide_eq_true_eq]
      repeat (first | rw [if_pos (by omega)] | rw [if_neg (by omega)])
      all_goals first | rfl | (exfalso; omega)
     | false =>
      have h5 := of_decide_eq_false h5
      exact absurd h1 h5
   | false =>
    have h3 := of_decide_eq_false h3
    exact absurd h1 h3
 | false =>
  have h1 := of_decide_eq_false h1
  refine Jq 3 [19, 7, 6, 5] 0 ⟨[(19, vB false), (7, vI (mRead s).2.2), (6, vS (mRead s).2.1), (5, vI (mRead s).1)], []⟩ (Ln (Qn (Ci false rfl (Ck (Qn (Cs (Cs (Cg (Jq 3 [22, 7, 6, 5] 0 ⟨[(22, vB (decide ((mRead s).2.2 = 0))), (7, vI (mRead s).2.2), (6, vS (mRead s).2.1), (5, vI (mRead s).1)], []⟩ ?_)))))))))
  cases h6 : decide ((mRead s).2.2 = 0) with
  | true =>
   have h6 := of_decide_eq_true h6
   exact absurd h6 h1
  | false =>
   have h6 := of_decide_eq_false h6
   refine Jq 5 [27, 7, 6, 5] 0 ⟨[(27, vB false), (7, vI (mRead s).2.2), (6, vS (mRead s).2.1), (5, vI (mRead s).1)], []⟩ (Ln (Qn (Ci false rfl (Ck (Qn (Cs (Cs (Cg (Jq 2 [29, 7, 6, 5] 0 ⟨[(29, vB (!(decide ((mRead s).2.2 = 0)))), (7, vI (mRead s).2.2), (6, vS (mRead s).2.1), (5, vI (mRead s).1)], []⟩ (Ln (Qn ?_)))))))))))
   cases h7 : decide ((mRead s).2.2 = 0) with
   | true =>
    have h7 := of_decide_eq_true h7
    exact absurd h7 h1
   | false =>
    have h7 := of_decide_eq_false h7
    refine Ci true rfl (Cs (Cg (Jq 4 [4, 3, 2] 0 ⟨[(4, vI (mRead s).2.2), (3, vS emp), (2, vS emp)], []⟩ (Ln (Qn (Cr (Qr (Rt (.inl rfl) [vS emp, vS emp, vI (mRead s).2.2] rfl (fun bs w hS => (⟨?_, hS.kp⟩))))))))))
    simp only [retOf, den, List.map_cons, List.map_nil]
    unfold mTell
    try simp only [h1, h6, h7, emp_size, ne_eq, not_true_eq_false, not_false_eq_true, true_or, or_true, false_or, or_false, and_true, true_and, and_false, false_and, and_self, or_self, if_true, if_false, Bool.true_eq_false, Bool.false_eq_true, reduceIte, Classical.not_not, Bool.and_eq_true, decide_eq_true_eq]
    repeat (first | rw [if_pos (by omega)] | rw [if_neg (by omega)])
    all_goals first | rfl | (exfalso; omega)

theorem command_CheckOp {B : Nat → Prop} (x : DOp) (w : World) (hx : Rds.sub B w x) : Calls Try.prog 91 #[.agg #[.int .i64 x.kind, .string x.a, .string x.b, .int .i64 x.n]] w fun e w' => e = .returned (.int .i64 (mOp x)) ∧ Kp [] w w' := by
 have okx := Rds.okof hx
 refine calls_J0 52 Try.func91 rfl rfl [.agg #[.int .i64 x.kind, .string x.a, .string x.b, .int .i64 x.n]] rfl ?_
 refine Cs (Cg (Jq 2 [1] 1 ⟨[(1, .p 0 0)], [⟨90, x.cs⟩]⟩ (Ln (Qn (Cs (Cs (Cg (Jq 4 [6, 1] 1 ⟨[(6, vB (decide (x.kind < 1))), (1, .p 0 0)], [⟨90, x.cs⟩]⟩ ?_))))))))
 cases h1 : decide (x.kind < 1) with
 | true =>
  have h1 := of_decide_eq_true h1
  refine Jq 4 [10, 1] 1 ⟨[(10, vB true), (1, .p 0 0)], [⟨90, x.cs⟩]⟩ (Ln (Qn (Ci true rfl (Cs (Cg (Jq 1 [2] 0 ⟨[(2, vI 3)], []⟩ (Ln (Qn (Cr (Qr (Rt (.inl rfl) [vI 3] rfl (fun bs w hS => (⟨?_, hS.kp⟩)))))))))))))
  simp only [retOf, den, List.map_cons, List.map_nil]
  unfold mOp
  try simp only [h1, emp_size, ne_eq, not_true_eq_false, not_false_eq_true, true_or, or_true, false_or, or_false, and_true, true_and, and_false, false_and, and_self, or_self, if_true, if_false, Bool.true_eq_false, Bool.false_eq_true, reduceIte, Classical.not_not, Bool.and_eq_true, decide_eq_true_eq]
  repeat (first | rw [if_pos (by omega)] | rw [if_neg (by omega)])
  all_goals first | rfl | (exfalso; omega)
 | false =>
  have h1 := of_decide_eq_false h1
  refine Jq 4 [10, 1] 1 ⟨[(10, vB (decide ((6 : Int) < x.kind))), (1, .p 0 0)], [⟨90, x.cs⟩]⟩ (Ln (Qn ?_))
  cases h2 : decide ((6 : Int) < x.kind) with
  | true =>
   have h2 := of_decide_eq_true h2
   refine Ci true rfl (Cs (Cg (Jq 1 [2] 0 ⟨[(2, vI 3)], []⟩ (Ln (Qn (Cr (Qr (Rt (.inl rfl) [vI 3] rfl (fun bs w hS => (⟨?_, hS.kp⟩))))))))))
   simp only [retOf, den, List.map_cons, List.map_nil]
   unfold mOp
   try simp only [h1, h2, emp_size, ne_eq, not_true_eq_false, not_false_eq_true, true_or, or_true, false_or, or_false, and_true, true_and, and_false, false_and, and_self, or_self, if_true, if_false, Bool.true_eq_false, Bool.false_eq_true, reduceIte, Classical.not_not, Bool.and_eq_true, decide_eq_true_eq]
   repeat (first | rw [if_pos (by omega)] | rw [if_neg (by omega)])
   all_goals first | rfl | (exfalso; omega)
  | false =>
   have h2 := of_decide_eq_false h2
   refine Ci false rfl (Ck (Qn (Cs (Cs (Cg (Jq 2 [12, 1] 1 ⟨[(12, vS x.a), (1, .p 0 0)], [⟨90, x.cs⟩]⟩ (Lp 83 [] [vS x.a] (.bool (mName x.a)) Try.call83 rfl rfl rfl rfl (fun bs w hS => lock_Name _ w (And.left okx)) (Jq 2 [15, 1] 1 ⟨[(15, vB (!(mName x.a))), (1, .p 0 0)], [⟨90, x.cs⟩]⟩ ?_))))))))
   cases h3 : mName x.a with
   | true =>
    refine Jq 4 [19, 15, 1] 1 ⟨[(19, vB (!(decide (x.kind = 5)))), (15, vB false), (1, .p 0 0)], [⟨90, x.cs⟩]⟩ ?_
    cases h4 : decide (x.kind = 5) with
    | true =>
     have h4 := of_decide_eq_true h4
     refine Jq 5 [24, 1] 1 ⟨[(24, vB false), (1, .p 0 0)], [⟨90, x.cs⟩]⟩ (Ln (Qn (Ci false rfl (Ck (Qn (Cs (Cs (Cg (Jq 4 [28, 1] 1 ⟨[(28, vB (decide ((12 : Int) < (x.b.size : Int)))), (1, .p 0 0)], [⟨90, x.cs⟩]⟩ (Ln (Qn ?_)))))))))))
     cases h5 : decide ((12 : Int) < (x.b.size : Int)) with
     | true =>
      have h5 := of_decide_eq_true h5
      refine Ci true rfl (Cs (Cg (Jq 1 [2] 0 ⟨[(2, vI 1)], []⟩ (Ln (Qn (Cr (Qr (Rt (.inl rfl) [vI 1] rfl (fun bs w hS => (⟨?_, hS.kp⟩))))))))))
      simp only [retOf, den, List.map_cons, List.map_nil]
      unfold mOp
      try simp only [h1, h2, h3, h4, h5, emp_size, ne_eq, not_true_eq_false, not_false_eq_true, true_or, or_true, false_or, or_false, and_true, true_and, and_false, false_and, and_self, or_self, if_true, if_false, Bool.true_eq_false, Bool.false_eq_true, reduceIte, Classical.not_not, Bool.and_eq_true, decide_eq_true_eq]
      repeat (first | rw [if_pos (by omega)] | rw [if_neg (by omega)])
      all_goals first | rfl | (exfalso; omega)
     | false =>
      have h5 := of_decide_eq_false h5
      refine Ci false rfl (Ck (Qn (Cs (Cs (Cg (Jq 4 [32, 1] 1 ⟨[(32, vB (decide (x.kind = 5))), (1, .p 0 0)], [⟨90, x.cs⟩]⟩ ?_))))))
      cases h6 : decide (x.kind = 5) with
      | true =>
       have h6 := of_decide_eq_true h6
       refine Jq 4 [36, 32, 1] 1 ⟨[(36, vB (decide (x.n < 1))), (32, vB true), (1, .p 0 0)], [⟨90, x.cs⟩]⟩ ?_
       cases h7 : decide (x.n < 1) with
       | true =>
        have h7 := of_decide_eq_true h7
        refine Jq 15 [51] 0 ⟨[(51, vB true)], []⟩ (Ln (Qn (Ci true rfl (Cs (Cg (Jq 1 [2] 0 ⟨[(2, vI 2)], []⟩ (Ln (Qn (Cr (Qr (Rt (.inl rfl) [vI 2] rfl (fun bs w hS => (⟨?_, hS.kp⟩)))))))))))))
        simp only [retOf, den, List.map_cons, List.map_nil]
        unfold mOp
        try simp only [h1, h2, h3, h4, h5, h6, h7, emp_size, ne_eq, not_true_eq_false, not_false_eq_true, true_or, or_true, false_or, or_false, and_true, true_and, and_false, false_and, and_self, or_self, if_true, if_false, Bool.true_eq_false, Bool.false_eq_true, reduceIte, Classical.not_not, Bool.and_eq_true, decide_eq_true_eq]
        repeat (first | rw [if_pos (by omega)] | rw [if_neg (by omega)])
        all_goals first | rfl | (exfalso; omega)
       | false =>
        have h7 := of_decide_eq_false h7
        refine Jq 6 [42, 1] 1 ⟨[(42, vB (decide ((1073741824 : Int) < x.n))), (1, .p 0 0)], [⟨90, x.cs⟩]⟩ ?_
        cases h8 : decide ((1073741824 : Int) < x.n) with
        | true =>
         have h8 := of_decide_eq_true h8
         refine Jq 9 [51] 0 ⟨[(51, vB true)], []⟩ (Ln (Qn (Ci true rfl (Cs (Cg (Jq 1 [2] 0 ⟨[(2, vI 2)], []⟩ (Ln (Qn (Cr (Qr (Rt (.inl rfl) [vI 2] rfl (fun bs w hS => (⟨?_, hS.kp⟩)))))))))))))
         simp only [retOf, den, List.map_cons, List.map_nil]
         unfold mOp
         try simp only [h1, h2, h3, h4, h5, h6, h7, h8, emp_size, ne_eq, not_true_eq_false, not_false_eq_true, true_or, or_true, false_or, or_false, and_true, true_and, and_false, false_and, and_self, or_self, if_true, if_false, Bool.true_eq_false, Bool.false_eq_true, reduceIte, Classical.not_not, Bool.and_eq_true, decide_eq_true_eq]
         repeat (first | rw [if_pos (by omega)] | rw [if_neg (by omega)])
         all_goals first | rfl | (exfalso; omega)
        | false =>
         have h8 := of_decide_eq_false h8
         refine Jq 4 [46, 42, 1] 1 ⟨[(46, vB (!(decide (x.kind = 5)))), (42, vB false), (1, .p 0 0)], [⟨90, x.cs⟩]⟩ ?_
         cases h9 : decide (x.kind = 5) with
         | true =>
          have h9 := of_decide_eq_true h9
          refine Jq 5 [51] 0 ⟨[(51, vB false)], []⟩ (Ln (Qn (Ci false rfl (Ck (Qn (Cs (Cg (Jq 1 [2] 0 ⟨[(2, vI 0)], []⟩ (Ln (Qn (Cr (Rt (.inl rfl) [vI 0] rfl (fun bs w hS => (⟨?_, hS.kp⟩))))))))))))))
          simp only [retOf, den, List.map_cons, List.map_nil]
          unfold mOp
          try simp only [h1, h2, h3, h4, h5, h6, h7, h8, h9, emp_size, ne_eq, not_true_eq_false, not_false_eq_true, true_or, or_true, false_or, or_false, and_true, true_and, and_false, false_and, and_self, or_self, if_true, if_false, Bool.true_eq_false, Bool.false_eq_true, reduceIte, Classical.not_not, Bool.and_eq_true, decide_eq_true_eq]
          repeat (first | rw [if_pos (by omega)] | rw [if_neg (by omega)])
          all_goals first | rfl | (exfalso; omega)
         | false =>
          have h9 := of_decide_eq_false h9
          exact absurd h4 h9
      | false =>
       have h6 := of_decide_eq_false h6
       exact absurd h4 h6
    | false =>
     have h4 := of_decide_eq_false h4
     refine Jq 5 [24, 1] 1 ⟨[(24, vB (!(decide (x.b = emp)))), (1, .p 0 0)], [⟨90, x.cs⟩]⟩ (Ln (Qn ?_))
     cases h10 : decide (x.b = emp) with
     | true =>
      have h10 := of_decide_eq_true h10
      have hzh10 : x.b.size = 0 := by rw [h10]; rfl
      refine Ci false rfl (Ck (Qn (Cs (Cs (Cg (Jq 4 [28, 1] 1 ⟨[(28, vB (decide ((12 : Int) < (x.b.size : Int)))), (1, .p 0 0)], [⟨90, x.cs⟩]⟩ (Ln (Qn ?_))))))))
      cases h11 : decide ((12 : Int) < (x.b.size : Int)) with
      | true =>
       have h11 := of_decide_eq_true h11
       refine Ci true rfl (Cs (Cg (Jq 1 [2] 0 ⟨[(2, vI 1)], []⟩ (Ln (Qn (Cr (Qr (Rt (.inl rfl) [vI 1] rfl (fun bs w hS => (⟨?_, hS.kp⟩))))))))))
       simp only [retOf, den, List.map_cons, List.map_nil]
       unfold mOp
       try simp only [h1, h2, h3, h4, h10, h11, emp_size, ne_eq, not_true_eq_false, not_false_eq_true, true_or, or_true, false_or, or_false, and_true, true_and, and_false, false_and, and_self, or_self, if_true, if_false, Bool.true_eq_false, Bool.false_eq_true, reduceIte, Classical.not_not, Bool.and_eq_true, decide_eq_true_eq]
       repeat (first | rw [if_pos (by omega)] | rw [if_neg (by omega)])
       all_goals first | rfl | (exfalso; omega)
      | false =>
       have h11 := of_decide_eq_false h11
       refine Ci false rfl (Ck (Qn (Cs (Cs (Cg (Jq 4 [32, 1] 1 ⟨[(32, vB (decide (x.kind = 5))), (1, .p 0 0)], [⟨90, x.cs⟩]⟩ ?_))))))
       cases h12 : decide (x.kind = 5) with
       | true =>
        have h12 := of_decide_eq_true h12
        exact absurd h12 h4
       | false =>
        have h12 := of_decide_eq_false h12
        refine Jq 14 [46, 42, 1] 1 ⟨[(46, vB (!(decide (x.kind = 5)))), (42, vB false), (1, .p 0 0)], [⟨90, x.cs⟩]⟩ ?_
        cases h13 : decide (x.kind = 5) with
        | true =>
         have h13 := of_decide_eq_true h13
         exact absurd h13 h4
        | false =>
         have h13 := of_decide_eq_false h13
         refine Jq 5 [51] 0 ⟨[(51, vB (!(decide (x.n = 0))))], []⟩ (Ln (Qn ?_))
         cases h14 : decide (x.n = 0) with
         | true =>
          have h14 := of_decide_eq_true h14
          refine Ci false rfl (Ck (Qn (Cs (Cg (Jq 1 [2] 0 ⟨[(2, vI 0)], []⟩ (Ln (Qn (Cr (Rt (.inl rfl) [vI 0] rfl (fun bs w hS => (⟨?_, hS.kp⟩)))))))))))
          simp only [retOf, den, List.map_cons, List.map_nil]
          unfold mOp
          try simp only [h1, h2, h3, h4, h10, h11, h12, h13, h14, emp_size, ne_eq, not_true_eq_false, not_false_eq_true, true_or, or_true, false_or, or_false, and_true, true_and, and_false, false_and, and_self, or_self, if_true, if_false, Bool.true_eq_false, Bool.false_eq_true, reduceIte, Classical.not_not, Bool.and_eq_true, decide_eq_true_eq]
          repeat (first | rw [if_pos (by omega)] | rw [if_neg (by omega)])
          all_goals first | rfl | (exfalso; omega)
         | false =>
          have h14 := of_decide_eq_false h14
          refine Ci true rfl (Cs (Cg (Jq 1 [2] 0 ⟨[(2, vI 2)], []⟩ (Ln (Qn (Cr (Qr (Rt (.inl rfl) [vI 2] rfl (fun bs w hS => (⟨?_, hS.kp⟩))))))))))
          simp only [retOf, den, List.map_cons, List.map_nil]
          unfold mOp
          try simp only [h1, h2, h3, h4, h10, h11, h12, h13, h14, emp_size, ne_eq, not_true_eq_false, not_false_eq_true, true_or, or_true, false_or, or_false, and_true, true_and, and_false, false_and, and_self, or_self, if_true, if_false, Bool.true_eq_false, Bool.false_eq_true, reduceIte, Classical.not_not, Bool.and_eq_true, decide_eq_true_eq]
          repeat (first | rw [if_pos (by omega)] | rw [if_neg (by omega)])
          all_goals first | rfl | (exfalso; omega)
     | false =>
      have h10 := of_decide_eq_false h10
      refine Ci true rfl (Cs (Cg (Jq 1 [2] 0 ⟨[(2, vI 4)], []⟩ (Ln (Qn (Cr (Qr (Rt (.inl rfl) [vI 4] rfl (fun bs w hS => (⟨?_, hS.kp⟩))))))))))
      simp only [retOf, den, List.map_cons, List.map_nil]
      unfold mOp
      try simp only [h1, h2, h3, h4, h10, emp_size, ne_eq, not_true_eq_false, not_false_eq_true, true_or, or_true, false_or, or_false, and_true, true_and, and_false, false_and, and_self, or_self, if_true, if_false, Bool.true_eq_false, Bool.false_eq_true, reduceIte, Classical.not_not, Bool.and_eq_true, decide_eq_true_eq]
      repeat (first | rw [if_pos (by omega)] | rw [if_neg (by omega)])
      all_goals first | rfl | (exfalso; omega)
   | false =>
    refine Jq 9 [24, 1] 1 ⟨[(24, vB true), (1, .p 0 0)], [⟨90, x.cs⟩]⟩ (Ln (Qn (Ci true rfl (Cs (Cg (Jq 1 [2] 0 ⟨[(2, vI 4)], []⟩ (Ln (Qn (Cr (Qr (Rt (.inl rfl) [vI 4] rfl (fun bs w hS => (⟨?_, hS.kp⟩)))))))))))))
    simp only [retOf, den, List.map_cons, List.map_nil]
    unfold mOp
    try simp only [h1, h2, h3, emp_size, ne_eq, not_true_eq_false, not_false_eq_true, true_or, or_true, false_or, or_false, and_true, true_and, and_false, false_and, and_self, or_self, if_true, if_false, Bool.true_eq_false, Bool.false_eq_true, reduceIte, Classical.not_not, Bool.and_eq_true, decide_eq_true_eq]
    repeat (first | rw [if_pos (by omega)] | rw [if_neg (by omega)])
    all_goals first | rfl | (exfalso; omega)

theorem ref_OpFault {B : Nat → Prop} (x : DOp) (w : World) (hx : Rds.sub B w x) : Calls Try.prog 94 #[.agg #[.int .i64 x.kind, .string x.a, .string x.b, .int .i64 x.n]] w fun e w' => e = .returned (.int .i64 (mOp x)) ∧ Kp [] w w' := by
 have okx := Rds.okof hx
 refine calls_J0 35 Try.func94 rfl rfl [.agg #[.int .i64 x.kind, .string x.a, .string x.b, .int .i64 x.n]] rfl ?_
 refine Cs (Cg (Jq 2 [1] 1 ⟨[(1, .p 0 0)], [⟨90, x.cs⟩]⟩ (Ln (Qn (Cs (Cs (Cg (Jq 2 [4, 1] 1 ⟨[(4, vI x.kind), (1, .p 0 0)], [⟨90, x.cs⟩]⟩ (Lp 41 [] [vI x.kind, vI 1, vI 6] (.bool (inB x.kind 1 6)) Try.call41 rfl rfl rfl rfl (fun bs w hS => ref_In _ _ _ w) (Jq 1 [6, 1] 1 ⟨[(6, vB (!(inB x.kind 1 6))), (1, .p 0 0)], [⟨90, x.cs⟩]⟩ (Ln (Qn ?_))))))))))))
 cases h1 : inB x.kind 1 6 with
 | true =>
  simp only [inB, Bool.and_eq_true, Bool.and_eq_false_iff, decide_eq_true_eq, decide_eq_false_iff_not] at h1
  refine Ci false rfl (Ck (Qn (Cs (Cs (Cg (Jq 2 [8, 1] 1 ⟨[(8, vS x.a), (1, .p 0 0)], [⟨90, x.cs⟩]⟩ (Lp 89 [] [vS x.a] (.bool (mName x.a)) Try.call89 rfl rfl rfl rfl (fun bs w hS => ref_NameMay _ w (And.left okx)) (Jq 2 [11, 1] 1 ⟨[(11, vB (!(mName x.a))), (1, .p 0 0)], [⟨90, x.cs⟩]⟩ ?_))))))))
  cases h2 : mName x.a with
  | true =>
   refine Jq 4 [15, 11, 1] 1 ⟨[(15, vB (!(decide (x.b = emp)))), (11, vB false), (1, .p 0 0)], [⟨90, x.cs⟩]⟩ ?_
   cases h3 : decide (x.b = emp) with
   | true =>
    have h3 := of_decide_eq_true h3
    have hzh3 : x.b.size = 0 := by rw [h3]; rfl
    refine Jq 5 [20, 1] 1 ⟨[(20, vB false), (1, .p 0 0)], [⟨90, x.cs⟩]⟩ (Ln (Qn (Ci false rfl (Ck (Qn (Cs (Cs (Cg (Jq 4 [24, 1] 1 ⟨[(24, vB (decide ((12 : Int) < (x.b.size : Int)))), (1, .p 0 0)], [⟨90, x.cs⟩]⟩ (Ln (Qn ?_)))))))))))
    cases h4 : decide ((12 : Int) < (x.b.size : Int)) with
    | true =>
     have h4 := of_decide_eq_true h4
     refine Ci true rfl (Cs (Cg (Jq 1 [2] 0 ⟨[(2, vI 1)], []⟩ (Ln (Qn (Cr (Qr (Rt (.inl rfl) [vI 1] rfl (fun bs w hS => (⟨?_, hS.kp⟩))))))))))
     simp only [retOf, den, List.map_cons, List.map_nil]
     unfold mOp
     try simp only [h1, h2, h3, h4, emp_size, ne_eq, not_true_eq_false, not_false_eq_true, true_or, or_true, false_or, or_false, and_true, true_and, and_false, false_and, and_self, or_self, if_true, if_false, Bool.true_eq_false, Bool.false_eq_true, reduceIte, Classical.not_not, Bool.and_eq_true, decide_eq_true_eq]
     repeat (first | rw [if_pos (by omega)] | rw [if_neg (by omega)])
     all_goals first | rfl | (exfalso; omega)
    | false =>
     have h4 := of_decide_eq_false h4
     refine Ci false rfl (Ck (Qn (Cs (Cs (Cg (Jq 3 [27, 1] 1 ⟨[(27, vB (decide (x.kind = 5))), (1, .p 0 0)], [⟨90, x.cs⟩]⟩ (Ln (Qn ?_))))))))
     cases h5 : decide (x.kind = 5) with
     | true =>
      have h5 := of_decide_eq_true h5
      refine Ci true rfl (Cs (Cg (Jq 2 [29] 0 ⟨[(29, vI x.n)], []⟩ (Lp 41 [] [vI x.n, vI 1, vI 1073741824] (.bool (inB x.n 1 1073741824)) Try.call41 rfl rfl rfl rfl (fun bs w hS => ref_In _ _ _ w) (Jq 1 [31] 0 ⟨[(31, vB (!(inB x.n 1 1073741824)))], []⟩ (Ln (Qn ?_)))))))
      cases h6 : inB x.n 1 1073741824 with
      | true =>
       simp only [inB, Bool.and_eq_true, Bool.and_eq_false_iff, decide_eq_true_eq, decide_eq_false_iff_not] at h6
       refine Ci false rfl (Ck (Qn (Cs (Cg (Jq 1 [2] 0 ⟨[(2, vI 0)], []⟩ (Ln (Qn (Cr (Rt (.inl rfl) [vI 0] rfl (fun bs w hS => (⟨?_, hS.kp⟩)))))))))))
       simp only [retOf, den, List.map_cons, List.map_nil]
       unfold mOp
       try simp only [h1, h2, h3, h4, h5, h6, emp_size, ne_eq, not_true_eq_false, not_false_eq_true, true_or, or_true, false_or, or_false, and_true, true_and, and_false, false_and, and_self, or_self, if_true, if_false, Bool.true_eq_false, Bool.false_eq_true, reduceIte, Classical.not_not, Bool.and_eq_true, decide_eq_true_eq]
       repeat (first | rw [if_pos (by omega)] | rw [if_neg (by omega)])
       all_goals first | rfl | (exfalso; omega)
      | false =>
       simp only [inB, Bool.and_eq_true, Bool.and_eq_false_iff, decide_eq_true_eq, decide_eq_false_iff_not] at h6
       refine Ci true rfl (Cs (Cg (Jq 1 [2] 0 ⟨[(2, vI 2)], []⟩ (Ln (Qn (Cr (Qr (Rt (.inl rfl) [vI 2] rfl (fun bs w hS => (⟨?_, hS.kp⟩))))))))))
       simp only [retOf, den, List.map_cons, List.map_nil]
       unfold mOp
       try simp only [h1, h2, h3, h4, h5, h6, emp_size, ne_eq, not_true_eq_false, not_false_eq_true, true_or, or_true, false_or, or_false, and_true, true_and, and_false, false_and, and_self, or_self, if_true, if_false, Bool.true_eq_false, Bool.false_eq_true, reduceIte, Classical.not_not, Bool.and_eq_true, decide_eq_true_eq]
       repeat (first | rw [if_pos (by omega)] | rw [if_neg (by omega)])
       all_goals first | rfl | (exfalso; omega)
     | false =>
      have h5 := of_decide_eq_false h5
      refine Ci false rfl (Cs (Cg (Jq 3 [34] 0 ⟨[(34, vB (!(decide (x.n = 0))))], []⟩ (Ln (Qn ?_)))))
      cases h7 : decide (x.n = 0) with
      | true =>
       have h7 := of_decide_eq_true h7
       refine Ci false rfl (Ck (Qn (Cs (Cg (Jq 1 [2] 0 ⟨[(2, vI 0)], []⟩ (Ln (Qn (Cr (Rt (.inl rfl) [vI 0] rfl (fun bs w hS => (⟨?_, hS.kp⟩)))))))))))
       simp only [retOf, den, List.map_cons, List.map_nil]
       unfold mOp
       try simp only [h1, h2, h3, h4, h5, h7, emp_size, ne_eq, not_true_eq_false, not_false_eq_true, true_or, or_true, false_or, or_false, and_true, true_and, and_false, false_and, and_self, or_self, if_true, if_false, Bool.true_eq_false, Bool.false_eq_true, reduceIte, Classical.not_not, Bool.and_eq_true, decide_eq_true_eq]
       repeat (first | rw [if_pos (by omega)] | rw [if_neg (by omega)])
       all_goals first | rfl | (exfalso; omega)
      | false =>
       have h7 := of_decide_eq_false h7
       refine Ci true rfl (Cs (Cg (Jq 1 [2] 0 ⟨[(2, vI 2)], []⟩ (Ln (Qn (Cr (Qr (Rt (.inl rfl) [vI 2] rfl (fun bs w hS => (⟨?_, hS.kp⟩))))))))))
       simp only [retOf, den, List.map_cons, List.map_nil]
       unfold mOp
       try simp only [h1, h2, h3, h4, h5, h7, emp_size, ne_eq, not_true_eq_false, not_false_eq_true, true_or, or_true, false_or, or_false, and_true, true_and, and_false, false_and, and_self, or_self, if_true, if_false, Bool.true_eq_false, Bool.false_eq_true, reduceIte, Classical.not_not, Bool.and_eq_true, decide_eq_true_eq]
       repeat (first | rw [if_pos (by omega)] | rw [if_neg (by omega)])
       all_goals first | rfl | (exfalso; omega)
   | false =>
    have h3 := of_decide_eq_false h3
    refine Jq 5 [20, 1] 1 ⟨[(20, vB (!(decide (x.kind = 5)))), (1, .p 0 0)], [⟨90, x.cs⟩]⟩ (Ln (Qn ?_))
    cases h8 : decide (x.kind = 5) with
    | true =>
     have h8 := of_decide_eq_true h8
     refine Ci false rfl (Ck (Qn (Cs (Cs (Cg (Jq 4 [24, 1] 1 ⟨[(24, vB (decide ((12 : Int) < (x.b.size : Int)))), (1, .p 0 0)], [⟨90, x.cs⟩]⟩ (Ln (Qn ?_))))))))
     cases h9 : decide ((12 : Int) < (x.b.size : Int)) with
     | true =>
      have h9 := of_decide_eq_true h9
      refine Ci true rfl (Cs (Cg (Jq 1 [2] 0 ⟨[(2, vI 1)], []⟩ (Ln (Qn (Cr (Qr (Rt (.inl rfl) [vI 1] rfl (fun bs w hS => (⟨?_, hS.kp⟩))))))))))
      simp only [retOf, den, List.map_cons, List.map_nil]
      unfold mOp
      try simp only [h1, h2, h3, h8, h9, emp_size, ne_eq, not_true_eq_false, not_false_eq_true, true_or, or_true, false_or, or_false, and_true, true_and, and_false, false_and, and_self, or_self, if_true, if_false, Bool.true_eq_false, Bool.false_eq_true, reduceIte, Classical.not_not, Bool.and_eq_true, decide_eq_true_eq]
      repeat (first | rw [if_pos (by omega)] | rw [if_neg (by omega)])
      all_goals first | rfl | (exfalso; omega)
     | false =>
      have h9 := of_decide_eq_false h9
      refine Ci false rfl (Ck (Qn (Cs (Cs (Cg (Jq 3 [27, 1] 1 ⟨[(27, vB (decide (x.kind = 5))), (1, .p 0 0)], [⟨90, x.cs⟩]⟩ (Ln (Qn ?_))))))))
      cases h10 : decide (x.kind = 5) with
      | true =>
       have h10 := of_decide_eq_true h10
       refine Ci true rfl (Cs (Cg (Jq 2 [29] 0 ⟨[(29, vI x.n)], []⟩ (Lp 41 [] [vI x.n, vI 1, vI 1073741824] (.bool (inB x.n 1 1073741824)) Try.call41 rfl rfl rfl rfl (fun bs w hS => ref_In _ _ _ w) (Jq 1 [31] 0 ⟨[(31, vB (!(inB x.n 1 1073741824)))], []⟩ (Ln (Qn ?_)))))))
       cases h11 : inB x.n 1 1073741824 with
       | true =>
        simp only [inB, Bool.and_eq_true, Bool.and_eq_false_iff, decide_eq_true_eq, decide_eq_false_iff_not] at h11
        refine Ci false rfl (Ck (Qn (Cs (Cg (Jq 1 [2] 0 ⟨[(2, vI 0)], []⟩ (Ln (Qn (Cr (Rt (.inl rfl) [vI 0] rfl (fun bs w hS => (⟨?_, hS.kp⟩)))))))))))
        simp only [retOf, den, List.map_cons, List.map_nil]
        unfold mOp
        try simp only [h1, h2, h3, h8, h9, h10, h11, emp_size, ne_eq, not_true_eq_false, not_false_eq_true, true_or, or_true, false_or, or_false, and_true, true_and, and_false, false_and, and_self, or_self, if_true, if_false, Bool.true_eq_false, Bool.false_eq_true, reduceIte, Classical.not_not, Bool.and_eq_true, decide_eq_true_eq]
        repeat (first | rw [if_pos (by omega)] | rw [if_neg (by omega)])
        all_goals first | rfl | (exfalso; omega)
       | false =>
        simp only [inB, Bool.and_eq_true, Bool.and_eq_false_iff, decide_eq_true_eq, decide_eq_false_iff_not] at h11
        refine Ci true rfl (Cs (Cg (Jq 1 [2] 0 ⟨[(2, vI 2)], []⟩ (Ln (Qn (Cr (Qr (Rt (.inl rfl) [vI 2] rfl (fun bs w hS => (⟨?_, hS.kp⟩))))))))))
        simp only [retOf, den, List.map_cons, List.map_nil]
        unfold mOp
        try simp only [h1, h2, h3, h8, h9, h10, h11, emp_size, ne_eq, not_true_eq_false, not_false_eq_true, true_or, or_true, false_or, or_false, and_true, true_and, and_false, false_and, and_self, or_self, if_true, if_false, Bool.true_eq_false, Bool.false_eq_true, reduceIte, Classical.not_not, Bool.and_eq_true, decide_eq_true_eq]
        repeat (first | rw [if_pos (by omega)] | rw [if_neg (by omega)])
        all_goals first | rfl | (exfalso; omega)
      | false =>
       have h10 := of_decide_eq_false h10
       exact absurd h8 h10
    | false =>
     have h8 := of_decide_eq_false h8
     refine Ci true rfl (Cs (Cg (Jq 1 [2] 0 ⟨[(2, vI 4)], []⟩ (Ln (Qn (Cr (Qr (Rt (.inl rfl) [vI 4] rfl (fun bs w hS => (⟨?_, hS.kp⟩))))))))))
     simp only [retOf, den, List.map_cons, List.map_nil]
     unfold mOp
     try simp only [h1, h2, h3, h8, emp_size, ne_eq, not_true_eq_false, not_false_eq_true, true_or, or_true, false_or, or_false, and_true, true_and, and_false, false_and, and_self, or_self, if_true, if_false, Bool.true_eq_false, Bool.false_eq_true, reduceIte, Classical.not_not, Bool.and_eq_true, decide_eq_true_eq]
     repeat (first | rw [if_pos (by omega)] | rw [if_neg (by omega)])
     all_goals first | rfl | (exfalso; omega)
  | false =>
   refine Jq 9 [20, 1] 1 ⟨[(20, vB true), (1, .p 0 0)], [⟨90, x.cs⟩]⟩ (Ln (Qn (Ci true rfl (Cs (Cg (Jq 1 [2] 0 ⟨[(2, vI 4)], []⟩ (Ln (Qn (Cr (Qr (Rt (.inl rfl) [vI 4] rfl (fun bs w hS => (⟨?_, hS.kp⟩)))))))))))))
   simp only [retOf, den, List.map_cons, List.map_nil]
   unfold mOp
   try simp only [h1, h2, emp_size, ne_eq, not_true_eq_false, not_false_eq_true, true_or, or_true, false_or, or_false, and_true, true_and, and_false, false_and, and_self, or_self, if_true, if_false, Bool.true_eq_false, Bool.false_eq_true, reduceIte, Classical.not_not, Bool.and_eq_true, decide_eq_true_eq]
   repeat (first | rw [if_pos (by omega)] | rw [if_neg (by omega)])
   all_goals first | rfl | (exfalso; omega)
 | false =>
  simp only [inB, Bool.and_eq_true, Bool.and_eq_false_iff, decide_eq_true_eq, decide_eq_false_iff_not] at h1
  refine Ci true rfl (Cs (Cg (Jq 1 [2] 0 ⟨[(2, vI 3)], []⟩ (Ln (Qn (Cr (Qr (Rt (.inl rfl) [vI 3] rfl (fun bs w hS => (⟨?_, hS.kp⟩))))))))))
  simp only [retOf, den, List.map_cons, List.map_nil]
  unfold mOp
  try simp only [h1, emp_size, ne_eq, not_true_eq_false, not_false_eq_true, true_or, or_true, false_or, or_false, and_true, true_and, and_false, false_and, and_self, or_self, if_true, if_false, Bool.true_eq_false, Bool.false_eq_true, reduceIte, Classical.not_not, Bool.and_eq_true, decide_eq_true_eq]
  repeat (first | rw [if_pos (by omega)] | rw [if_neg (by omega)])
  all_goals first | rfl | (exfalso; omega)

theorem command_Check {B : Nat → Prop} (x : DCommand) (w : World) (hx : Rds.sub B w x) : Calls Try.prog 73 #[.agg #[.int .i64 x.kind, .int .i64 x.client, .int .i64 x.session, .int .i64 x.seq, .int .i64 x.acked, .int .i64 x.op.kind, .string x.op.a, .string x.op.b, .int .i64 x.op.n]] w fun e w' => e = .returned (.int .i64 (mCmd x)) ∧ Kp [] w w' := by
 have okx := Rds.okof hx
 refine calls_J0 74 Try.func73 rfl rfl [.agg #[.int .i64 x.kind, .int .i64 x.client, .int .i64 x.session, .int .i64 x.seq, .int .i64 x.acked, .int .i64 x.op.kind, .string x.op.a, .string x.op.b, .int .i64 x.op.n]] rfl ?_
 refine Cs (Cg (Jq 2 [1] 1 ⟨[(1, .p 0 0)], [⟨92, x.cs⟩]⟩ (Ln (Qn (Cs (Cs (Cg (Jq 4 [6, 1] 1 ⟨[(6, vB (decide (x.kind < 1))), (1, .p 0 0)], [⟨92, x.cs⟩]⟩ ?_))))))))
 cases h1 : decide (x.kind < 1) with
 | true =>
  have h1 := of_decide_eq_true h1
  refine Jq 4 [10, 1] 1 ⟨[(10, vB true), (1, .p 0 0)], [⟨92, x.cs⟩]⟩ (Ln (Qn (Ci true rfl (Cs (Cg (Jq 1 [2] 0 ⟨[(2, vI 3)], []⟩ (Ln (Qn (Cr (Qr (Rt (.inl rfl) [vI 3] rfl (fun bs w hS => (⟨?_, hS.kp⟩)))))))))))))
  simp only [retOf, den, List.map_cons, List.map_nil]
  unfold mCmd
  try simp only [h1, emp_size, ne_eq, not_true_eq_false, not_false_eq_true, true_or, or_true, false_or, or_false, and_true, true_and, and_false, false_and, and_self, or_self, if_true, if_false, Bool.true_eq_false, Bool.false_eq_true, reduceIte, Classical.not_not, Bool.and_eq_true, decide_eq_true_eq]
  repeat (first | rw [if_pos (by omega)] | rw [if_neg (by omega)])
  all_goals first | rfl | (exfalso; omega)
 | false =>
  have h1 := of_decide_eq_false h1
  refine Jq 4 [10, 1] 1 ⟨[(10, vB (decide ((3 : Int) < x.kind))), (1, .p 0 0)], [⟨92, x.cs⟩]⟩ (Ln (Qn ?_))
  cases h2 : decide ((3 : Int) < x.kind) with
  | true =>
   have h2 := of_decide_eq_true h2
   refine Ci true rfl (Cs (Cg (Jq 1 [2] 0 ⟨[(2, vI 3)], []⟩ (Ln (Qn (Cr (Qr (Rt (.inl rfl) [vI 3] rfl (fun bs w hS => (⟨?_, hS.kp⟩))))))))))
   simp only [retOf, den, List.map_cons, List.map_nil]
   unfold mCmd
   try simp only [h1, h2, emp_size, ne_eq, not_true_eq_false, not_false_eq_true, true_or, or_true, false_or, or_false, and_true, true_and, and_false, false_and, and_self, or_self, if_true, if_false, Bool.true_eq_false, Bool.false_eq_true, reduceIte, Classical.not_not, Bool.and_eq_true, decide_eq_true_eq]
   repeat (first | rw [if_pos (by omega)] | rw [if_neg (by omega)])
   all_goals first | rfl | (exfalso; omega)
  | false =>
   have h2 := of_decide_eq_false h2
   refine Ci false rfl (Ck (Qn (Cs (Cs (Cg (Jq 4 [14, 1] 1 ⟨[(14, vB (decide (x.client < 1))), (1, .p 0 0)], [⟨92, x.cs⟩]⟩ ?_))))))
   cases h3 : decide (x.client < 1) with
   | true =>
    have h3 := of_decide_eq_true h3
    refine Jq 4 [18, 1] 1 ⟨[(18, vB true), (1, .p 0 0)], [⟨92, x.cs⟩]⟩ (Ln (Qn (Ci true rfl (Cs (Cg (Jq 1 [2] 0 ⟨[(2, vI 2)], []⟩ (Ln (Qn (Cr (Qr (Rt (.inl rfl) [vI 2] rfl (fun bs w hS => (⟨?_, hS.kp⟩)))))))))))))
    simp only [retOf, den, List.map_cons, List.map_nil]
    unfold mCmd
    try simp only [h1, h2, h3, emp_size, ne_eq, not_true_eq_false, not_false_eq_true, true_or, or_true, false_or, or_false, and_true, true_and, and_false, false_and, and_self, or_self, if_true, if_false, Bool.true_eq_false, Bool.false_eq_true, reduceIte, Classical.not_not, Bool.and_eq_true, decide_eq_true_eq]
    repeat (first | rw [if_pos (by omega)] | rw [if_neg (by omega)])
    all_goals first | rfl | (exfalso; omega)
   | false =>
    have h3 := of_decide_eq_false h3
    refine Jq 4 [18, 1] 1 ⟨[(18, vB (decide ((9 : Int) < x.client))), (1, .p 0 0)], [⟨92, x.cs⟩]⟩ (Ln (Qn ?_))
    cases h4 : decide ((9 : Int) < x.client) with
    | true =>
     have h4 := of_decide_eq_true h4
     refine Ci true rfl (Cs (Cg (Jq 1 [2] 0 ⟨[(2, vI 2)], []⟩ (Ln (Qn (Cr (Qr (Rt (.inl rfl) [vI 2] rfl (fun bs w hS => (⟨?_, hS.kp⟩))))))))))
     simp only [retOf, den, List.map_cons, List.map_nil]
     unfold mCmd
     try simp only [h1, h2, h3, h4, emp_size, ne_eq, not_true_eq_false, not_false_eq_true, true_or, or_true, false_or, or_false, and_true, true_and, and_false, false_and, and_self, or_self, if_true, if_false, Bool.true_eq_false, Bool.false_eq_true, reduceIte, Classical.not_not, Bool.and_eq_true, decide_eq_true_eq]
     repeat (first | rw [if_pos (by omega)] | rw [if_neg (by omega)])
     all_goals first | rfl | (exfalso; omega)
    | false =>
     have h4 := of_decide_eq_false h4
     refine Ci false rfl (Ck (Qn (Cs (Cs (Cg (Jq 3 [21, 1] 1 ⟨[(21, vB (!(decide (x.kind = 2)))), (1, .p 0 0)], [⟨92, x.cs⟩]⟩ (Ln (Qn ?_))))))))
     cases h5 : decide (x.kind = 2) with
     | true =>
      have h5 := of_decide_eq_true h5
      refine Ci false rfl (Ck (Qn (Cs (Cs (Cg (Jq 4 [44, 1] 1 ⟨[(44, vB (decide (x.session < 1))), (1, .p 0 0)], [⟨92, x.cs⟩]⟩ ?_))))))
      cases h6 : decide (x.session < 1) with
      | true =>
       have h6 := of_decide_eq_true h6
       refine Jq 26 [70, 1] 1 ⟨[(70, vB true), (1, .p 0 0)], [⟨92, x.cs⟩]⟩ (Ln (Qn (Ci true rfl (Cs (Cg (Jq 1 [2] 0 ⟨[(2, vI 2)], []⟩ (Ln (Qn (Cr (Qr (Rt (.inl rfl) [vI 2] rfl (fun bs w hS => (⟨?_, hS.kp⟩)))))))))))))
       simp only [retOf, den, List.map_cons, List.map_nil]
       unfold mCmd
       try simp only [h1, h2, h3, h4, h5, h6, emp_size, ne_eq, not_true_eq_false, not_false_eq_true, true_or, or_true, false_or, or_false, and_true, true_and, and_false, false_and, and_self, or_self, if_true, if_false, Bool.true_eq_false, Bool.false_eq_true, reduceIte, Classical.not_not, Bool.and_eq_true, decide_eq_true_eq]
       repeat (first | rw [if_pos (by omega)] | rw [if_neg (by omega)])
       all_goals first | rfl | (exfalso; omega)
      | false =>
       have h6 := of_decide_eq_false h6
       refine Jq 5 [49, 1] 1 ⟨[(49, vB (decide ((1073741824 : Int) < x.session))), (1, .p 0 0)], [⟨92, x.cs⟩]⟩ ?_
       cases h7 : decide ((1073741824 : Int) < x.session) with
       | true =>
        have h7 := of_decide_eq_true h7
        refine Jq 21 [70, 1] 1 ⟨[(70, vB true), (1, .p 0 0)], [⟨92, x.cs⟩]⟩ (Ln (Qn (Ci true rfl (Cs (Cg (Jq 1 [2] 0 ⟨[(2, vI 2)], []⟩ (Ln (Qn (Cr (Qr (Rt (.inl rfl) [vI 2] rfl (fun bs w hS => (⟨?_, hS.kp⟩)))))))))))))
        simp only [retOf, den, List.map_cons, List.map_nil]
        unfold mCmd
        try simp only [h1, h2, h3, h4, h5, h6, h7, emp_size, ne_eq, not_true_eq_false, not_false_eq_true, true_or, or_true, false_or, or_false, and_true, true_and, and_false, false_and, and_self, or_self, if_true, if_false, Bool.true_eq_false, Bool.false_eq_true, reduceIte, Classical.not_not, Bool.and_eq_true, decide_eq_true_eq]
        repeat (first | rw [if_pos (by omega)] | rw [if_neg (by omega)])
        all_goals first | rfl | (exfalso; omega)
       | false =>
        have h7 := of_decide_eq_false h7
        refine Jq 5 [54, 1] 1 ⟨[(54, vB (decide (x.seq < 1))), (1, .p 0 0)], [⟨92, x.cs⟩]⟩ ?_
        cases h8 : decide (x.seq < 1) with
        | true =>
         have h8 := of_decide_eq_true h8
         refine Jq 16 [70, 1] 1 ⟨[(70, vB true), (1, .p 0 0)], [⟨92, x.cs⟩]⟩ (Ln (Qn (Ci true rfl (Cs (Cg (Jq 1 [2] 0 ⟨[(2, vI 2)], []⟩ (Ln (Qn (Cr (Qr (Rt (.inl rfl) [vI 2] rfl (fun bs w hS => (⟨?_, hS.kp⟩)))))))))))))
         simp only [retOf, den, List.map_cons, List.map_nil]
         unfold mCmd
         try simp only [h1, h2, h3, h4, h5, h6, h7, h8, emp_size, ne_eq, not_true_eq_false, not_false_eq_true, true_or, or_true, false_or, or_false, and_true, true_and, and_false, false_and, and_self, or_self, if_true, if_false, Bool.true_eq_false, Bool.false_eq_true, reduceIte, Classical.not_not, Bool.and_eq_true, decide_eq_true_eq]
         repeat (first | rw [if_pos (by omega)] | rw [if_neg (by omega)])
         all_goals first | rfl | (exfalso; omega)
        | false =>
         have h8 := of_decide_eq_false h8
         refine Jq 5 [59, 1] 1 ⟨[(59, vB (decide ((1048576 : Int) < x.seq))), (1, .p 0 0)], [⟨92, x.cs⟩]⟩ ?_
         cases h9 : decide ((1048576 : Int) < x.seq) with
         | true =>
          have h9 := of_decide_eq_true h9
          refine Jq 11 [70, 1] 1 ⟨[(70, vB true), (1, .p 0 0)], [⟨92, x.cs⟩]⟩ (Ln (Qn (Ci true rfl (Cs (Cg (Jq 1 [2] 0 ⟨[(2, vI 2)], []⟩ (Ln (Qn (Cr (Qr (Rt (.inl rfl) [vI 2] rfl (fun bs w hS => (⟨?_, hS.kp⟩)))))))))))))
          simp only [retOf, den, List.map_cons, List.map_nil]
          unfold mCmd
          try simp only [h1, h2, h3, h4, h5, h6, h7, h8, h9, emp_size, ne_eq, not_true_eq_false, not_false_eq_true, true_or, or_true, false_or, or_false, and_true, true_and, and_false, false_and, and_self, or_self, if_true, if_false, Bool.true_eq_false, Bool.false_eq_true, reduceIte, Classical.not_not, Bool.and_eq_true, decide_eq_true_eq]
          repeat (first | rw [if_pos (by omega)] | rw [if_neg (by omega)])
          all_goals first | rfl | (exfalso; omega)
         | false =>
          have h9 := of_decide_eq_false h9
          refine Jq 5 [64, 1] 1 ⟨[(64, vB (decide (x.acked < 0))), (1, .p 0 0)], [⟨92, x.cs⟩]⟩ ?_
          cases h10 : decide (x.acked < 0) with
          | true =>
           have h10 := of_decide_eq_true h10
           refine Jq 6 [70, 1] 1 ⟨[(70, vB true), (1, .p 0 0)], [⟨92, x.cs⟩]⟩ (Ln (Qn (Ci true rfl (Cs (Cg (Jq 1 [2] 0 ⟨[(2, vI 2)], []⟩ (Ln (Qn (Cr (Qr (Rt (.inl rfl) [vI 2] rfl (fun bs w hS => (⟨?_, hS.kp⟩)))))))))))))
           simp only [retOf, den, List.map_cons, List.map_nil]
           unfold mCmd
           try simp only [h1, h2, h3, h4, h5, h6, h7, h8, h9, h10, emp_size, ne_eq, not_true_eq_false, not_false_eq_true, true_or, or_true, false_or, or_false, and_true, true_and, and_false, false_and, and_self, or_self, if_true, if_false, Bool.true_eq_false, Bool.false_eq_true, reduceIte, Classical.not_not, Bool.and_eq_true, decide_eq_true_eq]
           repeat (first | rw [if_pos (by omega)] | rw [if_neg (by omega)])
           all_goals first | rfl | (exfalso; omega)
          | false =>
           have h10 := of_decide_eq_false h10
           refine Jq 6 [70, 1] 1 ⟨[(70, vB (decide (x.seq ≤ x.acked))), (1, .p 0 0)], [⟨92, x.cs⟩]⟩ (Ln (Qn ?_))
           cases h11 : decide (x.seq ≤ x.acked) with
           | true =>
            have h11 := of_decide_eq_true h11
            refine Ci true rfl (Cs (Cg (Jq 1 [2] 0 ⟨[(2, vI 2)], []⟩ (Ln (Qn (Cr (Qr (Rt (.inl rfl) [vI 2] rfl (fun bs w hS => (⟨?_, hS.kp⟩))))))))))
            simp only [retOf, den, List.map_cons, List.map_nil]
            unfold mCmd
            try simp only [h1, h2, h3, h4, h5, h6, h7, h8, h9, h10, h11, emp_size, ne_eq, not_true_eq_false, not_false_eq_true, true_or, or_true, false_or, or_false, and_true, true_and, and_false, false_and, and_self, or_self, if_true, if_false, Bool.true_eq_false, Bool.false_eq_true, reduceIte, Classical.not_not, Bool.and_eq_true, decide_eq_true_eq]
            repeat (first | rw [if_pos (by omega)] | rw [if_neg (by omega)])
            all_goals first | rfl | (exfalso; omega)
           | false =>
            have h11 := of_decide_eq_false h11
            refine Ci false rfl (Ck (Qn (Cs (Cg (Jq 2 [72] 0 ⟨[(72, .v x.op.val)], []⟩ (Lp 91 [] [.v x.op.val] (.int .i64 (mOp x.op)) Try.call91 rfl rfl rfl rfl (fun bs w hS => command_CheckOp (B := anyB) x.op w ⟨(And.left okx), (And.right okx)⟩) (Jq 1 [2] 0 ⟨[(2, vI (mOp x.op))], []⟩ (Ln (Qn (Cr (Rt (.inl rfl) [vI (mOp x.op)] rfl (fun bs w hS => (⟨?_, hS.kp⟩)))))))))))))
            simp only [retOf, den, List.map_cons, List.map_nil]
            unfold mCmd
            try simp only [h1, h2, h3, h4, h5, h6, h7, h8, h9, h10, h11, emp_size, ne_eq, not_true_eq_false, not_false_eq_true, true_or, or_true, false_or, or_false, and_true, true_and, and_false, false_and, and_self, or_self, if_true, if_false, Bool.true_eq_false, Bool.false_eq_true, reduceIte, Classical.not_not, Bool.and_eq_true, decide_eq_true_eq]
            repeat (first | rw [if_pos (by omega)] | rw [if_neg (by omega)])
            all_goals first | rfl | (exfalso; omega)
     | false =>
      have h5 := of_decide_eq_false h5
      refine Ci true rfl (Cs (Cs (Cg (Jq 4 [25, 1] 1 ⟨[(25, vB (!(decide (x.session = 0)))), (1, .p 0 0)], [⟨92, x.cs⟩]⟩ ?_))))
      cases h12 : decide (x.session = 0) with
      | true =>
       have h12 := of_decide_eq_true h12
       refine Jq 5 [30, 1] 1 ⟨[(30, vB (!(decide (x.seq = 0)))), (1, .p 0 0)], [⟨92, x.cs⟩]⟩ ?_
       cases h13 : decide (x.seq = 0) with
       | true =>
        have h13 := of_decide_eq_true h13
        refine Jq 5 [35, 1] 1 ⟨[(35, vB (!(decide (x.acked = 0)))), (1, .p 0 0)], [⟨92, x.cs⟩]⟩ ?_
        cases h14 : decide (x.acked = 0) with
        | true =>
         have h14 := of_decide_eq_true h14
         refine Jr 5 [(3, .val (.bool (!((decide (x.op.kind = 0)) && ((decide (x.op.a = emp)) && ((decide (x.op.b = emp)) && ((decide (x.op.n = 0)) && true)))))))] [40] 0 ⟨[(40, vB (!((decide (x.op.kind = 0)) && ((decide (x.op.a = emp)) && ((decide (x.op.b = emp)) && ((decide (x.op.n = 0)) && true))))))], []⟩ [∀ w, (do eqGuard .neq 90 (.tmp 37) (.tmp 38) x.op.val (.agg #[.int .i64 0, .string emp, .string emp, .int .i64 0]); binOp .neq 90 x.op.val (.agg #[.int .i64 0, .string emp, .string emp, .int .i64 0]) : Sem Value).run Try.prog w = .ok (.bool (!((decide (x.op.kind = 0)) && ((decide (x.op.a = emp)) && ((decide (x.op.b = emp)) && ((decide (x.op.n = 0)) && true)))))) w] [] (by kernel_rfl) (oc (neq_agg (by kernel_rfl) (by kernel_rfl)) on) wn ?_
         refine Ln (Qn ?_)
         cases h15 : (decide (x.op.kind = 0)) && ((decide (x.op.a = emp)) && ((decide (x.op.b = emp)) && ((decide (x.op.n = 0)) && true))) with
         | true =>
          simp only [Bool.and_eq_true, decide_eq_true_eq, and_true] at h15
          refine Ci false rfl (Ck (Qn (Cs (Cg (Jq 1 [2] 0 ⟨[(2, vI 0)], []⟩ (Ln (Qn (Cr (Qr (Rt (.inl rfl) [vI 0] rfl (fun bs w hS => (⟨?_, hS.kp⟩))))))))))))
          simp only [retOf, den, List.map_cons, List.map_nil]
          unfold mCmd
          try simp only [h1, h2, h3, h4, h5, h12, h13, h14, h15, emp_size, ne_eq, not_true_eq_false, not_false_eq_true, true_or, or_true, false_or, or_false, and_true, true_and, and_false, false_and, and_self, or_self, if_true, if_false, Bool.true_eq_false, Bool.false_eq_true, reduceIte, Classical.not_not, Bool.and_eq_true, decide_eq_true_eq]
          repeat (first | rw [if_pos (by omega)] | rw [if_neg (by omega)])
          all_goals first | rfl | (exfalso; omega)
         | false =>
          rw [Bool.eq_false_iff] at h15
          simp only [ne_eq, Bool.and_eq_true, decide_eq_true_eq, and_true] at h15
          refine Ci true rfl (Cs (Cg (Jq 1 [2] 0 ⟨[(2, vI 4)], []⟩ (Ln (Qn (Cr (Qr (Qr (Rt (.inl rfl) [vI 4] rfl (fun bs w hS => (⟨?_, hS.kp⟩)))))))))))
          simp only [retOf, den, List.map_cons, List.map_nil]
          unfold mCmd
          try simp only [h1, h2, h3, h4, h5, h12, h13, h14, h15, emp_size, ne_eq, not_true_eq_false, not_false_eq_true, true_or, or_true, false_or, or_false, and_true, true_and, and_false, false_and, and_self, or_self, if_true, if_false, Bool.true_eq_false, Bool.false_eq_true, reduceIte, Classical.not_not, Bool.and_eq_true, decide_eq_true_eq]
          repeat (first | rw [if_pos (by omega)] | rw [if_neg (by omega)])
          all_goals first | rfl | (exfalso; omega)
        | false =>
         have h14 := of_decide_eq_false h14
         refine Jq 5 [40] 0 ⟨[(40, vB true)], []⟩ (Ln (Qn (Ci true rfl (Cs (Cg (Jq 1 [2] 0 ⟨[(2, vI 4)], []⟩ (Ln (Qn (Cr (Qr (Qr (Rt (.inl rfl) [vI 4] rfl (fun bs w hS => (⟨?_, hS.kp⟩))))))))))))))
         simp only [retOf, den, List.map_cons, List.map_nil]
         unfold mCmd
         try simp only [h1, h2, h3, h4, h5, h12, h13, h14, emp_size, ne_eq, not_true_eq_false, not_false_eq_true, true_or, or_true, false_or, or_false, and_true, true_and, and_false, false_and, and_self, or_self, if_true, if_false, Bool.true_eq_false, Bool.false_eq_true, reduceIte, Classical.not_not, Bool.and_eq_true, decide_eq_true_eq]
         repeat (first | rw [if_pos (by omega)] | rw [if_neg (by omega)])
         all_goals first | rfl | (exfalso; omega)
       | false =>
        have h13 := of_decide_eq_false h13
        refine Jq 10 [40] 0 ⟨[(40, vB true)], []⟩ (Ln (Qn (Ci true rfl (Cs (Cg (Jq 1 [2] 0 ⟨[(2, vI 4)], []⟩ (Ln (Qn (Cr (Qr (Qr (Rt (.inl rfl) [vI 4] rfl (fun bs w hS => (⟨?_, hS.kp⟩))))))))))))))
        simp only [retOf, den, List.map_cons, List.map_nil]
        unfold mCmd
        try simp only [h1, h2, h3, h4, h5, h12, h13, emp_size, ne_eq, not_true_eq_false, not_false_eq_true, true_or, or_true, false_or, or_false, and_true, true_and, and_false, false_and, and_self, or_self, if_true, if_false, Bool.true_eq_false, Bool.false_eq_true, reduceIte, Classical.not_not, Bool.and_eq_true, decide_eq_true_eq]
        repeat (first | rw [if_pos (by omega)] | rw [if_neg (by omega)])
        all_goals first | rfl | (exfalso; omega)
      | false =>
       have h12 := of_decide_eq_false h12
       refine Jq 15 [40] 0 ⟨[(40, vB true)], []⟩ (Ln (Qn (Ci true rfl (Cs (Cg (Jq 1 [2] 0 ⟨[(2, vI 4)], []⟩ (Ln (Qn (Cr (Qr (Qr (Rt (.inl rfl) [vI 4] rfl (fun bs w hS => (⟨?_, hS.kp⟩))))))))))))))
       simp only [retOf, den, List.map_cons, List.map_nil]
       unfold mCmd
       try simp only [h1, h2, h3, h4, h5, h12, emp_size, ne_eq, not_true_eq_false, not_false_eq_true, true_or, or_true, false_or, or_false, and_true, true_and, and_false, false_and, and_self, or_self, if_true, if_false, Bool.true_eq_false, Bool.false_eq_true, reduceIte, Classical.not_not, Bool.and_eq_true, decide_eq_true_eq]
       repeat (first | rw [if_pos (by omega)] | rw [if_neg (by omega)])
       all_goals first | rfl | (exfalso; omega)

theorem ref_CommandFault {B : Nat → Prop} (x : DCommand) (w : World) (hx : Rds.sub B w x) : Calls Try.prog 77 #[.agg #[.int .i64 x.kind, .int .i64 x.client, .int .i64 x.session, .int .i64 x.seq, .int .i64 x.acked, .int .i64 x.op.kind, .string x.op.a, .string x.op.b, .int .i64 x.op.n]] w fun e w' => e = .returned (.int .i64 (mCmd x)) ∧ Kp [] w w' := by
 have okx := Rds.okof hx
 refine calls_J0 73 Try.func77 rfl rfl [.agg #[.int .i64 x.kind, .int .i64 x.client, .int .i64 x.session, .int .i64 x.seq, .int .i64 x.acked, .int .i64 x.op.kind, .string x.op.a, .string x.op.b, .int .i64 x.op.n]] rfl ?_
 refine Cs (Cg (Jq 2 [1] 1 ⟨[(1, .p 0 0)], [⟨92, x.cs⟩]⟩ (Ln (Qn (Cs (Cs (Cg (Jq 2 [4, 1] 1 ⟨[(4, vI x.kind), (1, .p 0 0)], [⟨92, x.cs⟩]⟩ (Lp 41 [] [vI x.kind, vI 1, vI 3] (.bool (inB x.kind 1 3)) Try.call41 rfl rfl rfl rfl (fun bs w hS => ref_In _ _ _ w) (Jq 1 [6, 1] 1 ⟨[(6, vB (!(inB x.kind 1 3))), (1, .p 0 0)], [⟨92, x.cs⟩]⟩ (Ln (Qn ?_))))))))))))
 cases h1 : inB x.kind 1 3 with
 | true =>
  simp only [inB, Bool.and_eq_true, Bool.and_eq_false_iff, decide_eq_true_eq, decide_eq_false_iff_not] at h1
  refine Ci false rfl (Ck (Qn (Cs (Cs (Cg (Jq 2 [8, 1] 1 ⟨[(8, vI x.client), (1, .p 0 0)], [⟨92, x.cs⟩]⟩ (Lp 41 [] [vI x.client, vI 1, vI 9] (.bool (inB x.client 1 9)) Try.call41 rfl rfl rfl rfl (fun bs w hS => ref_In _ _ _ w) (Jq 1 [10, 1] 1 ⟨[(10, vB (!(inB x.client 1 9))), (1, .p 0 0)], [⟨92, x.cs⟩]⟩ (Ln (Qn ?_))))))))))
  cases h2 : inB x.client 1 9 with
  | true =>
   simp only [inB, Bool.and_eq_true, Bool.and_eq_false_iff, decide_eq_true_eq, decide_eq_false_iff_not] at h2
   refine Ci false rfl (Ck (Qn (Cs (Cs (Cg (Jq 3 [13, 1] 1 ⟨[(13, vB (decide (x.kind = 2))), (1, .p 0 0)], [⟨92, x.cs⟩]⟩ (Ln (Qn ?_))))))))
   cases h3 : decide (x.kind = 2) with
   | true =>
    have h3 := of_decide_eq_true h3
    refine Ci true rfl (Cs (Cs (Cg (Jq 2 [15, 1] 1 ⟨[(15, vI x.session), (1, .p 0 0)], [⟨92, x.cs⟩]⟩ (Lp 41 [] [vI x.session, vI 1, vI 1073741824] (.bool (inB x.session 1 1073741824)) Try.call41 rfl rfl rfl rfl (fun bs w hS => ref_In _ _ _ w) (Jq 2 [18, 1] 1 ⟨[(18, vB (!(inB x.session 1 1073741824))), (1, .p 0 0)], [⟨92, x.cs⟩]⟩ ?_))))))
    cases h4 : inB x.session 1 1073741824 with
    | true =>
     simp only [inB, Bool.and_eq_true, Bool.and_eq_false_iff, decide_eq_true_eq, decide_eq_false_iff_not] at h4
     refine Jq 2 [20, 18, 1] 1 ⟨[(20, vI x.seq), (18, vB false), (1, .p 0 0)], [⟨92, x.cs⟩]⟩ (Lp 41 [] [vI x.seq, vI 1, vI 1048576] (.bool (inB x.seq 1 1048576)) Try.call41 rfl rfl rfl rfl (fun bs w hS => ref_In _ _ _ w) (Jq 3 [24, 1] 1 ⟨[(24, vB (!(inB x.seq 1 1048576))), (1, .p 0 0)], [⟨92, x.cs⟩]⟩ ?_))
     cases h5 : inB x.seq 1 1048576 with
     | true =>
      simp only [inB, Bool.and_eq_true, Bool.and_eq_false_iff, decide_eq_true_eq, decide_eq_false_iff_not] at h5
      refine Jr 5 [] [29, 26, 24, 1] 1 ⟨[(29, vI (x.seq - 1)), (26, vI x.acked), (24, vB false), (1, .p 0 0)], [⟨92, x.cs⟩]⟩ [inR (x.seq - 1)] [] (by kernel_rfl) (oc (by unfold inR; omega) on) wn ?_
      refine Lp 41 [] [vI x.acked, vI 0, vI (x.seq - 1)] (.bool (inB x.acked 0 (x.seq - 1))) Try.call41 rfl rfl rfl rfl (fun bs w hS => ref_In _ _ _ w) ?_
      refine Jq 2 [32, 1] 1 ⟨[(32, vB (!(inB x.acked 0 (x.seq - 1)))), (1, .p 0 0)], [⟨92, x.cs⟩]⟩ (Ln (Qn ?_))
      cases h6 : inB x.acked 0 (x.seq - 1) with
      | true =>
       simp only [inB, Bool.and_eq_true, Bool.and_eq_false_iff, decide_eq_true_eq, decide_eq_false_iff_not] at h6
       refine Ci false rfl (Ck (Qn (Cs (Cg (Jq 2 [34] 0 ⟨[(34, .v x.op.val)], []⟩ (Lp 94 [] [.v x.op.val] (.int .i64 (mOp x.op)) Try.call94 rfl rfl rfl rfl (fun bs w hS => ref_OpFault (B := anyB) x.op w ⟨(And.left okx), (And.right okx)⟩) (Jq 1 [2] 0 ⟨[(2, vI (mOp x.op))], []⟩ (Ln (Qn (Cr (Qr (Rt (.inl rfl) [vI (mOp x.op)] rfl (fun bs w hS => (⟨?_, hS.kp⟩))))))))))))))
       simp only [retOf, den, List.map_cons, List.map_nil]
       unfold mCmd
       try simp only [h1, h2, h3, h4, h5, h6, emp_size, ne_eq, not_true_eq_false, not_false_eq_true, true_or, or_true, false_or, or_false, and_true, true_and, and_false, false_and, and_self, or_self, if_true, if_false, Bool.true_eq_false, Bool.false_eq_true, reduceIte, Classical.not_not, Bool.and_eq_true, decide_eq_true_eq]
       repeat (first | rw [if_pos (by omega)] | rw [if_neg (by omega)])
       all_goals first | rfl | (exfalso; omega)
      | false =>
       simp only [inB, Bool.and_eq_true, Bool.and_eq_false_iff, decide_eq_true_eq, decide_eq_false_iff_not] at h6
       refine Ci true rfl (Cs (Cg (Jq 1 [2] 0 ⟨[(2, vI 2)], []⟩ (Ln (Qn (Cr (Qr (Qr (Rt (.inl rfl) [vI 2] rfl (fun bs w hS => (⟨?_, hS.kp⟩)))))))))))
       simp only [retOf, den, List.map_cons, List.map_nil]
       unfold mCmd
       try simp only [h1, h2, h3, h4, h5, h6, emp_size, ne_eq, not_true_eq_false, not_false_eq_true, true_or, or_true, false_or, or_false, and_true, true_and, and_false, false_and, and_self, or_self, if_true, if_false, Bool.true_eq_false, Bool.false_eq_true, reduceIte, Classical.not_not, Bool.and_eq_true, decide_eq_true_eq]
       repeat (first | rw [if_pos (by omega)] | rw [if_neg (by omega)])
       all_goals first | rfl | (exfalso; omega)
     | false =>
      simp only [inB, Bool.and_eq_true, Bool.and_eq_false_iff, decide_eq_true_eq, decide_eq_false_iff_not] at h5
      refine Jq 8 [32, 1] 1 ⟨[(32, vB true), (1, .p 0 0)], [⟨92, x.cs⟩]⟩ (Ln (Qn (Ci true rfl (Cs (Cg (Jq 1 [2] 0 ⟨[(2, vI 2)], []⟩ (Ln (Qn (Cr (Qr (Qr (Rt (.inl rfl) [vI 2] rfl (fun bs w hS => (⟨?_, hS.kp⟩))))))))))))))
      simp only [retOf, den, List.map_cons, List.map_nil]
      unfold mCmd
      try simp only [h1, h2, h3, h4, h5, emp_size, ne_eq, not_true_eq_false, not_false_eq_true, true_or, or_true, false_or, or_false, and_true, true_and, and_false, false_and, and_self, or_self, if_true, if_false, Bool.true_eq_false, Bool.false_eq_true, reduceIte, Classical.not_not, Bool.and_eq_true, decide_eq_true_eq]
      repeat (first | rw [if_pos (by omega)] | rw [if_neg (by omega)])
      all_goals first | rfl | (exfalso; omega)
    | false =>
     simp only [inB, Bool.and_eq_true, Bool.and_eq_false_iff, decide_eq_true_eq, decide_eq_false_iff_not] at h4
     refine Jq 14 [32, 1] 1 ⟨[(32, vB true), (1, .p 0 0)], [⟨92, x.cs⟩]⟩ (Ln (Qn (Ci true rfl (Cs (Cg (Jq 1 [2] 0 ⟨[(2, vI 2)], []⟩ (Ln (Qn (Cr (Qr (Qr (Rt (.inl rfl) [vI 2] rfl (fun bs w hS => (⟨?_, hS.kp⟩))))))))))))))
     simp only [retOf, den, List.map_cons, List.map_nil]
     unfold mCmd
     try simp only [h1, h2, h3, h4, emp_size, ne_eq, not_true_eq_false, not_false_eq_true, true_or, or_true, false_or, or_false, and_true, true_and, and_false, false_and, and_self, or_self, if_true, if_false, Bool.true_eq_false, Bool.false_eq_true, reduceIte, Classical.not_not, Bool.and_eq_true, decide_eq_true_eq]
     repeat (first | rw [if_pos (by omega)] | rw [if_neg (by omega)])
     all_goals first | rfl | (exfalso; omega)
   | false =>
    have h3 := of_decide_eq_false h3
    refine Ci false rfl (Ck (Qn (Cs (Cs (Cg (Jq 4 [39, 1] 1 ⟨[(39, vB (!(decide (x.session = 0)))), (1, .p 0 0)], [⟨92, x.cs⟩]⟩ ?_))))))
    cases h7 : decide (x.session = 0) with
    | true =>
     have h7 := of_decide_eq_true h7
     refine Jq 5 [44, 1] 1 ⟨[(44, vB (!(decide (x.seq = 0)))), (1, .p 0 0)], [⟨92, x.cs⟩]⟩ ?_
     cases h8 : decide (x.seq = 0) with
     | true =>
      have h8 := of_decide_eq_true h8
      refine Jq 5 [49, 1] 1 ⟨[(49, vB (!(decide (x.acked = 0)))), (1, .p 0 0)], [⟨92, x.cs⟩]⟩ ?_
      cases h9 : decide (x.acked = 0) with
      | true =>
       have h9 := of_decide_eq_true h9
       refine Jq 6 [55, 1] 1 ⟨[(55, vB (!(decide (x.op.kind = 0)))), (1, .p 0 0)], [⟨92, x.cs⟩]⟩ ?_
       cases h10 : decide (x.op.kind = 0) with
       | true =>
        have h10 := of_decide_eq_true h10
        refine Jq 6 [61, 1] 1 ⟨[(61, vB (!(decide (x.op.a = emp)))), (1, .p 0 0)], [⟨92, x.cs⟩]⟩ ?_
        cases h11 : decide (x.op.a = emp) with
        | true =>
         have h11 := of_decide_eq_true h11
         have hzh11 : x.op.a.size = 0 := by rw [h11]; rfl
         refine Jq 6 [67, 1] 1 ⟨[(67, vB (!(decide (x.op.b = emp)))), (1, .p 0 0)], [⟨92, x.cs⟩]⟩ ?_
         cases h12 : decide (x.op.b = emp) with
         | true =>
          have h12 := of_decide_eq_true h12
          have hzh12 : x.op.b.size = 0 := by rw [h12]; rfl
          refine Jq 5 [72] 0 ⟨[(72, vB (!(decide (x.op.n = 0))))], []⟩ (Ln (Qn ?_))
          cases h13 : decide (x.op.n = 0) with
          | true =>
           have h13 := of_decide_eq_true h13
           refine Ci false rfl (Ck (Qn (Cs (Cg (Jq 1 [2] 0 ⟨[(2, vI 0)], []⟩ (Ln (Qn (Cr (Rt (.inl rfl) [vI 0] rfl (fun bs w hS => (⟨?_, hS.kp⟩)))))))))))
           simp only [retOf, den, List.map_cons, List.map_nil]
           unfold mCmd
           try simp only [h1, h2, h3, h7, h8, h9, h10, h11, h12, h13, emp_size, ne_eq, not_true_eq_false, not_false_eq_true, true_or, or_true, false_or, or_false, and_true, true_and, and_false, false_and, and_self, or_self, if_true, if_false, Bool.true_eq_false, Bool.false_eq_true, reduceIte, Classical.not_not, Bool.and_eq_true, decide_eq_true_eq]
           repeat (first | rw [if_pos (by omega)] | rw [if_neg (by omega)])
           all_goals first | rfl | (exfalso; omega)
          | false =>
           have h13 := of_decide_eq_false h13
           refine Ci true rfl (Cs (Cg (Jq 1 [2] 0 ⟨[(2, vI 4)], []⟩ (Ln (Qn (Cr (Qr (Rt (.inl rfl) [vI 4] rfl (fun bs w hS => (⟨?_, hS.kp⟩))))))))))
           simp only [retOf, den, List.map_cons, List.map_nil]
           unfold mCmd
           try simp only [h1, h2, h3, h7, h8, h9, h10, h11, h12, h13, emp_size, ne_eq, not_true_eq_false, not_false_eq_true, true_or, or_true, false_or, or_false, and_true, true_and, and_false, false_and, and_self, or_self, if_true, if_false, Bool.true_eq_false, Bool.false_eq_true, reduceIte, Classical.not_not, Bool.and_eq_true, decide_eq_true_eq]
           repeat (first | rw [if_pos (by omega)] | rw [if_neg (by omega)])
           all_goals first | rfl | (exfalso; omega)
         | false =>
          have h12 := of_decide_eq_false h12
          refine Jq 5 [72] 0 ⟨[(72, vB true)], []⟩ (Ln (Qn (Ci true rfl (Cs (Cg (Jq 1 [2] 0 ⟨[(2, vI 4)], []⟩ (Ln (Qn (Cr (Qr (Rt (.inl rfl) [vI 4] rfl (fun bs w hS => (⟨?_, hS.kp⟩)))))))))))))
          simp only [retOf, den, List.map_cons, List.map_nil]
          unfold mCmd
          try simp only [h1, h2, h3, h7, h8, h9, h10, h11, h12, emp_size, ne_eq, not_true_eq_false, not_false_eq_true, true_or, or_true, false_or, or_false, and_true, true_and, and_false, false_and, and_self, or_self, if_true, if_false, Bool.true_eq_false, Bool.false_eq_true, reduceIte, Classical.not_not, Bool.and_eq_true, decide_eq_true_eq]
          repeat (first | rw [if_pos (by omega)] | rw [if_neg (by omega)])
          all_goals first | rfl | (exfalso; omega)
        | false =>
         have h11 := of_decide_eq_false h11
         refine Jq 11 [72] 0 ⟨[(72, vB true)], []⟩ (Ln (Qn (Ci true rfl (Cs (Cg (Jq 1 [2] 0 ⟨[(2, vI 4)], []⟩ (Ln (Qn (Cr (Qr (Rt (.inl rfl) [vI 4] rfl (fun bs w hS => (⟨?_, hS.kp⟩)))))))))))))
         simp only [retOf, den, List.map_cons, List.map_nil]
         unfold mCmd
         try simp only [h1, h2, h3, h7, h8, h9, h10, h11, emp_size, ne_eq, not_true_eq_false, not_false_eq_true, true_or, or_true, false_or, or_false, and_true, true_and, and_false, false_and, and_self, or_self, if_true, if_false, Bool.true_eq_false, Bool.false_eq_true, reduceIte, Classical.not_not, Bool.and_eq_true, decide_eq_true_eq]
         repeat (first | rw [if_pos (by omega)] | rw [if_neg (by omega)])
         all_goals first | rfl | (exfalso; omega)
       | false =>
        have h10 := of_decide_eq_false h10
        refine Jq 17 [72] 0 ⟨[(72, vB true)], []⟩ (Ln (Qn (Ci true rfl (Cs (Cg (Jq 1 [2] 0 ⟨[(2, vI 4)], []⟩ (Ln (Qn (Cr (Qr (Rt (.inl rfl) [vI 4] rfl (fun bs w hS => (⟨?_, hS.kp⟩)))))))))))))
        simp only [retOf, den, List.map_cons, List.map_nil]
        unfold mCmd
        try simp only [h1, h2, h3, h7, h8, h9, h10, emp_size, ne_eq, not_true_eq_false, not_false_eq_true, true_or, or_true, false_or, or_false, and_true, true_and, and_false, false_and, and_self, or_self, if_true, if_false, Bool.true_eq_false, Bool.false_eq_true, reduceIte, Classical.not_not, Bool.and_eq_true, decide_eq_true_eq]
        repeat (first | rw [if_pos (by omega)] | rw [if_neg (by omega)])
        all_goals first | rfl | (exfalso; omega)
      | false =>
       have h9 := of_decide_eq_false h9
       refine Jq 23 [72] 0 ⟨[(72, vB true)], []⟩ (Ln (Qn (Ci true rfl (Cs (Cg (Jq 1 [2] 0 ⟨[(2, vI 4)], []⟩ (Ln (Qn (Cr (Qr (Rt (.inl rfl) [vI 4] rfl (fun bs w hS => (⟨?_, hS.kp⟩)))))))))))))
       simp only [retOf, den, List.map_cons, List.map_nil]
       unfold mCmd
       try simp only [h1, h2, h3, h7, h8, h9, emp_size, ne_eq, not_true_eq_false, not_false_eq_true, true_or, or_true, false_or, or_false, and_true, true_and, and_false, false_and, and_self, or_self, if_true, if_false, Bool.true_eq_false, Bool.false_eq_true, reduceIte, Classical.not_not, Bool.and_eq_true, decide_eq_true_eq]
       repeat (first | rw [if_pos (by omega)] | rw [if_neg (by omega)])
       all_goals first | rfl | (exfalso; omega)
     | false =>
      have h8 := of_decide_eq_false h8
      refine Jq 28 [72] 0 ⟨[(72, vB true)], []⟩ (Ln (Qn (Ci true rfl (Cs (Cg (Jq 1 [2] 0 ⟨[(2, vI 4)], []⟩ (Ln (Qn (Cr (Qr (Rt (.inl rfl) [vI 4] rfl (fun bs w hS => (⟨?_, hS.kp⟩)))))))))))))
      simp only [retOf, den, List.map_cons, List.map_nil]
      unfold mCmd
      try simp only [h1, h2, h3, h7, h8, emp_size, ne_eq, not_true_eq_false, not_false_eq_true, true_or, or_true, false_or, or_false, and_true, true_and, and_false, false_and, and_self, or_self, if_true, if_false, Bool.true_eq_false, Bool.false_eq_true, reduceIte, Classical.not_not, Bool.and_eq_true, decide_eq_true_eq]
      repeat (first | rw [if_pos (by omega)] | rw [if_neg (by omega)])
      all_goals first | rfl | (exfalso; omega)
    | false =>
     have h7 := of_decide_eq_false h7
     refine Jq 33 [72] 0 ⟨[(72, vB true)], []⟩ (Ln (Qn (Ci true rfl (Cs (Cg (Jq 1 [2] 0 ⟨[(2, vI 4)], []⟩ (Ln (Qn (Cr (Qr (Rt (.inl rfl) [vI 4] rfl (fun bs w hS => (⟨?_, hS.kp⟩)))))))))))))
     simp only [retOf, den, List.map_cons, List.map_nil]
     unfold mCmd
     try simp only [h1, h2, h3, h7, emp_size, ne_eq, not_true_eq_false, not_false_eq_true, true_or, or_true, false_or, or_false, and_true, true_and, and_false, false_and, and_self, or_self, if_true, if_false, Bool.true_eq_false, Bool.false_eq_true, reduceIte, Classical.not_not, Bool.and_eq_true, decide_eq_true_eq]
     repeat (first | rw [if_pos (by omega)] | rw [if_neg (by omega)])
     all_goals first | rfl | (exfalso; omega)
  | false =>
   simp only [inB, Bool.and_eq_true, Bool.and_eq_false_iff, decide_eq_true_eq, decide_eq_false_iff_not] at h2
   refine Ci true rfl (Cs (Cg (Jq 1 [2] 0 ⟨[(2, vI 2)], []⟩ (Ln (Qn (Cr (Qr (Rt (.inl rfl) [vI 2] rfl (fun bs w hS => (⟨?_, hS.kp⟩))))))))))
   simp only [retOf, den, List.map_cons, List.map_nil]
   unfold mCmd
   try simp only [h1, h2, emp_size, ne_eq, not_true_eq_false, not_false_eq_true, true_or, or_true, false_or, or_false, and_true, true_and, and_false, false_and, and_self, or_self, if_true, if_false, Bool.true_eq_false, Bool.false_eq_true, reduceIte, Classical.not_not, Bool.and_eq_true, decide_eq_true_eq]
   repeat (first | rw [if_pos (by omega)] | rw [if_neg (by omega)])
   all_goals first | rfl | (exfalso; omega)
 | false =>
  simp only [inB, Bool.and_eq_true, Bool.and_eq_false_iff, decide_eq_true_eq, decide_eq_false_iff_not] at h1
  refine Ci true rfl (Cs (Cg (Jq 1 [2] 0 ⟨[(2, vI 3)], []⟩ (Ln (Qn (Cr (Qr (Rt (.inl rfl) [vI 3] rfl (fun bs w hS => (⟨?_, hS.kp⟩))))))))))
  simp only [retOf, den, List.map_cons, List.map_nil]
  unfold mCmd
  try simp only [h1, emp_size, ne_eq, not_true_eq_false, not_false_eq_true, true_or, or_true, false_or, or_false, and_true, true_and, and_false, false_and, and_self, or_self, if_true, if_false, Bool.true_eq_false, Bool.false_eq_true, reduceIte, Classical.not_not, Bool.and_eq_true, decide_eq_true_eq]
  repeat (first | rw [if_pos (by omega)] | rw [if_neg (by omega)])
  all_goals first | rfl | (exfalso; omega)

theorem command_body (c : DCommand) (b : Nat) (t : ByteArray) (w : World) (hb : (blkR b 92 [.int .i64 c.kind, .int .i64 c.client, .int .i64 c.session, .int .i64 c.seq, .int .i64 c.acked, .int .i64 c.op.kind, .string c.op.a, .string c.op.b, .int .i64 c.op.n]).p w) (ht : t.size ≤ 9223372036854775807) (hc : Rds.ok c) : Calls Try.prog 72 #[.pointer (some ⟨b, 0, none⟩), .string t] w fun e w' => ∃ y : DCommand, e = .returned (.tuple #[.string (mBody c t).2.1, .int .i64 (mBody c t).2.2]) ∧ (((mBody c t).2.2 = 0 → y = (mBody c t).1) ∧ Rds.ok y) ∧ Kp [b] w w' ∧ (blkR b 92 [.int .i64 y.kind, .int .i64 y.client, .int .i64 y.session, .int .i64 y.seq, .int .i64 y.acked, .int .i64 y.op.kind, .string y.op.a, .string y.op.b, .int .i64 y.op.n]).p w' := by
 refine Cj 74 (blkR b 92 [.int .i64 c.kind, .int .i64 c.client, .int .i64 c.session, .int .i64 c.seq, .int .i64 c.acked, .int .i64 c.op.kind, .string c.op.a, .string c.op.b, .int .i64 c.op.n]).fp Try.func72 rfl rfl [] [] [blkR b 92 [.int .i64 c.kind, .int .i64 c.client, .int .i64 c.session, .int .i64 c.seq, .int .i64 c.acked, .int .i64 c.op.kind, .string c.op.a, .string c.op.b, .int .i64 c.op.n]] [.v (.pointer (some (⟨b, 0, none⟩ : Addr))), vS t] [.pointer (some (⟨b, 0, none⟩ : Addr)), .string t] rfl rfl (WS.start1 w _ hb (by simp [blkR]) (blkR_lt hb)) ?_
 refine Cs (Cg (Jq 2 [0, 1] 0 ⟨[(0, .v (.pointer (some (⟨b, 0, none⟩ : Addr)))), (1, vS t)], []⟩ (Ln (Qn (Cs (Cs (Cd 20 [] (.p 0 (.p 1 (.p 2 (.p 3 (.p 4 (.p 5 (.p 6 (.p 7 (.p 8 (.p 9 (.p 10 (.p 11 (.p 12 (.p 13 (.p 14 (.p 15 (.p 16 (.p 19 (.b 17 (.p 18 .nil) .z))))))))))))))))))) [] [blkR b 92 [.int .i64 c.kind, .int .i64 c.client, .int .i64 c.session, .int .i64 c.seq, .int .i64 c.acked, .int .i64 c.op.kind, .string c.op.a, .string c.op.b, .int .i64 c.op.n]] Try_mixed (by kernel_rfl) (pq_then (pq_then pq_body)) (List.Sublist.refl _) (Hq [] [(0, true), (1, true), (2, true), (3, true), (4, true), (5, true), (6, true), (7, true), (8, true), (9, true), (10, true), (11, true), (12, true), (13, true), (14, true), (15, true), (16, true), (19, true)] [(31, vI 0), (28, .v (.pointer (some (((⟨b, 0, none⟩ : Addr).add 5).add 3)))), (27, .v (.pointer (some ((⟨b, 0, none⟩ : Addr).add 5)))), (26, .v (.pointer (some (⟨b, 0, none⟩ : Addr)))), (25, .v (.pointer (some (⟨b, 0, none⟩ : Addr)))), (24, .v (.pointer (some (((⟨b, 0, none⟩ : Addr).add 5).add 0)))), (23, .v (.pointer (some ((⟨b, 0, none⟩ : Addr).add 5)))), (22, .v (.pointer (some (⟨b, 0, none⟩ : Addr)))), (21, .v (.pointer (some (⟨b, 0, none⟩ : Addr)))), (20, .v (.pointer (some ((⟨b, 0, none⟩ : Addr).add 4)))), (19, .v (.pointer (some (⟨b, 0, none⟩ : Addr)))), (18, .v (.pointer (some (⟨b, 0, none⟩ : Addr)))), (17, .v (.pointer (some ((⟨b, 0, none⟩ : Addr).add 3)))), (16, .v (.pointer (some (⟨b, 0, none⟩ : Addr)))), (15, .v (.pointer (some (⟨b, 0, none⟩ : Addr)))), (14, .v (.pointer (some ((⟨b, 0, none⟩ : Addr).add 2)))), (13, .v (.pointer (some (⟨b, 0, none⟩ : Addr)))), (12, .v (.pointer (some (⟨b, 0, none⟩ : Addr)))), (0, .v (.pointer (some (⟨b, 0, none⟩ : Addr)))), (1, vS t)] [] [] rfl (by kernel_rfl) on wn (Hl ⟨[(29, .s 0 0 5 5), (31, vI 0), (28, .v (.pointer (some (((⟨b, 0, none⟩ : Addr).add 5).add 3)))), (27, .v (.pointer (some ((⟨b, 0, none⟩ : Addr).add 5)))), (26, .v (.pointer (some (⟨b, 0, none⟩ : Addr)))), (25, .v (.pointer (some (⟨b, 0, none⟩ : Addr)))), (24, .v (.pointer (some (((⟨b, 0, none⟩ : Addr).add 5).add 0)))), (23, .v (.pointer (some ((⟨b, 0, none⟩ : Addr).add 5)))), (22, .v (.pointer (some (⟨b, 0, none⟩ : Addr)))), (21, .v (.pointer (some (⟨b, 0, none⟩ : Addr)))), (20, .v (.pointer (some ((⟨b, 0, none⟩ : Addr).add 4)))), (19, .v (.pointer (some (⟨b, 0, none⟩ : Addr)))), (18, .v (.pointer (some (⟨b, 0, none⟩ : Addr)))), (17, .v (.pointer (some ((⟨b, 0, none⟩ : Addr).add 3)))), (16, .v (.pointer (some (⟨b, 0, none⟩ : Addr)))), (15, .v (.pointer (some (⟨b, 0, none⟩ : Addr)))), (14, .v (.pointer (some ((⟨b, 0, none⟩ : Addr).add 2)))), (13, .v (.pointer (some (⟨b, 0, none⟩ : Addr)))), (12, .v (.pointer (some (⟨b, 0, none⟩ : Addr)))), (0, .v (.pointer (some (⟨b, 0, none⟩ : Addr)))), (1, vS t)], [⟨125, [.v (.pointer (some ((⟨b, 0, none⟩ : Addr).add 2))), .v (.pointer (some ((⟨b, 0, none⟩ : Addr).add 3))), .v (.pointer (some ((⟨b, 0, none⟩ : Addr).add 4))), .v (.pointer (some (((⟨b, 0, none⟩ : Addr).add 5).add 0))), .v (.pointer (some (((⟨b, 0, none⟩ : Addr).add 5).add 3)))]⟩]⟩ (by kernel_rfl) (fun bs0 bs w hp hl hS => hS.down hp hl rfl le_nil (List.Sublist.refl _)) ?_)))))))))
 refine Hq [] [(18, true)] [(30, vI 5), (29, .s 0 0 5 5), (31, vI 0), (28, .v (.pointer (some (((⟨b, 0, none⟩ : Addr).add 5).add 3)))), (27, .v (.pointer (some ((⟨b, 0, none⟩ : Addr).add 5)))), (26, .v (.pointer (some (⟨b, 0, none⟩ : Addr)))), (25, .v (.pointer (some (⟨b, 0, none⟩ : Addr)))), (24, .v (.pointer (some (((⟨b, 0, none⟩ : Addr).add 5).add 0)))), (23, .v (.pointer (some ((⟨b, 0, none⟩ : Addr).add 5)))), (22, .v (.pointer (some (⟨b, 0, none⟩ : Addr)))), (21, .v (.pointer (some (⟨b, 0, none⟩ : Addr)))), (20, .v (.pointer (some ((⟨b, 0, none⟩ : Addr).add 4)))), (19, .v (.pointer (some (⟨b, 0, none⟩ : Addr)))), (18, .v (.pointer (some (⟨b, 0, none⟩ : Addr)))), (17, .v (.pointer (some ((⟨b, 0, none⟩ : Addr).add 3)))), (16, .v (.pointer (some (⟨b, 0, none⟩ : Addr)))), (15, .v (.pointer (some (⟨b, 0, none⟩ : Addr)))), (14, .v (.pointer (some ((⟨b, 0, none⟩ : Addr).add 2)))), (13, .v (.pointer (some (⟨b, 0, none⟩ : Addr)))), (12, .v (.pointer (some (⟨b, 0, none⟩ : Addr)))), (0, .v (.pointer (some (⟨b, 0, none⟩ : Addr)))), (1, vS t)] [] [] rfl (by kernel_rfl) on wn ?_
 refine Hn (Ln (Qn (Cb (c_unroll (n := 6) (Cs (Cg (Jq 1 [32, 30, 29, 31, 0, 1] 1 ⟨[(32, vB true), (30, vI 5), (29, .s 0 0 5 5), (31, vI 0), (0, .v (.pointer (some (⟨b, 0, none⟩ : Addr)))), (1, vS t)], [⟨125, [.v (.pointer (some ((⟨b, 0, none⟩ : Addr).add 2))), .v (.pointer (some ((⟨b, 0, none⟩ : Addr).add 3))), .v (.pointer (some ((⟨b, 0, none⟩ : Addr).add 4))), .v (.pointer (some (((⟨b, 0, none⟩ : Addr).add 5).add 0))), .v (.pointer (some (((⟨b, 0, none⟩ : Addr).add 5).add 3)))]⟩]⟩ (Ln (Qn (Cs (Ci true rfl (Ck (Qn (Cs (Cb (Cs (Cg (Jr 3 [(0, .idx default 0)] [7, 30, 29, 31, 0, 1] 1 ⟨[(7, .v (.pointer (some ((⟨b, 0, none⟩ : Addr).add 2)))), (30, vI 5), (29, .s 0 0 5 5), (31, vI 0), (0, .v (.pointer (some (⟨b, 0, none⟩ : Addr)))), (1, vS t)], [⟨125, [.v (.pointer (some ((⟨b, 0, none⟩ : Addr).add 2))), .v (.pointer (some ((⟨b, 0, none⟩ : Addr).add 3))), .v (.pointer (some ((⟨b, 0, none⟩ : Addr).add 4))), .v (.pointer (some (((⟨b, 0, none⟩ : Addr).add 5).add 0))), .v (.pointer (some (((⟨b, 0, none⟩ : Addr).add 5).add 3)))]⟩]⟩ [(0 : Int) = ((0 : Nat) : Int), 0 < 5] [] (by kernel_rfl) (oc rfl (oc (by omega) on)) wn (Ln (Qn (Cs (Cg (Jq 1 [7, 30, 29, 31, 0, 1] 1 ⟨[(7, .v (.pointer (some ((⟨b, 0, none⟩ : Addr).add 2)))), (30, vI 5), (29, .s 0 0 5 5), (31, vI 0), (0, .v (.pointer (some (⟨b, 0, none⟩ : Addr)))), (1, vS t)], [⟨125, [.v (.pointer (some ((⟨b, 0, none⟩ : Addr).add 2))), .v (.pointer (some ((⟨b, 0, none⟩ : Addr).add 3))), .v (.pointer (some ((⟨b, 0, none⟩ : Addr).add 4))), .v (.pointer (some (((⟨b, 0, none⟩ : Addr).add 5).add 0))), .v (.pointer (some (((⟨b, 0, none⟩ : Addr).add 5).add 3)))]⟩]⟩ (Ln (Qn (Cs (Cg (Jq 2 [37, 36, 30, 29, 31, 0] 1 ⟨[(37, vS t), (36, .v (.pointer (some ((⟨b, 0, none⟩ : Addr).add 2)))), (30, vI 5), (29, .s 0 0 5 5), (31, vI 0), (0, .v (.pointer (some (⟨b, 0, none⟩ : Addr))))], [⟨125, [.v (.pointer (some ((⟨b, 0, none⟩ : Addr).add 2))), .v (.pointer (some ((⟨b, 0, none⟩ : Addr).add 3))), .v (.pointer (some ((⟨b, 0, none⟩ : Addr).add 4))), .v (.pointer (some (((⟨b, 0, none⟩ : Addr).add 5).add 0))), .v (.pointer (some (((⟨b, 0, none⟩ : Addr).add 5).add 3)))]⟩]⟩ (Lp 86 [] [vS t] (.tuple #[.int .i64 (mRead t).1, .string (mRead t).2.1, .int .i64 (mRead t).2.2]) Try.call86 rfl rfl rfl rfl (fun bs w hS => codec_ReadNumber _ w (by first | assumption | omega | (simp only [emp_size]; omega))) ?_)))))))))))))))))))))))))))))
 have hzr1 := mRead_bd t
 generalize hr1 : mRead t = r1 at hzr1 ⊢
 refine Jq 5 [42, 41, 40, 39, 30, 29, 31, 0] 1 ⟨[(42, .v (.pointer (some ((⟨b, 0, none⟩ : Addr).add 2)))), (41, vI r1.2.2), (40, vS r1.2.1), (39, vI r1.1), (30, vI 5), (29, .s 0 0 5 5), (31, vI 0), (0, .v (.pointer (some (⟨b, 0, none⟩ : Addr))))], [⟨125, [.v (.pointer (some ((⟨b, 0, none⟩ : Addr).add 2))), .v (.pointer (some ((⟨b, 0, none⟩ : Addr).add 3))), .v (.pointer (some ((⟨b, 0, none⟩ : Addr).add 4))), .v (.pointer (some (((⟨b, 0, none⟩ : Addr).add 5).add 0))), .v (.pointer (some (((⟨b, 0, none⟩ : Addr).add 5).add 3)))]⟩]⟩ (l_storeB b 92 [.int .i64 c.kind, .int .i64 c.client, .int .i64 c.session, .int .i64 c.seq, .int .i64 c.acked, .int .i64 c.op.kind, .string c.op.a, .string c.op.b, .int .i64 c.op.n] 2 ((⟨b, 0, none⟩ : Addr).add 2) (vI r1.1) [vI r1.1] [.int .i64 r1.1] [.int .i64 c.kind, .int .i64 c.client, .int .i64 r1.1, .int .i64 c.seq, .int .i64 c.acked, .int .i64 c.op.kind, .string c.op.a, .string c.op.b, .int .i64 c.op.n] rfl rfl rfl rfl rfl (by kernel_rfl) (by kernel_rfl) rfl (by kernel_rfl) rfl rfl rfl (Jq 2 [8, 1, 30, 29, 31, 0] 1 ⟨[(8, vI r1.2.2), (1, vS r1.2.1), (30, vI 5), (29, .s 0 0 5 5), (31, vI 0), (0, .v (.pointer (some (⟨b, 0, none⟩ : Addr))))], [⟨125, [.v (.pointer (some ((⟨b, 0, none⟩ : Addr).add 2))), .v (.pointer (some ((⟨b, 0, none⟩ : Addr).add 3))), .v (.pointer (some ((⟨b, 0, none⟩ : Addr).add 4))), .v (.pointer (some (((⟨b, 0, none⟩ : Addr).add 5).add 0))), .v (.pointer (some (((⟨b, 0, none⟩ : Addr).add 5).add 3)))]⟩]⟩ (Ln (Qn (Cs (Cg (Jq 2 [44, 8, 1, 30, 29, 31, 0] 1 ⟨[(44, vB (!(decide (r1.2.2 = 0)))), (8, vI r1.2.2), (1, vS r1.2.1), (30, vI 5), (29, .s 0 0 5 5), (31, vI 0), (0, .v (.pointer (some (⟨b, 0, none⟩ : Addr))))], [⟨125, [.v (.pointer (some ((⟨b, 0, none⟩ : Addr).add 2))), .v (.pointer (some ((⟨b, 0, none⟩ : Addr).add 3))), .v (.pointer (some ((⟨b, 0, none⟩ : Addr).add 4))), .v (.pointer (some (((⟨b, 0, none⟩ : Addr).add 5).add 0))), .v (.pointer (some (((⟨b, 0, none⟩ : Addr).add 5).add 3)))]⟩]⟩ (Ln (Qn ?_)))))))))
 cases h1 : decide (r1.2.2 = 0) with
 | true =>
  have h1 := of_decide_eq_true h1
  refine Ci false rfl (Ck (q_block_normal (Qn (Cg (Jr 2 [] [31, 1, 30, 29, 0] 1 ⟨[(31, vI 1), (1, vS r1.2.1), (30, vI 5), (29, .s 0 0 5 5), (0, .v (.pointer (some (⟨b, 0, none⟩ : Addr))))], [⟨125, [.v (.pointer (some ((⟨b, 0, none⟩ : Addr).add 2))), .v (.pointer (some ((⟨b, 0, none⟩ : Addr).add 3))), .v (.pointer (some ((⟨b, 0, none⟩ : Addr).add 4))), .v (.pointer (some (((⟨b, 0, none⟩ : Addr).add 5).add 0))), .v (.pointer (some (((⟨b, 0, none⟩ : Addr).add 5).add 3)))]⟩]⟩ [inR (1)] [] (by kernel_rfl) (oc (by unfold inR; omega) on) wn (Ln (q_round (Cs (Cg (Jq 1 [32, 31, 1, 30, 29, 0] 1 ⟨[(32, vB true), (31, vI 1), (1, vS r1.2.1), (30, vI 5), (29, .s 0 0 5 5), (0, .v (.pointer (some (⟨b, 0, none⟩ : Addr))))], [⟨125, [.v (.pointer (some ((⟨b, 0, none⟩ : Addr).add 2))), .v (.pointer (some ((⟨b, 0, none⟩ : Addr).add 3))), .v (.pointer (some ((⟨b, 0, none⟩ : Addr).add 4))), .v (.pointer (some (((⟨b, 0, none⟩ : Addr).add 5).add 0))), .v (.pointer (some (((⟨b, 0, none⟩ : Addr).add 5).add 3)))]⟩]⟩ (Ln (Qn (Cs (Ci true rfl (Ck (Qn (Cs (Cb (Cs (Cg (Jr 3 [(0, .idx default 1)] [7, 31, 1, 30, 29, 0] 1 ⟨[(7, .v (.pointer (some ((⟨b, 0, none⟩ : Addr).add 3)))), (31, vI 1), (1, vS r1.2.1), (30, vI 5), (29, .s 0 0 5 5), (0, .v (.pointer (some (⟨b, 0, none⟩ : Addr))))], [⟨125, [.v (.pointer (some ((⟨b, 0, none⟩ : Addr).add 2))), .v (.pointer (some ((⟨b, 0, none⟩ : Addr).add 3))), .v (.pointer (some ((⟨b, 0, none⟩ : Addr).add 4))), .v (.pointer (some (((⟨b, 0, none⟩ : Addr).add 5).add 0))), .v (.pointer (some (((⟨b, 0, none⟩ : Addr).add 5).add 3)))]⟩]⟩ [(1 : Int) = ((1 : Nat) : Int), 1 < 5] [] (by kernel_rfl) (oc rfl (oc (by omega) on)) wn (Ln (Qn (Cs (Cg (Jq 1 [7, 31, 1, 30, 29, 0] 1 ⟨[(7, .v (.pointer (some ((⟨b, 0, none⟩ : Addr).add 3)))), (31, vI 1), (1, vS r1.2.1), (30, vI 5), (29, .s 0 0 5 5), (0, .v (.pointer (some (⟨b, 0, none⟩ : Addr))))], [⟨125, [.v (.pointer (some ((⟨b, 0, none⟩ : Addr).add 2))), .v (.pointer (some ((⟨b, 0, none⟩ : Addr).add 3))), .v (.pointer (some ((⟨b, 0, none⟩ : Addr).add 4))), .v (.pointer (some (((⟨b, 0, none⟩ : Addr).add 5).add 0))), .v (.pointer (some (((⟨b, 0, none⟩ : Addr).add 5).add 3)))]⟩]⟩ (Ln (Qn (Cs (Cg (Jq 2 [37, 36, 31, 30, 29, 0] 1 ⟨[(37, vS r1.2.1), (36, .v (.pointer (some ((⟨b, 0, none⟩ : Addr).add 3)))), (31, vI 1), (30, vI 5), (29, .s 0 0 5 5), (0, .v (.pointer (some (⟨b, 0, none⟩ : Addr))))], [⟨125, [.v (.pointer (some ((⟨b, 0, none⟩ : Addr).add 2))), .v (.pointer (some ((⟨b, 0, none⟩ : Addr).add 3))), .v (.pointer (some ((⟨b, 0, none⟩ : Addr).add 4))), .v (.pointer (some (((⟨b, 0, none⟩ : Addr).add 5).add 0))), .v (.pointer (some (((⟨b, 0, none⟩ : Addr).add 5).add 3)))]⟩]⟩ (Lp 86 [] [vS r1.2.1] (.tuple #[.int .i64 (mRead r1.2.1).1, .string (mRead r1.2.1).2.1, .int .i64 (mRead r1.2.1).2.2]) Try.call86 rfl rfl rfl rfl (fun bs w hS => codec_ReadNumber _ w (by first | assumption | omega | (simp only [emp_size]; omega))) ?_))))))))))))))))))))))))))))))))
  have hzr2 := mRead_bd r1.2.1
  generalize hr2 : mRead r1.2.1 = r2 at hzr2 ⊢
  refine Jq 5 [42, 41, 40, 39, 31, 30, 29, 0] 1 ⟨[(42, .v (.pointer (some ((⟨b, 0, none⟩ : Addr).add 3)))), (41, vI r2.2.2), (40, vS r2.2.1), (39, vI r2.1), (31, vI 1), (30, vI 5), (29, .s 0 0 5 5), (0, .v (.pointer (some (⟨b, 0, none⟩ : Addr))))], [⟨125, [.v (.pointer (some ((⟨b, 0, none⟩ : Addr).add 2))), .v (.pointer (some ((⟨b, 0, none⟩ : Addr).add 3))), .v (.pointer (some ((⟨b, 0, none⟩ : Addr).add 4))), .v (.pointer (some (((⟨b, 0, none⟩ : Addr).add 5).add 0))), .v (.pointer (some (((⟨b, 0, none⟩ : Addr).add 5).add 3)))]⟩]⟩ (l_storeB b 92 [.int .i64 c.kind, .int .i64 c.client, .int .i64 r1.1, .int .i64 c.seq, .int .i64 c.acked, .int .i64 c.op.kind, .string c.op.a, .string c.op.b, .int .i64 c.op.n] 3 ((⟨b, 0, none⟩ : Addr).add 3) (vI r2.1) [vI r2.1] [.int .i64 r2.1] [.int .i64 c.kind, .int .i64 c.client, .int .i64 r1.1, .int .i64 r2.1, .int .i64 c.acked, .int .i64 c.op.kind, .string c.op.a, .string c.op.b, .int .i64 c.op.n] rfl rfl rfl rfl rfl (by kernel_rfl) (by kernel_rfl) rfl (by kernel_rfl) rfl rfl rfl (Jq 2 [8, 1, 31, 30, 29, 0] 1 ⟨[(8, vI r2.2.2), (1, vS r2.2.1), (31, vI 1), (30, vI 5), (29, .s 0 0 5 5), (0, .v (.pointer (some (⟨b, 0, none⟩ : Addr))))], [⟨125, [.v (.pointer (some ((⟨b, 0, none⟩ : Addr).add 2))), .v (.pointer (some ((⟨b, 0, none⟩ : Addr).add 3))), .v (.pointer (some ((⟨b, 0, none⟩ : Addr).add 4))), .v (.pointer (some (((⟨b, 0, none⟩ : Addr).add 5).add 0))), .v (.pointer (some (((⟨b, 0, none⟩ : Addr).add 5).add 3)))]⟩]⟩ (Ln (Qn (Cs (Cg (Jq 2 [44, 8, 1, 31, 30, 29, 0] 1 ⟨[(44, vB (!(decide (r2.2.2 = 0)))), (8, vI r2.2.2), (1, vS r2.2.1), (31, vI 1), (30, vI 5), (29, .s 0 0 5 5), (0, .v (.pointer (some (⟨b, 0, none⟩ : Addr))))], [⟨125, [.v (.pointer (some ((⟨b, 0, none⟩ : Addr).add 2))), .v (.pointer (some ((⟨b, 0, none⟩ : Addr).add 3))), .v (.pointer (some ((⟨b, 0, none⟩ : Addr).add 4))), .v (.pointer (some (((⟨b, 0, none⟩ : Addr).add 5).add 0))), .v (.pointer (some (((⟨b, 0, none⟩ : Addr).add 5).add 3)))]⟩]⟩ (Ln (Qn ?_)))))))))
  cases h2 : decide (r2.2.2 = 0) with
  | true =>
   have h2 := of_decide_eq_true h2
   refine Ci false rfl (Ck (q_block_normal (Qn (Cg (Jr 2 [] [31, 1, 30, 29, 0] 1 ⟨[(31, vI 2), (1, vS r2.2.1), (30, vI 5), (29, .s 0 0 5 5), (0, .v (.pointer (some (⟨b, 0, none⟩ : Addr))))], [⟨125, [.v (.pointer (some ((⟨b, 0, none⟩ : Addr).add 2))), .v (.pointer (some ((⟨b, 0, none⟩ : Addr).add 3))), .v (.pointer (some ((⟨b, 0, none⟩ : Addr).add 4))), .v (.pointer (some (((⟨b, 0, none⟩ : Addr).add 5).add 0))), .v (.pointer (some (((⟨b, 0, none⟩ : Addr).add 5).add 3)))]⟩]⟩ [inR (2)] [] (by kernel_rfl) (oc (by unfold inR; omega) on) wn (Ln (q_round (Cs (Cg (Jq 1 [32, 31, 1, 30, 29, 0] 1 ⟨[(32, vB true), (31, vI 2), (1, vS r2.2.1), (30, vI 5), (29, .s 0 0 5 5), (0, .v (.pointer (some (⟨b, 0, none⟩ : Addr))))], [⟨125, [.v (.pointer (some ((⟨b, 0, none⟩ : Addr).add 2))), .v (.pointer (some ((⟨b, 0, none⟩ : Addr).add 3))), .v (.pointer (some ((⟨b, 0, none⟩ : Addr).add 4))), .v (.pointer (some (((⟨b, 0, none⟩ : Addr).add 5).add 0))), .v (.pointer (some (((⟨b, 0, none⟩ : Addr).add 5).add 3)))]⟩]⟩ (Ln (Qn (Cs (Ci true rfl (Ck (Qn (Cs (Cb (Cs (Cg (Jr 3 [(0, .idx default 2)] [7, 31, 1, 30, 29, 0] 1 ⟨[(7, .v (.pointer (some ((⟨b, 0, none⟩ : Addr).add 4)))), (31, vI 2), (1, vS r2.2.1), (30, vI 5), (29, .s 0 0 5 5), (0, .v (.pointer (some (⟨b, 0, none⟩ : Addr))))], [⟨125, [.v (.pointer (some ((⟨b, 0, none⟩ : Addr).add 2))), .v (.pointer (some ((⟨b, 0, none⟩ : Addr).add 3))), .v (.pointer (some ((⟨b, 0, none⟩ : Addr).add 4))), .v (.pointer (some (((⟨b, 0, none⟩ : Addr).add 5).add 0))), .v (.pointer (some (((⟨b, 0, none⟩ : Addr).add 5).add 3)))]⟩]⟩ [(2 : Int) = ((2 : Nat) : Int), 2 < 5] [] (by kernel_rfl) (oc rfl (oc (by omega) on)) wn (Ln (Qn (Cs (Cg (Jq 1 [7, 31, 1, 30, 29, 0] 1 ⟨[(7, .v (.pointer (some ((⟨b, 0, none⟩ : Addr).add 4)))), (31, vI 2), (1, vS r2.2.1), (30, vI 5), (29, .s 0 0 5 5), (0, .v (.pointer (some (⟨b, 0, none⟩ : Addr))))], [⟨125, [.v (.pointer (some ((⟨b, 0, none⟩ : Addr).add 2))), .v (.pointer (some ((⟨b, 0, none⟩ : Addr).add 3))), .v (.pointer (some ((⟨b, 0, none⟩ : Addr).add 4))), .v (.pointer (some (((⟨b, 0, none⟩ : Addr).add 5).add 0))), .v (.pointer (some (((⟨b, 0, none⟩ : Addr).add 5).add 3)))]⟩]⟩ (Ln (Qn (Cs (Cg (Jq 2 [37, 36, 31, 30, 29, 0] 1 ⟨[(37, vS r2.2.1), (36, .v (.pointer (some ((⟨b, 0, none⟩ : Addr).add 4)))), (31, vI 2), (30, vI 5), (29, .s 0 0 5 5), (0, .v (.pointer (some (⟨b, 0, none⟩ : Addr))))], [⟨125, [.v (.pointer (some ((⟨b, 0, none⟩ : Addr).add 2))), .v (.pointer (some ((⟨b, 0, none⟩ : Addr).add 3))), .v (.pointer (some ((⟨b, 0, none⟩ : Addr).add 4))), .v (.pointer (some (((⟨b, 0, none⟩ : Addr).add 5).add 0))), .v (.pointer (some (((⟨b, 0, none⟩ : Addr).add 5).add 3)))]⟩]⟩ (Lp 86 [] [vS r2.2.1] (.tuple #[.int .i64 (mRead r2.2.1).1, .string (mRead r2.2.1).2.1, .int .i64 (mRead r2.2.1).2.2]) Try.call86 rfl rfl rfl rfl (fun bs w hS => codec_ReadNumber _ w (by first | assumption | omega | (simp only [emp_size]; omega))) ?_))))))))))))))))))))))))))))))))
   have hzr3 := mRead_bd r2.2.1
   generalize hr3 : mRead r2.2.1 = r3 at hzr3 ⊢
   refine Jq 5 [42, 41, 40, 39, 31, 30, 29, 0] 1 ⟨[(42, .v (.pointer (some ((⟨b, 0, none⟩ : Addr).add 4)))), (41, vI r3.2.2), (40, vS r3.2.1), (39, vI r3.1), (31, vI 2), (30, vI 5), (29, .s 0 0 5 5), (0, .v (.pointer (some (⟨b, 0, none⟩ : Addr))))], [⟨125, [.v (.pointer (some ((⟨b, 0, none⟩ : Addr).add 2))), .v (.pointer (some ((⟨b, 0, none⟩ : Addr).add 3))), .v (.pointer (some ((⟨b, 0, none⟩ : Addr).add 4))), .v (.pointer (some (((⟨b, 0, none⟩ : Addr).add 5).add 0))), .v (.pointer (some (((⟨b, 0, none⟩ : Addr).add 5).add 3)))]⟩]⟩ (l_storeB b 92 [.int .i64 c.kind, .int .i64 c.client, .int .i64 r1.1, .int .i64 r2.1, .int .i64 c.acked, .int .i64 c.op.kind, .string c.op.a, .string c.op.b, .int .i64 c.op.n] 4 ((⟨b, 0, none⟩ : Addr).add 4) (vI r3.1) [vI r3.1] [.int .i64 r3.1] [.int .i64 c.kind, .int .i64 c.client, .int .i64 r1.1, .int .i64 r2.1, .int .i64 r3.1, .int .i64 c.op.kind, .string c.op.a, .string c.op.b, .int .i64 c.op.n] rfl rfl rfl rfl rfl (by kernel_rfl) (by kernel_rfl) rfl (by kernel_rfl) rfl rfl rfl (Jq 2 [8, 1, 31, 30, 29, 0] 1 ⟨[(8, vI r3.2.2), (1, vS r3.2.1), (31, vI 2), (30, vI 5), (29, .s 0 0 5 5), (0, .v (.pointer (some (⟨b, 0, none⟩ : Addr))))], [⟨125, [.v (.pointer (some ((⟨b, 0, none⟩ : Addr).add 2))), .v (.pointer (some ((⟨b, 0, none⟩ : Addr).add 3))), .v (.pointer (some ((⟨b, 0, none⟩ : Addr).add 4))), .v (.pointer (some (((⟨b, 0, none⟩ : Addr).add 5).add 0))), .v (.pointer (some (((⟨b, 0, none⟩ : Addr).add 5).add 3)))]⟩]⟩ (Ln (Qn (Cs (Cg (Jq 2 [44, 8, 1, 31, 30, 29, 0] 1 ⟨[(44, vB (!(decide (r3.2.2 = 0)))), (8, vI r3.2.2), (1, vS r3.2.1), (31, vI 2), (30, vI 5), (29, .s 0 0 5 5), (0, .v (.pointer (some (⟨b, 0, none⟩ : Addr))))], [⟨125, [.v (.pointer (some ((⟨b, 0, none⟩ : Addr).add 2))), .v (.pointer (some ((⟨b, 0, none⟩ : Addr).add 3))), .v (.pointer (some ((⟨b, 0, none⟩ : Addr).add 4))), .v (.pointer (some (((⟨b, 0, none⟩ : Addr).add 5).add 0))), .v (.pointer (some (((⟨b, 0, none⟩ : Addr).add 5).add 3)))]⟩]⟩ (Ln (Qn ?_)))))))))
   cases h3 : decide (r3.2.2 = 0) with
   | true =>
    have h3 := of_decide_eq_true h3
    refine Ci false rfl (Ck (q_block_normal (Qn (Cg (Jr 2 [] [31, 1, 30, 29, 0] 1 ⟨[(31, vI 3), (1, vS r3.2.1), (30, vI 5), (29, .s 0 0 5 5), (0, .v (.pointer (some (⟨b, 0, none⟩ : Addr))))], [⟨125, [.v (.pointer (some ((⟨b, 0, none⟩ : Addr).add 2))), .v (.pointer (some ((⟨b, 0, none⟩ : Addr).add 3))), .v (.pointer (some ((⟨b, 0, none⟩ : Addr).add 4))), .v (.pointer (some (((⟨b, 0, none⟩ : Addr).add 5).add 0))), .v (.pointer (some (((⟨b, 0, none⟩ : Addr).add 5).add 3)))]⟩]⟩ [inR (3)] [] (by kernel_rfl) (oc (by unfold inR; omega) on) wn (Ln (q_round (Cs (Cg (Jq 1 [32, 31, 1, 30, 29, 0] 1 ⟨[(32, vB true), (31, vI 3), (1, vS r3.2.1), (30, vI 5), (29, .s 0 0 5 5), (0, .v (.pointer (some (⟨b, 0, none⟩ : Addr))))], [⟨125, [.v (.pointer (some ((⟨b, 0, none⟩ : Addr).add 2))), .v (.pointer (some ((⟨b, 0, none⟩ : Addr).add 3))), .v (.pointer (some ((⟨b, 0, none⟩ : Addr).add 4))), .v (.pointer (some (((⟨b, 0, none⟩ : Addr).add 5).add 0))), .v (.pointer (some (((⟨b, 0, none⟩ : Addr).add 5).add 3)))]⟩]⟩ (Ln (Qn (Cs (Ci true rfl (Ck (Qn (Cs (Cb (Cs (Cg (Jr 3 [(0, .idx default 3)] [7, 31, 1, 30, 29, 0] 1 ⟨[(7, .v (.pointer (some (((⟨b, 0, none⟩ : Addr).add 5).add 0)))), (31, vI 3), (1, vS r3.2.1), (30, vI 5), (29, .s 0 0 5 5), (0, .v (.pointer (some (⟨b, 0, none⟩ : Addr))))], [⟨125, [.v (.pointer (some ((⟨b, 0, none⟩ : Addr).add 2))), .v (.pointer (some ((⟨b, 0, none⟩ : Addr).add 3))), .v (.pointer (some ((⟨b, 0, none⟩ : Addr).add 4))), .v (.pointer (some (((⟨b, 0, none⟩ : Addr).add 5).add 0))), .v (.pointer (some (((⟨b, 0, none⟩ : Addr).add 5).add 3)))]⟩]⟩ [(3 : Int) = ((3 : Nat) : Int), 3 < 5] [] (by kernel_rfl) (oc rfl (oc (by omega) on)) wn (Ln (Qn (Cs (Cg (Jq 1 [7, 31, 1, 30, 29, 0] 1 ⟨[(7, .v (.pointer (some (((⟨b, 0, none⟩ : Addr).add 5).add 0)))), (31, vI 3), (1, vS r3.2.1), (30, vI 5), (29, .s 0 0 5 5), (0, .v (.pointer (some (⟨b, 0, none⟩ : Addr))))], [⟨125, [.v (.pointer (some ((⟨b, 0, none⟩ : Addr).add 2))), .v (.pointer (some ((⟨b, 0, none⟩ : Addr).add 3))), .v (.pointer (some ((⟨b, 0, none⟩ : Addr).add 4))), .v (.pointer (some (((⟨b, 0, none⟩ : Addr).add 5).add 0))), .v (.pointer (some (((⟨b, 0, none⟩ : Addr).add 5).add 3)))]⟩]⟩ (Ln (Qn (Cs (Cg (Jq 2 [37, 36, 31, 30, 29, 0] 1 ⟨[(37, vS r3.2.1), (36, .v (.pointer (some (((⟨b, 0, none⟩ : Addr).add 5).add 0)))), (31, vI 3), (30, vI 5), (29, .s 0 0 5 5), (0, .v (.pointer (some (⟨b, 0, none⟩ : Addr))))], [⟨125, [.v (.pointer (some ((⟨b, 0, none⟩ : Addr).add 2))), .v (.pointer (some ((⟨b, 0, none⟩ : Addr).add 3))), .v (.pointer (some ((⟨b, 0, none⟩ : Addr).add 4))), .v (.pointer (some (((⟨b, 0, none⟩ : Addr).add 5).add 0))), .v (.pointer (some (((⟨b, 0, none⟩ : Addr).add 5).add 3)))]⟩]⟩ (Lp 86 [] [vS r3.2.1] (.tuple #[.int .i64 (mRead r3.2.1).1, .string (mRead r3.2.1).2.1, .int .i64 (mRead r3.2.1).2.2]) Try.call86 rfl rfl rfl rfl (fun bs w hS => codec_ReadNumber _ w (by first | assumption | omega | (simp only [emp_size]; omega))) ?_))))))))))))))))))))))))))))))))
    have hzr4 := mRead_bd r3.2.1
    generalize hr4 : mRead r3.2.1 = r4 at hzr4 ⊢
    refine Jq 5 [42, 41, 40, 39, 31, 30, 29, 0] 1 ⟨[(42, .v (.pointer (some (((⟨b, 0, none⟩ : Addr).add 5).add 0)))), (41, vI r4.2.2), (40, vS r4.2.1), (39, vI r4.1), (31, vI 3), (30, vI 5), (29, .s 0 0 5 5), (0, .v (.pointer (some (⟨b, 0, none⟩ : Addr))))], [⟨125, [.v (.pointer (some ((⟨b, 0, none⟩ : Addr).add 2))), .v (.pointer (some ((⟨b, 0, none⟩ : Addr).add 3))), .v (.pointer (some ((⟨b, 0, none⟩ : Addr).add 4))), .v (.pointer (some (((⟨b, 0, none⟩ : Addr).add 5).add 0))), .v (.pointer (some (((⟨b, 0, none⟩ : Addr).add 5).add 3)))]⟩]⟩ (l_storeB b 92 [.int .i64 c.kind, .int .i64 c.client, .int .i64 r1.1, .int .i64 r2.1, .int .i64 r3.1, .int .i64 c.op.kind, .string c.op.a, .string c.op.b, .int .i64 c.op.n] 5 (((⟨b, 0, none⟩ : Addr).add 5).add 0) (vI r4.1) [vI r4.1] [.int .i64 r4.1] [.int .i64 c.kind, .int .i64 c.client, .int .i64 r1.1, .int .i64 r2.1, .int .i64 r3.1, .int .i64 r4.1, .string c.op.a, .string c.op.b, .int .i64 c.op.n] (addr_add _ 5 0) rfl rfl rfl rfl (by kernel_rfl) (by kernel_rfl) rfl (by kernel_rfl) rfl rfl rfl (Jq 2 [8, 1, 31, 30, 29, 0] 1 ⟨[(8, vI r4.2.2), (1, vS r4.2.1), (31, vI 3), (30, vI 5), (29, .s 0 0 5 5), (0, .v (.pointer (some (⟨b, 0, none⟩ : Addr))))], [⟨125, [.v (.pointer (some ((⟨b, 0, none⟩ : Addr).add 2))), .v (.pointer (some ((⟨b, 0, none⟩ : Addr).add 3))), .v (.pointer (some ((⟨b, 0, none⟩ : Addr).add 4))), .v (.pointer (some (((⟨b, 0, none⟩ : Addr).add 5).add 0))), .v (.pointer (some (((⟨b, 0, none⟩ : Addr).add 5).add 3)))]⟩]⟩ (Ln (Qn (Cs (Cg (Jq 2 [44, 8, 1, 31, 30, 29, 0] 1 ⟨[(44, vB (!(decide (r4.2.2 = 0)))), (8, vI r4.2.2), (1, vS r4.2.1), (31, vI 3), (30, vI 5), (29, .s 0 0 5 5), (0, .v (.pointer (some (⟨b, 0, none⟩ : Addr))))], [⟨125, [.v (.pointer (some ((⟨b, 0, none⟩ : Addr).add 2))), .v (.pointer (some ((⟨b, 0, none⟩ : Addr).add 3))), .v (.pointer (some ((⟨b, 0, none⟩ : Addr).add 4))), .v (.pointer (some (((⟨b, 0, none⟩ : Addr).add 5).add 0))), .v (.pointer (some (((⟨b, 0, none⟩ : Addr).add 5).add 3)))]⟩]⟩ (Ln (Qn ?_)))))))))
    cases h4 : decide (r4.2.2 = 0) with
    | true =>
     have h4 := of_decide_eq_true h4
     refine Ci false rfl (Ck (q_block_normal (Qn (Cg (Jr 2 [] [31, 1, 30, 29, 0] 1 ⟨[(31, vI 4), (1, vS r4.2.1), (30, vI 5), (29, .s 0 0 5 5), (0, .v (.pointer (some (⟨b, 0, none⟩ : Addr))))], [⟨125, [.v (.pointer (some ((⟨b, 0, none⟩ : Addr).add 2))), .v (.pointer (some ((⟨b, 0, none⟩ : Addr).add 3))), .v (.pointer (some ((⟨b, 0, none⟩ : Addr).add 4))), .v (.pointer (some (((⟨b, 0, none⟩ : Addr).add 5).add 0))), .v (.pointer (some (((⟨b, 0, none⟩ : Addr).add 5).add 3)))]⟩]⟩ [inR (4)] [] (by kernel_rfl) (oc (by unfold inR; omega) on) wn (Ln (q_round (Cs (Cg (Jq 1 [32, 31, 1, 30, 29, 0] 1 ⟨[(32, vB true), (31, vI 4), (1, vS r4.2.1), (30, vI 5), (29, .s 0 0 5 5), (0, .v (.pointer (some (⟨b, 0, none⟩ : Addr))))], [⟨125, [.v (.pointer (some ((⟨b, 0, none⟩ : Addr).add 2))), .v (.pointer (some ((⟨b, 0, none⟩ : Addr).add 3))), .v (.pointer (some ((⟨b, 0, none⟩ : Addr).add 4))), .v (.pointer (some (((⟨b, 0, none⟩ : Addr).add 5).add 0))), .v (.pointer (some (((⟨b, 0, none⟩ : Addr).add 5).add 3)))]⟩]⟩ (Ln (Qn (Cs (Ci true rfl (Ck (Qn (Cs (Cb (Cs (Cg (Jr 3 [(0, .idx default 4)] [7, 31, 1, 30, 29, 0] 1 ⟨[(7, .v (.pointer (some (((⟨b, 0, none⟩ : Addr).add 5).add 3)))), (31, vI 4), (1, vS r4.2.1), (30, vI 5), (29, .s 0 0 5 5), (0, .v (.pointer (some (⟨b, 0, none⟩ : Addr))))], [⟨125, [.v (.pointer (some ((⟨b, 0, none⟩ : Addr).add 2))), .v (.pointer (some ((⟨b, 0, none⟩ : Addr).add 3))), .v (.pointer (some ((⟨b, 0, none⟩ : Addr).add 4))), .v (.pointer (some (((⟨b, 0, none⟩ : Addr).add 5).add 0))), .v (.pointer (some (((⟨b, 0, none⟩ : Addr).add 5).add 3)))]⟩]⟩ [(4 : Int) = ((4 : Nat) : Int), 4 < 5] [] (by kernel_rfl) (oc rfl (oc (by omega) on)) wn (Ln (Qn (Cs (Cg (Jq 1 [7, 31, 1, 30, 29, 0] 1 ⟨[(7, .v (.pointer (some (((⟨b, 0, none⟩ : Addr).add 5).add 3)))), (31, vI 4), (1, vS r4.2.1), (30, vI 5), (29, .s 0 0 5 5), (0, .v (.pointer (some (⟨b, 0, none⟩ : Addr))))], [⟨125, [.v (.pointer (some ((⟨b, 0, none⟩ : Addr).add 2))), .v (.pointer (some ((⟨b, 0, none⟩ : Addr).add 3))), .v (.pointer (some ((⟨b, 0, none⟩ : Addr).add 4))), .v (.pointer (some (((⟨b, 0, none⟩ : Addr).add 5).add 0))), .v (.pointer (some (((⟨b, 0, none⟩ : Addr).add 5).add 3)))]⟩]⟩ (Ln (Qn (Cs (Cg (Jq 2 [37, 36, 31, 30, 29, 0] 1 ⟨[(37, vS r4.2.1), (36, .v (.pointer (some (((⟨b, 0, none⟩ : Addr).add 5).add 3)))), (31, vI 4), (30, vI 5), (29, .s 0 0 5 5), (0, .v (.pointer (some (⟨b, 0, none⟩ : Addr))))], [⟨125, [.v (.pointer (some ((⟨b, 0, none⟩ : Addr).add 2))), .v (.pointer (some ((⟨b, 0, none⟩ : Addr).add 3))), .v (.pointer (some ((⟨b, 0, none⟩ : Addr).add 4))), .v (.pointer (some (((⟨b, 0, none⟩ : Addr).add 5).add 0))), .v (.pointer (some (((⟨b, 0, none⟩ : Addr).add 5).add 3)))]⟩]⟩ (Lp 86 [] [vS r4.2.1] (.tuple #[.int .i64 (mRead r4.2.1).1, .string (mRead r4.2.1).2.1, .int .i64 (mRead r4.2.1).2.2]) Try.call86 rfl rfl rfl rfl (fun bs w hS => codec_ReadNumber _ w (by first | assumption | omega | (simp only [emp_size]; omega))) ?_))))))))))))))))))))))))))))))))
     have hzr5 := mRead_bd r4.2.1
     generalize hr5 : mRead r4.2.1 = r5 at hzr5 ⊢
     refine Jq 5 [42, 41, 40, 39, 31, 30, 29, 0] 1 ⟨[(42, .v (.pointer (some (((⟨b, 0, none⟩ : Addr).add 5).add 3)))), (41, vI r5.2.2), (40, vS r5.2.1), (39, vI r5.1), (31, vI 4), (30, vI 5), (29, .s 0 0 5 5), (0, .v (.pointer (some (⟨b, 0, none⟩ : Addr))))], [⟨125, [.v (.pointer (some ((⟨b, 0, none⟩ : Addr).add 2))), .v (.pointer (some ((⟨b, 0, none⟩ : Addr).add 3))), .v (.pointer (some ((⟨b, 0, none⟩ : Addr).add 4))), .v (.pointer (some (((⟨b, 0, none⟩ : Addr).add 5).add 0))), .v (.pointer (some (((⟨b, 0, none⟩ : Addr).add 5).add 3)))]⟩]⟩ (l_storeB b 92 [.int .i64 c.kind, .int .i64 c.client, .int .i64 r1.1, .int .i64 r2.1, .int .i64 r3.1, .int .i64 r4.1, .string c.op.a, .string c.op.b, .int .i64 c.op.n] 8 (((⟨b, 0, none⟩ : Addr).add 5).add 3) (vI r5.1) [vI r5.1] [.int .i64 r5.1] [.int .i64 c.kind, .int .i64 c.client, .int .i64 r1.1, .int .i64 r2.1, .int .i64 r3.1, .int .i64 r4.1, .string c.op.a, .string c.op.b, .int .i64 r5.1] (addr_add _ 5 3) rfl rfl rfl rfl (by kernel_rfl) (by kernel_rfl) rfl (by kernel_rfl) rfl rfl rfl (Jq 2 [8, 1, 31, 30, 29, 0] 1 ⟨[(8, vI r5.2.2), (1, vS r5.2.1), (31, vI 4), (30, vI 5), (29, .s 0 0 5 5), (0, .v (.pointer (some (⟨b, 0, none⟩ : Addr))))], [⟨125, [.v (.pointer (some ((⟨b, 0, none⟩ : Addr).add 2))), .v (.pointer (some ((⟨b, 0, none⟩ : Addr).add 3))), .v (.pointer (some ((⟨b, 0, none⟩ : Addr).add 4))), .v (.pointer (some (((⟨b, 0, none⟩ : Addr).add 5).add 0))), .v (.pointer (some (((⟨b, 0, none⟩ : Addr).add 5).add 3)))]⟩]⟩ (Ln (Qn (Cs (Cg (Jq 2 [44, 8, 1, 31, 30, 29, 0] 1 ⟨[(44, vB (!(decide (r5.2.2 = 0)))), (8, vI r5.2.2), (1, vS r5.2.1), (31, vI 4), (30, vI 5), (29, .s 0 0 5 5), (0, .v (.pointer (some (⟨b, 0, none⟩ : Addr))))], [⟨125, [.v (.pointer (some ((⟨b, 0, none⟩ : Addr).add 2))), .v (.pointer (some ((⟨b, 0, none⟩ : Addr).add 3))), .v (.pointer (some ((⟨b, 0, none⟩ : Addr).add 4))), .v (.pointer (some (((⟨b, 0, none⟩ : Addr).add 5).add 0))), .v (.pointer (some (((⟨b, 0, none⟩ : Addr).add 5).add 3)))]⟩]⟩ (Ln (Qn ?_)))))))))
     cases h5 : decide (r5.2.2 = 0) with
     | true =>
      have h5 := of_decide_eq_true h5
      refine Ci false rfl (Ck (q_block_normal (Qn (Cg (Jr 2 [] [31, 1, 30, 29, 0] 1 ⟨[(31, vI 5), (1, vS r5.2.1), (30, vI 5), (29, .s 0 0 5 5), (0, .v (.pointer (some (⟨b, 0, none⟩ : Addr))))], [⟨125, [.v (.pointer (some ((⟨b, 0, none⟩ : Addr).add 2))), .v (.pointer (some ((⟨b, 0, none⟩ : Addr).add 3))), .v (.pointer (some ((⟨b, 0, none⟩ : Addr).add 4))), .v (.pointer (some (((⟨b, 0, none⟩ : Addr).add 5).add 0))), .v (.pointer (some (((⟨b, 0, none⟩ : Addr).add 5).add 3)))]⟩]⟩ [inR (5)] [] (by kernel_rfl) (oc (by unfold inR; omega) on) wn (Ln (q_round (Cs (Cg (Jq 1 [32, 31, 1, 30, 29, 0] 1 ⟨[(32, vB false), (31, vI 5), (1, vS r5.2.1), (30, vI 5), (29, .s 0 0 5 5), (0, .v (.pointer (some (⟨b, 0, none⟩ : Addr))))], [⟨125, [.v (.pointer (some ((⟨b, 0, none⟩ : Addr).add 2))), .v (.pointer (some ((⟨b, 0, none⟩ : Addr).add 3))), .v (.pointer (some ((⟨b, 0, none⟩ : Addr).add 4))), .v (.pointer (some (((⟨b, 0, none⟩ : Addr).add 5).add 0))), .v (.pointer (some (((⟨b, 0, none⟩ : Addr).add 5).add 3)))]⟩]⟩ (Ln (Qn (Cs (Ci false rfl (c_exit (Qe (Qe (Qh (Qn (Cs (Cs (Cd 11 [] (.p 0 (.p 1 (.p 2 (.p 3 (.p 4 (.p 5 (.p 6 (.p 7 (.p 10 (.b 8 (.p 9 .nil) .z)))))))))) [] [blkR b 92 [.int .i64 c.kind, .int .i64 c.client, .int .i64 r1.1, .int .i64 r2.1, .int .i64 r3.1, .int .i64 r4.1, .string c.op.a, .string c.op.b, .int .i64 r5.1]] Try_mixed (by kernel_rfl) (pq_then (pq_then pq_body)) (List.Sublist.refl _) (Hq [] [(0, true), (1, true), (2, true), (3, true), (4, true), (5, true), (6, true), (7, true), (10, true)] [(57, vI 0), (54, .v (.pointer (some (((⟨b, 0, none⟩ : Addr).add 5).add 2)))), (53, .v (.pointer (some ((⟨b, 0, none⟩ : Addr).add 5)))), (52, .v (.pointer (some (⟨b, 0, none⟩ : Addr)))), (51, .v (.pointer (some (⟨b, 0, none⟩ : Addr)))), (50, .v (.pointer (some (((⟨b, 0, none⟩ : Addr).add 5).add 1)))), (49, .v (.pointer (some ((⟨b, 0, none⟩ : Addr).add 5)))), (48, .v (.pointer (some (⟨b, 0, none⟩ : Addr)))), (47, .v (.pointer (some (⟨b, 0, none⟩ : Addr)))), (32, vB false), (31, vI 5), (1, vS r5.2.1), (30, vI 5), (29, .s 0 0 5 5), (0, .v (.pointer (some (⟨b, 0, none⟩ : Addr))))] [] [] rfl (by kernel_rfl) on wn (Hl ⟨[(55, .s 1 0 2 2), (57, vI 0), (54, .v (.pointer (some (((⟨b, 0, none⟩ : Addr).add 5).add 2)))), (53, .v (.pointer (some ((⟨b, 0, none⟩ : Addr).add 5)))), (52, .v (.pointer (some (⟨b, 0, none⟩ : Addr)))), (51, .v (.pointer (some (⟨b, 0, none⟩ : Addr)))), (50, .v (.pointer (some (((⟨b, 0, none⟩ : Addr).add 5).add 1)))), (49, .v (.pointer (some ((⟨b, 0, none⟩ : Addr).add 5)))), (48, .v (.pointer (some (⟨b, 0, none⟩ : Addr)))), (47, .v (.pointer (some (⟨b, 0, none⟩ : Addr)))), (32, vB false), (31, vI 5), (1, vS r5.2.1), (30, vI 5), (29, .s 0 0 5 5), (0, .v (.pointer (some (⟨b, 0, none⟩ : Addr))))], [⟨125, [.v (.pointer (some ((⟨b, 0, none⟩ : Addr).add 2))), .v (.pointer (some ((⟨b, 0, none⟩ : Addr).add 3))), .v (.pointer (some ((⟨b, 0, none⟩ : Addr).add 4))), .v (.pointer (some (((⟨b, 0, none⟩ : Addr).add 5).add 0))), .v (.pointer (some (((⟨b, 0, none⟩ : Addr).add 5).add 3)))]⟩, ⟨127, [.v (.pointer (some (((⟨b, 0, none⟩ : Addr).add 5).add 1))), .v (.pointer (some (((⟨b, 0, none⟩ : Addr).add 5).add 2)))]⟩]⟩ (by kernel_rfl) (fun bs0 bs w hp hl hS => hS.down hp hl rfl (le_same le_nil) (List.Sublist.refl _)) ?_))))))))))))))))))))))))
      refine Hq [] [(9, true)] [(56, vI 2), (55, .s 1 0 2 2), (57, vI 0), (54, .v (.pointer (some (((⟨b, 0, none⟩ : Addr).add 5).add 2)))), (53, .v (.pointer (some ((⟨b, 0, none⟩ : Addr).add 5)))), (52, .v (.pointer (some (⟨b, 0, none⟩ : Addr)))), (51, .v (.pointer (some (⟨b, 0, none⟩ : Addr)))), (50, .v (.pointer (some (((⟨b, 0, none⟩ : Addr).add 5).add 1)))), (49, .v (.pointer (some ((⟨b, 0, none⟩ : Addr).add 5)))), (48, .v (.pointer (some (⟨b, 0, none⟩ : Addr)))), (47, .v (.pointer (some (⟨b, 0, none⟩ : Addr)))), (32, vB false), (31, vI 5), (1, vS r5.2.1), (30, vI 5), (29, .s 0 0 5 5), (0, .v (.pointer (some (⟨b, 0, none⟩ : Addr))))] [] [] rfl (by kernel_rfl) on wn ?_
      refine Hn (Ln (Qn (Cb (c_unroll (n := 3) (Cs (Cg (Jq 1 [58, 56, 55, 57, 1] 2 ⟨[(58, vB true), (56, vI 2), (55, .s 1 0 2 2), (57, vI 0), (1, vS r5.2.1)], [⟨125, [.v (.pointer (some ((⟨b, 0, none⟩ : Addr).add 2))), .v (.pointer (some ((⟨b, 0, none⟩ : Addr).add 3))), .v (.pointer (some ((⟨b, 0, none⟩ : Addr).add 4))), .v (.pointer (some (((⟨b, 0, none⟩ : Addr).add 5).add 0))), .v (.pointer (some (((⟨b, 0, none⟩ : Addr).add 5).add 3)))]⟩, ⟨127, [.v (.pointer (some (((⟨b, 0, none⟩ : Addr).add 5).add 1))), .v (.pointer (some (((⟨b, 0, none⟩ : Addr).add 5).add 2)))]⟩]⟩ (Ln (Qn (Cs (Ci true rfl (Ck (Qn (Cs (Cb (Cs (Cg (Jr 3 [(0, .idx default 0)] [10, 56, 55, 57, 1] 2 ⟨[(10, .v (.pointer (some (((⟨b, 0, none⟩ : Addr).add 5).add 1)))), (56, vI 2), (55, .s 1 0 2 2), (57, vI 0), (1, vS r5.2.1)], [⟨125, [.v (.pointer (some ((⟨b, 0, none⟩ : Addr).add 2))), .v (.pointer (some ((⟨b, 0, none⟩ : Addr).add 3))), .v (.pointer (some ((⟨b, 0, none⟩ : Addr).add 4))), .v (.pointer (some (((⟨b, 0, none⟩ : Addr).add 5).add 0))), .v (.pointer (some (((⟨b, 0, none⟩ : Addr).add 5).add 3)))]⟩, ⟨127, [.v (.pointer (some (((⟨b, 0, none⟩ : Addr).add 5).add 1))), .v (.pointer (some (((⟨b, 0, none⟩ : Addr).add 5).add 2)))]⟩]⟩ [(0 : Int) = ((0 : Nat) : Int), 0 < 2] [] (by kernel_rfl) (oc rfl (oc (by omega) on)) wn (Ln (Qn (Cs (Cg (Jq 1 [10, 56, 55, 57, 1] 2 ⟨[(10, .v (.pointer (some (((⟨b, 0, none⟩ : Addr).add 5).add 1)))), (56, vI 2), (55, .s 1 0 2 2), (57, vI 0), (1, vS r5.2.1)], [⟨125, [.v (.pointer (some ((⟨b, 0, none⟩ : Addr).add 2))), .v (.pointer (some ((⟨b, 0, none⟩ : Addr).add 3))), .v (.pointer (some ((⟨b, 0, none⟩ : Addr).add 4))), .v (.pointer (some (((⟨b, 0, none⟩ : Addr).add 5).add 0))), .v (.pointer (some (((⟨b, 0, none⟩ : Addr).add 5).add 3)))]⟩, ⟨127, [.v (.pointer (some (((⟨b, 0, none⟩ : Addr).add 5).add 1))), .v (.pointer (some (((⟨b, 0, none⟩ : Addr).add 5).add 2)))]⟩]⟩ (Ln (Qn (Cs (Cg (Jq 2 [63, 62, 56, 55, 57] 2 ⟨[(63, vS r5.2.1), (62, .v (.pointer (some (((⟨b, 0, none⟩ : Addr).add 5).add 1)))), (56, vI 2), (55, .s 1 0 2 2), (57, vI 0)], [⟨125, [.v (.pointer (some ((⟨b, 0, none⟩ : Addr).add 2))), .v (.pointer (some ((⟨b, 0, none⟩ : Addr).add 3))), .v (.pointer (some ((⟨b, 0, none⟩ : Addr).add 4))), .v (.pointer (some (((⟨b, 0, none⟩ : Addr).add 5).add 0))), .v (.pointer (some (((⟨b, 0, none⟩ : Addr).add 5).add 3)))]⟩, ⟨127, [.v (.pointer (some (((⟨b, 0, none⟩ : Addr).add 5).add 1))), .v (.pointer (some (((⟨b, 0, none⟩ : Addr).add 5).add 2)))]⟩]⟩ (Lp 87 [] [vS r5.2.1] (.tuple #[.string (mTell r5.2.1).1, .string (mTell r5.2.1).2.1, .int .i64 (mTell r5.2.1).2.2]) Try.call87 rfl rfl rfl rfl (fun bs w hS => codec_ReadText _ w (by first | assumption | omega | (simp only [emp_size]; omega))) ?_)))))))))))))))))))))))))))))
      have hzr6 := mTell_bd r5.2.1
      generalize hr6 : mTell r5.2.1 = r6 at hzr6 ⊢
      refine Jq 5 [68, 67, 66, 65, 56, 55, 57] 2 ⟨[(68, .v (.pointer (some (((⟨b, 0, none⟩ : Addr).add 5).add 1)))), (67, vI r6.2.2), (66, vS r6.2.1), (65, vS r6.1), (56, vI 2), (55, .s 1 0 2 2), (57, vI 0)], [⟨125, [.v (.pointer (some ((⟨b, 0, none⟩ : Addr).add 2))), .v (.pointer (some ((⟨b, 0, none⟩ : Addr).add 3))), .v (.pointer (some ((⟨b, 0, none⟩ : Addr).add 4))), .v (.pointer (some (((⟨b, 0, none⟩ : Addr).add 5).add 0))), .v (.pointer (some (((⟨b, 0, none⟩ : Addr).add 5).add 3)))]⟩, ⟨127, [.v (.pointer (some (((⟨b, 0, none⟩ : Addr).add 5).add 1))), .v (.pointer (some (((⟨b, 0, none⟩ : Addr).add 5).add 2)))]⟩]⟩ (l_storeB b 92 [.int .i64 c.kind, .int .i64 c.client, .int .i64 r1.1, .int .i64 r2.1, .int .i64 r3.1, .int .i64 r4.1, .string c.op.a, .string c.op.b, .int .i64 r5.1] 6 (((⟨b, 0, none⟩ : Addr).add 5).add 1) (vS r6.1) [vS r6.1] [.string r6.1] [.int .i64 c.kind, .int .i64 c.client, .int .i64 r1.1, .int .i64 r2.1, .int .i64 r3.1, .int .i64 r4.1, .string r6.1, .string c.op.b, .int .i64 r5.1] (addr_add _ 5 1) rfl rfl rfl rfl (by kernel_rfl) (by kernel_rfl) rfl (by kernel_rfl) rfl rfl rfl (Jq 2 [11, 1, 56, 55, 57] 2 ⟨[(11, vI r6.2.2), (1, vS r6.2.1), (56, vI 2), (55, .s 1 0 2 2), (57, vI 0)], [⟨125, [.v (.pointer (some ((⟨b, 0, none⟩ : Addr).add 2))), .v (.pointer (some ((⟨b, 0, none⟩ : Addr).add 3))), .v (.pointer (some ((⟨b, 0, none⟩ : Addr).add 4))), .v (.pointer (some (((⟨b, 0, none⟩ : Addr).add 5).add 0))), .v (.pointer (some (((⟨b, 0, none⟩ : Addr).add 5).add 3)))]⟩, ⟨127, [.v (.pointer (some (((⟨b, 0, none⟩ : Addr).add 5).add 1))), .v (.pointer (some (((⟨b, 0, none⟩ : Addr).add 5).add 2)))]⟩]⟩ (Ln (Qn (Cs (Cg (Jq 2 [70, 11, 1, 56, 55, 57] 2 ⟨[(70, vB (!(decide (r6.2.2 = 0)))), (11, vI r6.2.2), (1, vS r6.2.1), (56, vI 2), (55, .s 1 0 2 2), (57, vI 0)], [⟨125, [.v (.pointer (some ((⟨b, 0, none⟩ : Addr).add 2))), .v (.pointer (some ((⟨b, 0, none⟩ : Addr).add 3))), .v (.pointer (some ((⟨b, 0, none⟩ : Addr).add 4))), .v (.pointer (some (((⟨b, 0, none⟩ : Addr).add 5).add 0))), .v (.pointer (some (((⟨b, 0, none⟩ : Addr).add 5).add 3)))]⟩, ⟨127, [.v (.pointer (some (((⟨b, 0, none⟩ : Addr).add 5).add 1))), .v (.pointer (some (((⟨b, 0, none⟩ : Addr).add 5).add 2)))]⟩]⟩ (Ln (Qn ?_)))))))))
      cases h6 : decide (r6.2.2 = 0) with
      | true =>
       have h6 := of_decide_eq_true h6
       refine Ci false rfl (Ck (q_block_normal (Qn (Cg (Jr 2 [] [57, 1, 56, 55] 2 ⟨[(57, vI 1), (1, vS r6.2.1), (56, vI 2), (55, .s 1 0 2 2)], [⟨125, [.v (.pointer (some ((⟨b, 0, none⟩ : Addr).add 2))), .v (.pointer (some ((⟨b, 0, none⟩ : Addr).add 3))), .v (.pointer (some ((⟨b, 0, none⟩ : Addr).add 4))), .v (.pointer (some (((⟨b, 0, none⟩ : Addr).add 5).add 0))), .v (.pointer (some (((⟨b, 0, none⟩ : Addr).add 5).add 3)))]⟩, ⟨127, [.v (.pointer (some (((⟨b, 0, none⟩ : Addr).add 5).add 1))), .v (.pointer (some (((⟨b, 0, none⟩ : Addr).add 5).add 2)))]⟩]⟩ [inR (1)] [] (by kernel_rfl) (oc (by unfold inR; omega) on) wn (Ln (q_round (Cs (Cg (Jq 1 [58, 57, 1, 56, 55] 2 ⟨[(58, vB true), (57, vI 1), (1, vS r6.2.1), (56, vI 2), (55, .s 1 0 2 2)], [⟨125, [.v (.pointer (some ((⟨b, 0, none⟩ : Addr).add 2))), .v (.pointer (some ((⟨b, 0, none⟩ : Addr).add 3))), .v (.pointer (some ((⟨b, 0, none⟩ : Addr).add 4))), .v (.pointer (some (((⟨b, 0, none⟩ : Addr).add 5).add 0))), .v (.pointer (some (((⟨b, 0, none⟩ : Addr).add 5).add 3)))]⟩, ⟨127, [.v (.pointer (some (((⟨b, 0, none⟩ : Addr).add 5).add 1))), .v (.pointer (some (((⟨b, 0, none⟩ : Addr).add 5).add 2)))]⟩]⟩ (Ln (Qn (Cs (Ci true rfl (Ck (Qn (Cs (Cb (Cs (Cg (Jr 3 [(0, .idx default 1)] [10, 57, 1, 56, 55] 2 ⟨[(10, .v (.pointer (some (((⟨b, 0, none⟩ : Addr).add 5).add 2)))), (57, vI 1), (1, vS r6.2.1), (56, vI 2), (55, .s 1 0 2 2)], [⟨125, [.v (.pointer (some ((⟨b, 0, none⟩ : Addr).add 2))), .v (.pointer (some ((⟨b, 0, none⟩ : Addr).add 3))), .v (.pointer (some ((⟨b, 0, none⟩ : Addr).add 4))), .v (.pointer (some (((⟨b, 0, none⟩ : Addr).add 5).add 0))), .v (.pointer (some (((⟨b, 0, none⟩ : Addr).add 5).add 3)))]⟩, ⟨127, [.v (.pointer (some (((⟨b, 0, none⟩ : Addr).add 5).add 1))), .v (.pointer (some (((⟨b, 0, none⟩ : Addr).add 5).add 2)))]⟩]⟩ [(1 : Int) = ((1 : Nat) : Int), 1 < 2] [] (by kernel_rfl) (oc rfl (oc (by omega) on)) wn (Ln (Qn (Cs (Cg (Jq 1 [10, 57, 1, 56, 55] 2 ⟨[(10, .v (.pointer (some (((⟨b, 0, none⟩ : Addr).add 5).add 2)))), (57, vI 1), (1, vS r6.2.1), (56, vI 2), (55, .s 1 0 2 2)], [⟨125, [.v (.pointer (some ((⟨b, 0, none⟩ : Addr).add 2))), .v (.pointer (some ((⟨b, 0, none⟩ : Addr).add 3))), .v (.pointer (some ((⟨b, 0, none⟩ : Addr).add 4))), .v (.pointer (some (((⟨b, 0, none⟩ : Addr).add 5).add 0))), .v (.pointer (some (((⟨b, 0, none⟩ : Addr).add 5).add 3)))]⟩, ⟨127, [.v (.pointer (some (((⟨b, 0, none⟩ : Addr).add 5).add 1))), .v (.pointer (some (((⟨b, 0, none⟩ : Addr).add 5).add 2)))]⟩]⟩ (Ln (Qn (Cs (Cg (Jq 2 [63, 62, 57, 56, 55] 2 ⟨[(63, vS r6.2.1), (62, .v (.pointer (some (((⟨b, 0, none⟩ : Addr).add 5).add 2)))), (57, vI 1), (56, vI 2), (55, .s 1 0 2 2)], [⟨125, [.v (.pointer (some ((⟨b, 0, none⟩ : Addr).add 2))), .v (.pointer (some ((⟨b, 0, none⟩ : Addr).add 3))), .v (.pointer (some ((⟨b, 0, none⟩ : Addr).add 4))), .v (.pointer (some (((⟨b, 0, none⟩ : Addr).add 5).add 0))), .v (.pointer (some (((⟨b, 0, none⟩ : Addr).add 5).add 3)))]⟩, ⟨127, [.v (.pointer (some (((⟨b, 0, none⟩ : Addr).add 5).add 1))), .v (.pointer (some (((⟨b, 0, none⟩ : Addr).add 5).add 2)))]⟩]⟩ ?_)))))))))))))))))))))))))))))))
       refine Lp 87 [] [vS r6.2.1] (.tuple #[.string (mTell r6.2.1).1, .string (mTell r6.2.1).2.1, .int .i64 (mTell r6.2.1).2.2]) Try.call87 rfl rfl rfl rfl (fun bs w hS => codec_ReadText _ w (by first | assumption | omega | (simp only [emp_size]; omega))) ?_
       have hzr7 := mTell_bd r6.2.1
       generalize hr7 : mTell r6.2.1 = r7 at hzr7 ⊢
       refine Jq 5 [68, 67, 66, 65, 57, 56, 55] 2 ⟨[(68, .v (.pointer (some (((⟨b, 0, none⟩ : Addr).add 5).add 2)))), (67, vI r7.2.2), (66, vS r7.2.1), (65, vS r7.1), (57, vI 1), (56, vI 2), (55, .s 1 0 2 2)], [⟨125, [.v (.pointer (some ((⟨b, 0, none⟩ : Addr).add 2))), .v (.pointer (some ((⟨b, 0, none⟩ : Addr).add 3))), .v (.pointer (some ((⟨b, 0, none⟩ : Addr).add 4))), .v (.pointer (some (((⟨b, 0, none⟩ : Addr).add 5).add 0))), .v (.pointer (some (((⟨b, 0, none⟩ : Addr).add 5).add 3)))]⟩, ⟨127, [.v (.pointer (some (((⟨b, 0, none⟩ : Addr).add 5).add 1))), .v (.pointer (some (((⟨b, 0, none⟩ : Addr).add 5).add 2)))]⟩]⟩ (l_storeB b 92 [.int .i64 c.kind, .int .i64 c.client, .int .i64 r1.1, .int .i64 r2.1, .int .i64 r3.1, .int .i64 r4.1, .string r6.1, .string c.op.b, .int .i64 r5.1] 7 (((⟨b, 0, none⟩ : Addr).add 5).add 2) (vS r7.1) [vS r7.1] [.string r7.1] [.int .i64 c.kind, .int .i64 c.client, .int .i64 r1.1, .int .i64 r2.1, .int .i64 r3.1, .int .i64 r4.1, .string r6.1, .string r7.1, .int .i64 r5.1] (addr_add _ 5 2) rfl rfl rfl rfl (by kernel_rfl) (by kernel_rfl) rfl (by kernel_rfl) rfl rfl rfl (Jq 2 [11, 1, 57, 56, 55] 2 ⟨[(11, vI r7.2.2), (1, vS r7.2.1), (57, vI 1), (56, vI 2), (55, .s 1 0 2 2)], [⟨125, [.v (.pointer (some ((⟨b, 0, none⟩ : Addr).add 2))), .v (.pointer (some ((⟨b, 0, none⟩ : Addr).add 3))), .v (.pointer (some ((⟨b, 0, none⟩ : Addr).add 4))), .v (.pointer (some (((⟨b, 0, none⟩ : Addr).add 5).add 0))), .v (.pointer (some (((⟨b, 0, none⟩ : Addr).add 5).add 3)))]⟩, ⟨127, [.v (.pointer (some (((⟨b, 0, none⟩ : Addr).add 5).add 1))), .v (.pointer (some (((⟨b, 0, none⟩ : Addr).add 5).add 2)))]⟩]⟩ (Ln (Qn (Cs (Cg (Jq 2 [70, 11, 1, 57, 56, 55] 2 ⟨[(70, vB (!(decide (r7.2.2 = 0)))), (11, vI r7.2.2), (1, vS r7.2.1), (57, vI 1), (56, vI 2), (55, .s 1 0 2 2)], [⟨125, [.v (.pointer (some ((⟨b, 0, none⟩ : Addr).add 2))), .v (.pointer (some ((⟨b, 0, none⟩ : Addr).add 3))), .v (.pointer (some ((⟨b, 0, none⟩ : Addr).add 4))), .v (.pointer (some (((⟨b, 0, none⟩ : Addr).add 5).add 0))), .v (.pointer (some (((⟨b, 0, none⟩ : Addr).add 5).add 3)))]⟩, ⟨127, [.v (.pointer (some (((⟨b, 0, none⟩ : Addr).add 5).add 1))), .v (.pointer (some (((⟨b, 0, none⟩ : Addr).add 5).add 2)))]⟩]⟩ (Ln (Qn ?_)))))))))
       cases h7 : decide (r7.2.2 = 0) with
       | true =>
        have h7 := of_decide_eq_true h7
        refine Ci false rfl (Ck (q_block_normal (Qn (Cg (Jr 2 [] [57, 1, 56, 55] 2 ⟨[(57, vI 2), (1, vS r7.2.1), (56, vI 2), (55, .s 1 0 2 2)], [⟨125, [.v (.pointer (some ((⟨b, 0, none⟩ : Addr).add 2))), .v (.pointer (some ((⟨b, 0, none⟩ : Addr).add 3))), .v (.pointer (some ((⟨b, 0, none⟩ : Addr).add 4))), .v (.pointer (some (((⟨b, 0, none⟩ : Addr).add 5).add 0))), .v (.pointer (some (((⟨b, 0, none⟩ : Addr).add 5).add 3)))]⟩, ⟨127, [.v (.pointer (some (((⟨b, 0, none⟩ : Addr).add 5).add 1))), .v (.pointer (some (((⟨b, 0, none⟩ : Addr).add 5).add 2)))]⟩]⟩ [inR (2)] [] (by kernel_rfl) (oc (by unfold inR; omega) on) wn (Ln (q_round (Cs (Cg (Jq 1 [58, 57, 1, 56, 55] 2 ⟨[(58, vB false), (57, vI 2), (1, vS r7.2.1), (56, vI 2), (55, .s 1 0 2 2)], [⟨125, [.v (.pointer (some ((⟨b, 0, none⟩ : Addr).add 2))), .v (.pointer (some ((⟨b, 0, none⟩ : Addr).add 3))), .v (.pointer (some ((⟨b, 0, none⟩ : Addr).add 4))), .v (.pointer (some (((⟨b, 0, none⟩ : Addr).add 5).add 0))), .v (.pointer (some (((⟨b, 0, none⟩ : Addr).add 5).add 3)))]⟩, ⟨127, [.v (.pointer (some (((⟨b, 0, none⟩ : Addr).add 5).add 1))), .v (.pointer (some (((⟨b, 0, none⟩ : Addr).add 5).add 2)))]⟩]⟩ (Ln (Qn (Cs (Ci false rfl (c_exit (Qe (Qe (Qh (Qn (Cs (Cg (Jq 3 [5, 4] 0 ⟨[(5, vI 0), (4, vS r7.2.1)], []⟩ (Ln (Qn (Cr (Rt (.inl rfl) [vS r7.2.1, vI 0] rfl (fun bs w hS => ?_)))))))))))))))))))))))))))
        have hm : mBody c t = ((⟨c.kind, c.client, r1.1, r2.1, r3.1, ⟨r4.1, r6.1, r7.1, r5.1⟩⟩ : DCommand), r7.2.1, 0) := by unfold mBody; simp only [hr1, hr2, hr3, hr4, hr5, hr6, hr7, h1, h2, h3, h4, h5, h6, h7, ne_eq, not_true_eq_false, not_false_eq_true, if_true, if_false, reduceIte]
        exact ⟨(⟨c.kind, c.client, r1.1, r2.1, r3.1, ⟨r4.1, r6.1, r7.1, r5.1⟩⟩ : DCommand), by rw [hm]; rfl, ⟨fun _ => by rw [hm], ⟨(show r6.1.size ≤ 9223372036854775807 by omega), (show r7.1.size ≤ 9223372036854775807 by omega)⟩⟩, hS.kp, hS.res _ (.head _)⟩
       | false =>
        have h7 := of_decide_eq_false h7
        refine Ci true rfl (Cs (Cg (Jq 3 [5, 4] 0 ⟨[(5, vI r7.2.2), (4, vS emp)], []⟩ (Ln (Qn (Cr (Qb (Qr (Qr (Qb (Qr (Rt (.inl rfl) [vS emp, vI r7.2.2] rfl (fun bs w hS => ?_)))))))))))))
        have hm : mBody c t = (c, emp, r7.2.2) := by unfold mBody; simp only [hr1, hr2, hr3, hr4, hr5, hr6, hr7, h1, h2, h3, h4, h5, h6, h7, ne_eq, not_true_eq_false, not_false_eq_true, if_true, if_false, reduceIte]
        exact ⟨(⟨c.kind, c.client, r1.1, r2.1, r3.1, ⟨r4.1, r6.1, r7.1, r5.1⟩⟩ : DCommand), by rw [hm]; rfl, ⟨fun h0 => absurd h0 (by rw [hm]; exact h7), ⟨(show r6.1.size ≤ 9223372036854775807 by omega), (show r7.1.size ≤ 9223372036854775807 by omega)⟩⟩, hS.kp, hS.res _ (.head _)⟩
      | false =>
       have h6 := of_decide_eq_false h6
       refine Ci true rfl (Cs (Cg (Jq 3 [5, 4] 0 ⟨[(5, vI r6.2.2), (4, vS emp)], []⟩ (Ln (Qn (Cr (Qb (Qr (Qr (Qb (Qr (Rt (.inl rfl) [vS emp, vI r6.2.2] rfl (fun bs w hS => ?_)))))))))))))
       have hm : mBody c t = (c, emp, r6.2.2) := by unfold mBody; simp only [hr1, hr2, hr3, hr4, hr5, hr6, h1, h2, h3, h4, h5, h6, ne_eq, not_true_eq_false, not_false_eq_true, if_true, if_false, reduceIte]
       exact ⟨(⟨c.kind, c.client, r1.1, r2.1, r3.1, ⟨r4.1, r6.1, c.op.b, r5.1⟩⟩ : DCommand), by rw [hm]; rfl, ⟨fun h0 => absurd h0 (by rw [hm]; exact h6), ⟨(show r6.1.size ≤ 9223372036854775807 by omega), hc.2⟩⟩, hS.kp, hS.res _ (.head _)⟩
     | false =>
      have h5 := of_decide_eq_false h5
      refine Ci true rfl (Cs (Cg (Jq 3 [5, 4] 0 ⟨[(5, vI r5.2.2), (4, vS emp)], []⟩ (Ln (Qn (Cr (Qb (Qr (Qr (Qb (Qr (Rt (.inl rfl) [vS emp, vI r5.2.2] rfl (fun bs w hS => ?_)))))))))))))
      have hm : mBody c t = (c, emp, r5.2.2) := by unfold mBody; simp only [hr1, hr2, hr3, hr4, hr5, h1, h2, h3, h4, h5, ne_eq, not_true_eq_false, not_false_eq_true, if_true, if_false, reduceIte]
      exact ⟨(⟨c.kind, c.client, r1.1, r2.1, r3.1, ⟨r4.1, c.op.a, c.op.b, r5.1⟩⟩ : DCommand), by rw [hm]; rfl, ⟨fun h0 => absurd h0 (by rw [hm]; exact h5), ⟨hc.1, hc.2⟩⟩, hS.kp, hS.res _ (.head _)⟩
    | false =>
     have h4 := of_decide_eq_false h4
     refine Ci true rfl (Cs (Cg (Jq 3 [5, 4] 0 ⟨[(5, vI r4.2.2), (4, vS emp)], []⟩ (Ln (Qn (Cr (Qb (Qr (Qr (Qb (Qr (Rt (.inl rfl) [vS emp, vI r4.2.2] rfl (fun bs w hS => ?_)))))))))))))
     have hm : mBody c t = (c, emp, r4.2.2) := by unfold mBody; simp only [hr1, hr2, hr3, hr4, h1, h2, h3, h4, ne_eq, not_true_eq_false, not_false_eq_true, if_true, if_false, reduceIte]
     exact ⟨(⟨c.kind, c.client, r1.1, r2.1, r3.1, ⟨r4.1, c.op.a, c.op.b, c.op.n⟩⟩ : DCommand), by rw [hm]; rfl, ⟨fun h0 => absurd h0 (by rw [hm]; exact h4), ⟨hc.1, hc.2⟩⟩, hS.kp, hS.res _ (.head _)⟩
   | false =>
    have h3 := of_decide_eq_false h3
    refine Ci true rfl (Cs (Cg (Jq 3 [5, 4] 0 ⟨[(5, vI r3.2.2), (4, vS emp)], []⟩ (Ln (Qn (Cr (Qb (Qr (Qr (Qb (Qr (Rt (.inl rfl) [vS emp, vI r3.2.2] rfl (fun bs w hS => ?_)))))))))))))
    have hm : mBody c t = (c, emp, r3.2.2) := by unfold mBody; simp only [hr1, hr2, hr3, h1, h2, h3, ne_eq, not_true_eq_false, not_false_eq_true, if_true, if_false, reduceIte]
    exact ⟨(⟨c.kind, c.client, r1.1, r2.1, r3.1, ⟨c.op.kind, c.op.a, c.op.b, c.op.n⟩⟩ : DCommand), by rw [hm]; rfl, ⟨fun h0 => absurd h0 (by rw [hm]; exact h3), ⟨hc.1, hc.2⟩⟩, hS.kp, hS.res _ (.head _)⟩
  | false =>
   have h2 := of_decide_eq_false h2
   refine Ci true rfl (Cs (Cg (Jq 3 [5, 4] 0 ⟨[(5, vI r2.2.2), (4, vS emp)], []⟩ (Ln (Qn (Cr (Qb (Qr (Qr (Qb (Qr (Rt (.inl rfl) [vS emp, vI r2.2.2] rfl (fun bs w hS => ?_)))))))))))))
   have hm : mBody c t = (c, emp, r2.2.2) := by unfold mBody; simp only [hr1, hr2, h1, h2, ne_eq, not_true_eq_false, not_false_eq_true, if_true, if_false, reduceIte]
   exact ⟨(⟨c.kind, c.client, r1.1, r2.1, c.acked, ⟨c.op.kind, c.op.a, c.op.b, c.op.n⟩⟩ : DCommand), by rw [hm]; rfl, ⟨fun h0 => absurd h0 (by rw [hm]; exact h2), ⟨hc.1, hc.2⟩⟩, hS.kp, hS.res _ (.head _)⟩
 | false =>
  have h1 := of_decide_eq_false h1
  refine Ci true rfl (Cs (Cg (Jq 3 [5, 4] 0 ⟨[(5, vI r1.2.2), (4, vS emp)], []⟩ (Ln (Qn (Cr (Qb (Qr (Qr (Qb (Qr (Rt (.inl rfl) [vS emp, vI r1.2.2] rfl (fun bs w hS => ?_)))))))))))))
  have hm : mBody c t = (c, emp, r1.2.2) := by unfold mBody; simp only [hr1, h1, ne_eq, not_true_eq_false, not_false_eq_true, if_true, if_false, reduceIte]
  exact ⟨(⟨c.kind, c.client, r1.1, c.seq, c.acked, ⟨c.op.kind, c.op.a, c.op.b, c.op.n⟩⟩ : DCommand), by rw [hm]; rfl, ⟨fun h0 => absurd h0 (by rw [hm]; exact h1), ⟨hc.1, hc.2⟩⟩, hS.kp, hS.res _ (.head _)⟩

theorem command_Decode (s : ByteArray) (w : World) (hs : s.size ≤ 9223372036854775807) : Calls Try.prog 51 #[.string s] w fun e w' => e = .returned (.tuple #[.agg #[.int .i64 (mDecode s).1.kind, .int .i64 (mDecode s).1.client, .int .i64 (mDecode s).1.session, .int .i64 (mDecode s).1.seq, .int .i64 (mDecode s).1.acked, .int .i64 (mDecode s).1.op.kind, .string (mDecode s).1.op.a, .string (mDecode s).1.op.b, .int .i64 (mDecode s).1.op.n], .int .i64 (mDecode s).2]) ∧ Kp [] w w' := by
 have hu0 := (s.data.getD 0 0).toNat_lt
 have hu1 := (s.data.getD 1 0).toNat_lt
 have hex : (s.extract 2 s.size).size ≤ s.size := by simp
 refine calls_J0 46 Try.func51 rfl rfl [.string s] rfl ?_
 refine Cs (Cg (Jq 2 [2, 0] 1 ⟨[(2, .p 0 0), (0, vS s)], [⟨92, [vI 0, vI 0, vI 0, vI 0, vI 0, vI 0, vS emp, vS emp, vI 0]⟩]⟩ (Ln (Qn (Cs (Cs (Cg (Jq 3 [9, 2, 0] 1 ⟨[(9, vB (decide ((5000 : Int) < (s.size : Int)))), (2, .p 0 0), (0, vS s)], [⟨92, [vI 0, vI 0, vI 0, vI 0, vI 0, vI 0, vS emp, vS emp, vI 0]⟩]⟩ (Ln (Qn ?_))))))))))
 cases h1 : decide ((5000 : Int) < (s.size : Int)) with
 | true =>
  have h1 := of_decide_eq_true h1
  refine Ci true rfl (Cs (Cg (Jq 3 [3, 2] 1 ⟨[(3, vI 1), (2, .p 0 0)], [⟨92, [vI 0, vI 0, vI 0, vI 0, vI 0, vI 0, vS emp, vS emp, vI 0]⟩]⟩ (Ln (Qn (Cr (Qr (Rt (.inl rfl) [.v (.agg #[.int .i64 0, .int .i64 0, .int .i64 0, .int .i64 0, .int .i64 0, .int .i64 0, .string emp, .string emp, .int .i64 0]), vI 1] rfl (fun bs w hS => (⟨?_, hS.kp⟩))))))))))
  have hm : mDecode s = ((⟨0, 0, 0, 0, 0, ⟨0, emp, emp, 0⟩⟩ : DCommand), 1) := by
   have hk : (cmd0 s).kind = ((s.data.getD 0 0).toNat : Int) := rfl
   unfold mDecode
   repeat (first | rw [if_pos (by omega)] | rw [if_neg (by omega)])
   rfl
  rw [hm]
  rfl
 | false =>
  have h1 := of_decide_eq_false h1
  refine Ci false rfl (Ck (Qn (Cs (Cs (Cg (Jq 3 [13, 2, 0] 1 ⟨[(13, vB (decide ((s.size : Int) < 2))), (2, .p 0 0), (0, vS s)], [⟨92, [vI 0, vI 0, vI 0, vI 0, vI 0, vI 0, vS emp, vS emp, vI 0]⟩]⟩ (Ln (Qn ?_))))))))
  cases h2 : decide ((s.size : Int) < 2) with
  | true =>
   have h2 := of_decide_eq_true h2
   refine Ci true rfl (Cs (Cg (Jq 3 [3, 2] 1 ⟨[(3, vI 5), (2, .p 0 0)], [⟨92, [vI 0, vI 0, vI 0, vI 0, vI 0, vI 0, vS emp, vS emp, vI 0]⟩]⟩ (Ln (Qn (Cr (Qr (Rt (.inl rfl) [.v (.agg #[.int .i64 0, .int .i64 0, .int .i64 0, .int .i64 0, .int .i64 0, .int .i64 0, .string emp, .string emp, .int .i64 0]), vI 5] rfl (fun bs w hS => (⟨?_, hS.kp⟩))))))))))
   have hm : mDecode s = ((⟨0, 0, 0, 0, 0, ⟨0, emp, emp, 0⟩⟩ : DCommand), 5) := by
    have hk : (cmd0 s).kind = ((s.data.getD 0 0).toNat : Int) := rfl
    unfold mDecode
    repeat (first | rw [if_pos (by omega)] | rw [if_neg (by omega)])
    rfl
   rw [hm]
   rfl
  | false =>
   have h2 := of_decide_eq_false h2
   refine Ci false rfl (Ck (Qn (Cs (Cd 8 [] (.p 0 (.p 1 (.p 2 (.p 3 (.p 4 (.p 5 (.p 6 (.b 7 .nil .z)))))))) [] [] Try_mixed (by kernel_rfl) (pq_then pq_body) .slnil (Hq [(1, .sidx 0), (4, .sidx 1)] [(0, true), (1, true), (2, true), (3, true), (4, true), (5, true), (6, true)] [(21, .v (.agg #[.int .i64 ((s.data.getD 0 0).toNat : Int), .int .i64 ((s.data.getD 1 0).toNat : Int), .int .i64 0, .int .i64 0, .int .i64 0, .int .i64 0, .string emp, .string emp, .int .i64 0])), (20, vI ((s.data.getD 1 0).toNat : Int)), (19, .v (.int .u8 ((s.data.getD 1 0).toNat : Int))), (18, vS s), (17, vI ((s.data.getD 0 0).toNat : Int)), (16, .v (.int .u8 ((s.data.getD 0 0).toNat : Int))), (15, vS s), (13, vB false), (2, .p 0 0), (0, vS s)] [(0 : Int) = ((0 : Nat) : Int), 0 < s.size, 0 ≤ ((s.data.getD 0 0).toNat : Int), ((s.data.getD 0 0).toNat : Int) ≤ 255, (1 : Int) = ((1 : Nat) : Int), 1 < s.size, 0 ≤ ((s.data.getD 1 0).toNat : Int), ((s.data.getD 1 0).toNat : Int) ≤ 255] [] rfl (by kernel_rfl) (oc rfl (oc (by omega) (oc (by omega) (oc (by omega) (oc rfl (oc (by omega) (oc (by omega) (oc (by omega) on)))))))) wn (Hl ⟨[(4, .p 1 0), (21, .v (.agg #[.int .i64 ((s.data.getD 0 0).toNat : Int), .int .i64 ((s.data.getD 1 0).toNat : Int), .int .i64 0, .int .i64 0, .int .i64 0, .int .i64 0, .string emp, .string emp, .int .i64 0])), (20, vI ((s.data.getD 1 0).toNat : Int)), (19, .v (.int .u8 ((s.data.getD 1 0).toNat : Int))), (18, vS s), (17, vI ((s.data.getD 0 0).toNat : Int)), (16, .v (.int .u8 ((s.data.getD 0 0).toNat : Int))), (15, vS s), (13, vB false), (2, .p 0 0), (0, vS s)], [⟨92, [vI 0, vI 0, vI 0, vI 0, vI 0, vI 0, vS emp, vS emp, vI 0]⟩, ⟨92, [vI 0, vI 0, vI 0, vI 0, vI 0, vI 0, vS emp, vS emp, vI 0]⟩]⟩ (by kernel_rfl) (fun bs0 bs w hp hl hS => hS.down hp hl rfl (le_same le_nil) .slnil) (Hn (Jq 1 [4, 2, 0] 2 ⟨[(4, .p 1 0), (2, .p 0 0), (0, vS s)], [⟨92, [vI 0, vI 0, vI 0, vI 0, vI 0, vI 0, vS emp, vS emp, vI 0]⟩, ⟨92, [vI ((s.data.getD 0 0).toNat : Int), vI ((s.data.getD 1 0).toNat : Int), vI 0, vI 0, vI 0, vI 0, vS emp, vS emp, vI 0]⟩]⟩ (Ln (Qn (Cs (Cg (Jr 3 [(1, .sl 2 s.size)] [0, 4, 2] 2 ⟨[(0, vS (s.extract 2 s.size)), (4, .p 1 0), (2, .p 0 0)], [⟨92, [vI 0, vI 0, vI 0, vI 0, vI 0, vI 0, vS emp, vS emp, vI 0]⟩, ⟨92, [vI ((s.data.getD 0 0).toNat : Int), vI ((s.data.getD 1 0).toNat : Int), vI 0, vI 0, vI 0, vI 0, vS emp, vS emp, vI 0]⟩]⟩ [(2 : Int) = ((2 : Nat) : Int), s.size = s.size, 2 ≤ s.size] [] (by kernel_rfl) (oc rfl (oc rfl (oc (by omega) on))) wn (Ln (Qn (Cs (Cs (Cg (Jq 3 [26, 0, 4, 2] 2 ⟨[(26, vB (decide (((s.data.getD 0 0).toNat : Int) = 2))), (0, vS (s.extract 2 s.size)), (4, .p 1 0), (2, .p 0 0)], [⟨92, [vI 0, vI 0, vI 0, vI 0, vI 0, vI 0, vS emp, vS emp, vI 0]⟩, ⟨92, [vI ((s.data.getD 0 0).toNat : Int), vI ((s.data.getD 1 0).toNat : Int), vI 0, vI 0, vI 0, vI 0, vS emp, vS emp, vI 0]⟩]⟩ (Ln (Qn ?_)))))))))))))))))))))
   cases h3 : decide (((s.data.getD 0 0).toNat : Int) = 2) with
   | true =>
    have h3 := of_decide_eq_true h3
    refine Ci true rfl (Cs (Cg (Jq 1 [0, 4, 2] 2 ⟨[(0, vS (s.extract 2 s.size)), (4, .p 1 0), (2, .p 0 0)], [⟨92, [vI 0, vI 0, vI 0, vI 0, vI 0, vI 0, vS emp, vS emp, vI 0]⟩, ⟨92, [vI ((s.data.getD 0 0).toNat : Int), vI ((s.data.getD 1 0).toNat : Int), vI 0, vI 0, vI 0, vI 0, vS emp, vS emp, vI 0]⟩]⟩ (Ln (Qn (Cs (Cg (Jq 1 [28, 4, 2] 2 ⟨[(28, vS (s.extract 2 s.size)), (4, .p 1 0), (2, .p 0 0)], [⟨92, [vI 0, vI 0, vI 0, vI 0, vI 0, vI 0, vS emp, vS emp, vI 0]⟩, ⟨92, [vI ((s.data.getD 0 0).toNat : Int), vI ((s.data.getD 1 0).toNat : Int), vI 0, vI 0, vI 0, vI 0, vS emp, vS emp, vI 0]⟩]⟩ (Lb (σ := DCommand) 72 [] [.p 1 0, vS (s.extract 2 s.size)] 1 ⟨92, [vI ((s.data.getD 0 0).toNat : Int), vI ((s.data.getD 1 0).toNat : Int), vI 0, vI 0, vI 0, vI 0, vS emp, vS emp, vI 0]⟩ (fun y1 => .tuple #[.string (mBody (⟨((s.data.getD 0 0).toNat : Int), ((s.data.getD 1 0).toNat : Int), 0, 0, 0, ⟨0, emp, emp, 0⟩⟩ : DCommand) (s.extract 2 s.size)).2.1, .int .i64 (mBody (⟨((s.data.getD 0 0).toNat : Int), ((s.data.getD 1 0).toNat : Int), 0, 0, 0, ⟨0, emp, emp, 0⟩⟩ : DCommand) (s.extract 2 s.size)).2.2]) (fun y1 => [vI y1.kind, vI y1.client, vI y1.session, vI y1.seq, vI y1.acked, vI y1.op.kind, vS y1.op.a, vS y1.op.b, vI y1.op.n]) (fun y1 => ((mBody (⟨((s.data.getD 0 0).toNat : Int), ((s.data.getD 1 0).toNat : Int), 0, 0, 0, ⟨0, emp, emp, 0⟩⟩ : DCommand) (s.extract 2 s.size)).2.2 = 0 → y1 = (mBody (⟨((s.data.getD 0 0).toNat : Int), ((s.data.getD 1 0).toNat : Int), 0, 0, 0, ⟨0, emp, emp, 0⟩⟩ : DCommand) (s.extract 2 s.size)).1) ∧ Rds.ok y1) rfl (by simp) Try.call72 rfl rfl rfl rfl (fun bs w hS hb => (command_body (⟨((s.data.getD 0 0).toNat : Int), ((s.data.getD 1 0).toNat : Int), 0, 0, 0, ⟨0, emp, emp, 0⟩⟩ : DCommand) (bs.getD 1 0) (s.extract 2 s.size) w hb (by first | assumption | omega | (simp only [emp_size]; omega)) ⟨(by simp [emp_size]), (by simp [emp_size])⟩).mono (fun e w' ⟨y, h1, h2, h3, h4⟩ => ⟨y, h1, h2, h3, h4⟩)) ?_)))))))))
    rintro y1 ⟨hF1, hG1⟩
    generalize hbd : mBody (⟨((s.data.getD 0 0).toNat : Int), ((s.data.getD 1 0).toNat : Int), 0, 0, 0, ⟨0, emp, emp, 0⟩⟩ : DCommand) (s.extract 2 s.size) = bd at hF1 ⊢
    refine Jq 5 [5, 0, 4, 2] 2 ⟨[(5, vI bd.2.2), (0, vS bd.2.1), (4, .p 1 0), (2, .p 0 0)], [⟨92, [vI 0, vI 0, vI 0, vI 0, vI 0, vI 0, vS emp, vS emp, vI 0]⟩, ⟨92, y1.cs⟩]⟩ (Ln (Qn (Cs (Cg (Jq 2 [33, 5, 0, 4, 2] 2 ⟨[(33, vB (!(decide (bd.2.2 = 0)))), (5, vI bd.2.2), (0, vS bd.2.1), (4, .p 1 0), (2, .p 0 0)], [⟨92, [vI 0, vI 0, vI 0, vI 0, vI 0, vI 0, vS emp, vS emp, vI 0]⟩, ⟨92, y1.cs⟩]⟩ (Ln (Qn ?_)))))))
    cases h4 : decide (bd.2.2 = 0) with
    | true =>
     have h4 := of_decide_eq_true h4
     refine Ci false rfl (Ck (Qn (Cs (Cs (Cg (Jq 2 [37, 4, 2] 2 ⟨[(37, vB (!(decide (bd.2.1 = emp)))), (4, .p 1 0), (2, .p 0 0)], [⟨92, [vI 0, vI 0, vI 0, vI 0, vI 0, vI 0, vS emp, vS emp, vI 0]⟩, ⟨92, y1.cs⟩]⟩ (Ln (Qn ?_))))))))
     cases h5 : decide (bd.2.1 = emp) with
     | true =>
      have h5 := of_decide_eq_true h5
      have hzh5 : bd.2.1.size = 0 := by rw [h5]; rfl
      refine Ci false rfl (Ck (Qn (Cs (Cs (Cg (Jq 1 [39, 4, 2] 2 ⟨[(39, .v y1.val), (4, .p 1 0), (2, .p 0 0)], [⟨92, [vI 0, vI 0, vI 0, vI 0, vI 0, vI 0, vS emp, vS emp, vI 0]⟩, ⟨92, y1.cs⟩]⟩ (Lp 73 [] [.v y1.val] (.int .i64 (mCmd y1)) Try.call73 rfl rfl rfl rfl (fun bs w hS => command_Check (B := anyB) y1 w hG1) (Jq 1 [6, 4, 2] 2 ⟨[(6, vI (mCmd y1)), (4, .p 1 0), (2, .p 0 0)], [⟨92, [vI 0, vI 0, vI 0, vI 0, vI 0, vI 0, vS emp, vS emp, vI 0]⟩, ⟨92, y1.cs⟩]⟩ (Ln (Qn (Cs (Cg (Jq 2 [42, 6, 4, 2] 2 ⟨[(42, vB (!(decide (mCmd y1 = 0)))), (6, vI (mCmd y1)), (4, .p 1 0), (2, .p 0 0)], [⟨92, [vI 0, vI 0, vI 0, vI 0, vI 0, vI 0, vS emp, vS emp, vI 0]⟩, ⟨92, y1.cs⟩]⟩ (Ln (Qn ?_)))))))))))))))
      cases h6 : decide (mCmd y1 = 0) with
      | true =>
       have h6 := of_decide_eq_true h6
       refine Ci false rfl (Ck (Qn (Cs (Cg (Jq 3 [3, 2] 1 ⟨[(3, vI 0), (2, .p 0 0)], [⟨92, y1.cs⟩]⟩ (Ln (Qn (Cr (Rt (.inl rfl) [.v (.agg #[.int .i64 y1.kind, .int .i64 y1.client, .int .i64 y1.session, .int .i64 y1.seq, .int .i64 y1.acked, .int .i64 y1.op.kind, .string y1.op.a, .string y1.op.b, .int .i64 y1.op.n]), vI 0] rfl (fun bs w hS => (⟨?_, hS.kp⟩)))))))))))
       have hm : mDecode s = ((⟨y1.kind, y1.client, y1.session, y1.seq, y1.acked, ⟨y1.op.kind, y1.op.a, y1.op.b, y1.op.n⟩⟩ : DCommand), 0) := by
        have hk : (cmd0 s).kind = ((s.data.getD 0 0).toNat : Int) := rfl
        unfold mDecode
        repeat (first | rw [if_pos (by omega)] | rw [if_neg (by omega)])
        rw [show mBody (cmd0 s) (s.extract 2 s.size) = bd from hbd]
        have hbz : bd.2.2 = 0 := by assumption
        all_goals (simp only [mFin, cmd0, zOp, ← hF1 hbz, h4, h5, h6, ne_eq, not_true_eq_false, not_false_eq_true, if_true, if_false, reduceIte]; try rfl)
       rw [hm]
       rfl
      | false =>
       have h6 := of_decide_eq_false h6
       refine Ci true rfl (Cs (Cg (Jq 4 [3, 2] 1 ⟨[(3, vI (mCmd y1)), (2, .p 0 0)], [⟨92, [vI 0, vI 0, vI 0, vI 0, vI 0, vI 0, vS emp, vS emp, vI 0]⟩]⟩ (Ln (Qn (Cr (Qr (Rt (.inl rfl) [.v (.agg #[.int .i64 0, .int .i64 0, .int .i64 0, .int .i64 0, .int .i64 0, .int .i64 0, .string emp, .string emp, .int .i64 0]), vI (mCmd y1)] rfl (fun bs w hS => (⟨?_, hS.kp⟩))))))))))
       have hm : mDecode s = ((⟨0, 0, 0, 0, 0, ⟨0, emp, emp, 0⟩⟩ : DCommand), mCmd y1) := by
        have hk : (cmd0 s).kind = ((s.data.getD 0 0).toNat : Int) := rfl
        unfold mDecode
        repeat (first | rw [if_pos (by omega)] | rw [if_neg (by omega)])
        rw [show mBody (cmd0 s) (s.extract 2 s.size) = bd from hbd]
        have hbz : bd.2.2 = 0 := by assumption
        all_goals (simp only [mFin, cmd0, zOp, ← hF1 hbz, h4, h5, h6, ne_eq, not_true_eq_false, not_false_eq_true, if_true, if_false, reduceIte]; try rfl)
       rw [hm]
       rfl
     | false =>
      have h5 := of_decide_eq_false h5
      refine Ci true rfl (Cs (Cg (Jq 3 [3, 2] 1 ⟨[(3, vI 4), (2, .p 0 0)], [⟨92, [vI 0, vI 0, vI 0, vI 0, vI 0, vI 0, vS emp, vS emp, vI 0]⟩]⟩ (Ln (Qn (Cr (Qr (Rt (.inl rfl) [.v (.agg #[.int .i64 0, .int .i64 0, .int .i64 0, .int .i64 0, .int .i64 0, .int .i64 0, .string emp, .string emp, .int .i64 0]), vI 4] rfl (fun bs w hS => (⟨?_, hS.kp⟩))))))))))
      have hm : mDecode s = ((⟨0, 0, 0, 0, 0, ⟨0, emp, emp, 0⟩⟩ : DCommand), 4) := by
       have hk : (cmd0 s).kind = ((s.data.getD 0 0).toNat : Int) := rfl
       unfold mDecode
       repeat (first | rw [if_pos (by omega)] | rw [if_neg (by omega)])
       rw [show mBody (cmd0 s) (s.extract 2 s.size) = bd from hbd]
       have hbz : bd.2.2 = 0 := by assumption
       all_goals (simp only [mFin, cmd0, zOp, ← hF1 hbz, h4, h5, ne_eq, not_true_eq_false, not_false_eq_true, if_true, if_false, reduceIte]; try rfl)
      rw [hm]
      rfl
    | false =>
     have h4 := of_decide_eq_false h4
     refine Ci true rfl (Cs (Cg (Jq 4 [3, 2] 1 ⟨[(3, vI bd.2.2), (2, .p 0 0)], [⟨92, [vI 0, vI 0, vI 0, vI 0, vI 0, vI 0, vS emp, vS emp, vI 0]⟩]⟩ (Ln (Qn (Cr (Qr (Rt (.inl rfl) [.v (.agg #[.int .i64 0, .int .i64 0, .int .i64 0, .int .i64 0, .int .i64 0, .int .i64 0, .string emp, .string emp, .int .i64 0]), vI bd.2.2] rfl (fun bs w hS => (⟨?_, hS.kp⟩))))))))))
     have hm : mDecode s = ((⟨0, 0, 0, 0, 0, ⟨0, emp, emp, 0⟩⟩ : DCommand), bd.2.2) := by
      have hk : (cmd0 s).kind = ((s.data.getD 0 0).toNat : Int) := rfl
      unfold mDecode
      repeat (first | rw [if_pos (by omega)] | rw [if_neg (by omega)])
      rw [show mBody (cmd0 s) (s.extract 2 s.size) = bd from hbd]
      all_goals (simp only [mFin, cmd0, zOp, h4, ne_eq, not_true_eq_false, not_false_eq_true, if_true, if_false, reduceIte]; try rfl)
     rw [hm]
     rfl
   | false =>
    have h3 := of_decide_eq_false h3
    refine Ci false rfl (Ck (Qn (Cs (Cs (Cg (Jq 2 [37, 4, 2] 2 ⟨[(37, vB (!(decide ((s.extract 2 s.size) = emp)))), (4, .p 1 0), (2, .p 0 0)], [⟨92, [vI 0, vI 0, vI 0, vI 0, vI 0, vI 0, vS emp, vS emp, vI 0]⟩, ⟨92, [vI ((s.data.getD 0 0).toNat : Int), vI ((s.data.getD 1 0).toNat : Int), vI 0, vI 0, vI 0, vI 0, vS emp, vS emp, vI 0]⟩]⟩ (Ln (Qn ?_))))))))
    cases h7 : decide ((s.extract 2 s.size) = emp) with
    | true =>
     have h7 := of_decide_eq_true h7
     have hzh7 : (s.extract 2 s.size).size = 0 := by rw [h7]; rfl
     refine Ci false rfl (Ck (Qn (Cs (Cs (Cg (Jq 1 [39, 4, 2] 2 ⟨[(39, .v (.agg #[.int .i64 ((s.data.getD 0 0).toNat : Int), .int .i64 ((s.data.getD 1 0).toNat : Int), .int .i64 0, .int .i64 0, .int .i64 0, .int .i64 0, .string emp, .string emp, .int .i64 0])), (4, .p 1 0), (2, .p 0 0)], [⟨92, [vI 0, vI 0, vI 0, vI 0, vI 0, vI 0, vS emp, vS emp, vI 0]⟩, ⟨92, [vI ((s.data.getD 0 0).toNat : Int), vI ((s.data.getD 1 0).toNat : Int), vI 0, vI 0, vI 0, vI 0, vS emp, vS emp, vI 0]⟩]⟩ (Lp 73 [] [.v (.agg #[.int .i64 ((s.data.getD 0 0).toNat : Int), .int .i64 ((s.data.getD 1 0).toNat : Int), .int .i64 0, .int .i64 0, .int .i64 0, .int .i64 0, .string emp, .string emp, .int .i64 0])] (.int .i64 (mCmd (⟨((s.data.getD 0 0).toNat : Int), ((s.data.getD 1 0).toNat : Int), 0, 0, 0, ⟨0, emp, emp, 0⟩⟩ : DCommand))) Try.call73 rfl rfl rfl rfl (fun bs w hS => command_Check (B := anyB) (⟨((s.data.getD 0 0).toNat : Int), ((s.data.getD 1 0).toNat : Int), 0, 0, 0, ⟨0, emp, emp, 0⟩⟩ : DCommand) w ⟨(show emp.size ≤ 9223372036854775807 from (by first | assumption | omega | (simp only [emp_size]; omega))), (show emp.size ≤ 9223372036854775807 from (by first | assumption | omega | (simp only [emp_size]; omega)))⟩) (Jq 1 [6, 4, 2] 2 ⟨[(6, vI (mCmd (⟨((s.data.getD 0 0).toNat : Int), ((s.data.getD 1 0).toNat : Int), 0, 0, 0, ⟨0, emp, emp, 0⟩⟩ : DCommand))), (4, .p 1 0), (2, .p 0 0)], [⟨92, [vI 0, vI 0, vI 0, vI 0, vI 0, vI 0, vS emp, vS emp, vI 0]⟩, ⟨92, [vI ((s.data.getD 0 0).toNat : Int), vI ((s.data.getD 1 0).toNat : Int), vI 0, vI 0, vI 0, vI 0, vS emp, vS emp, vI 0]⟩]⟩ (Ln (Qn (Cs (Cg (Jq 2 [42, 6, 4, 2] 2 ⟨[(42, vB (!(decide (mCmd (⟨((s.data.getD 0 0).toNat : Int), ((s.data.getD 1 0).toNat : Int), 0, 0, 0, ⟨0, emp, emp, 0⟩⟩ : DCommand) = 0)))), (6, vI (mCmd (⟨((s.data.getD 0 0).toNat : Int), ((s.data.getD 1 0).toNat : Int), 0, 0, 0, ⟨0, emp, emp, 0⟩⟩ : DCommand))), (4, .p 1 0), (2, .p 0 0)], [⟨92, [vI 0, vI 0, vI 0, vI 0, vI 0, vI 0, vS emp, vS emp, vI 0]⟩, ⟨92, [vI ((s.data.getD 0 0).toNat : Int), vI ((s.data.getD 1 0).toNat : Int), vI 0, vI 0, vI 0, vI 0, vS emp, vS emp, vI 0]⟩]⟩ (Ln (Qn ?_)))))))))))))))
     cases h8 : decide (mCmd (⟨((s.data.getD 0 0).toNat : Int), ((s.data.getD 1 0).toNat : Int), 0, 0, 0, ⟨0, emp, emp, 0⟩⟩ : DCommand) = 0) with
     | true =>
      have h8 := of_decide_eq_true h8
      refine Ci false rfl (Ck (Qn (Cs (Cg (Jq 3 [3, 2] 1 ⟨[(3, vI 0), (2, .p 0 0)], [⟨92, [vI ((s.data.getD 0 0).toNat : Int), vI ((s.data.getD 1 0).toNat : Int), vI 0, vI 0, vI 0, vI 0, vS emp, vS emp, vI 0]⟩]⟩ (Ln (Qn (Cr (Rt (.inl rfl) [.v (.agg #[.int .i64 ((s.data.getD 0 0).toNat : Int), .int .i64 ((s.data.getD 1 0).toNat : Int), .int .i64 0, .int .i64 0, .int .i64 0, .int .i64 0, .string emp, .string emp, .int .i64 0]), vI 0] rfl (fun bs w hS => (⟨?_, hS.kp⟩)))))))))))
      have hm : mDecode s = ((⟨((s.data.getD 0 0).toNat : Int), ((s.data.getD 1 0).toNat : Int), 0, 0, 0, ⟨0, emp, emp, 0⟩⟩ : DCommand), 0) := by
       have hk : (cmd0 s).kind = ((s.data.getD 0 0).toNat : Int) := rfl
       unfold mDecode
       repeat (first | rw [if_pos (by omega)] | rw [if_neg (by omega)])
       all_goals (simp only [mFin, cmd0, zOp, h7, h8, ne_eq, not_true_eq_false, not_false_eq_true, if_true, if_false, reduceIte]; try rfl)
      rw [hm]
      rfl
     | false =>
      have h8 := of_decide_eq_false h8
      refine Ci true rfl (Cs (Cg (Jq 4 [3, 2] 1 ⟨[(3, vI (mCmd (⟨((s.data.getD 0 0).toNat : Int), ((s.data.getD 1 0).toNat : Int), 0, 0, 0, ⟨0, emp, emp, 0⟩⟩ : DCommand))), (2, .p 0 0)], [⟨92, [vI 0, vI 0, vI 0, vI 0, vI 0, vI 0, vS emp, vS emp, vI 0]⟩]⟩ (Ln (Qn (Cr (Qr (Rt (.inl rfl) [.v (.agg #[.int .i64 0, .int .i64 0, .int .i64 0, .int .i64 0, .int .i64 0, .int .i64 0, .string emp, .string emp, .int .i64 0]), vI (mCmd (⟨((s.data.getD 0 0).toNat : Int), ((s.data.getD 1 0).toNat : Int), 0, 0, 0, ⟨0, emp, emp, 0⟩⟩ : DCommand))] rfl (fun bs w hS => (⟨?_, hS.kp⟩))))))))))
      have hm : mDecode s = ((⟨0, 0, 0, 0, 0, ⟨0, emp, emp, 0⟩⟩ : DCommand), mCmd (⟨((s.data.getD 0 0).toNat : Int), ((s.data.getD 1 0).toNat : Int), 0, 0, 0, ⟨0, emp, emp, 0⟩⟩ : DCommand)) := by
       have hk : (cmd0 s).kind = ((s.data.getD 0 0).toNat : Int) := rfl
       unfold mDecode
       repeat (first | rw [if_pos (by omega)] | rw [if_neg (by omega)])
       all_goals (simp only [mFin, cmd0, zOp, h7, h8, ne_eq, not_true_eq_false, not_false_eq_true, if_true, if_false, reduceIte]; try rfl)
      rw [hm]
      rfl
    | false =>
     have h7 := of_decide_eq_false h7
     refine Ci true rfl (Cs (Cg (Jq 3 [3, 2] 1 ⟨[(3, vI 4), (2, .p 0 0)], [⟨92, [vI 0, vI 0, vI 0, vI 0, vI 0, vI 0, vS emp, vS emp, vI 0]⟩]⟩ (Ln (Qn (Cr (Qr (Rt (.inl rfl) [.v (.agg #[.int .i64 0, .int .i64 0, .int .i64 0, .int .i64 0, .int .i64 0, .int .i64 0, .string emp, .string emp, .int .i64 0]), vI 4] rfl (fun bs w hS => (⟨?_, hS.kp⟩))))))))))
     have hm : mDecode s = ((⟨0, 0, 0, 0, 0, ⟨0, emp, emp, 0⟩⟩ : DCommand), 4) := by
      have hk : (cmd0 s).kind = ((s.data.getD 0 0).toNat : Int) := rfl
      unfold mDecode
      repeat (first | rw [if_pos (by omega)] | rw [if_neg (by omega)])
      all_goals (simp only [mFin, cmd0, zOp, h7, ne_eq, not_true_eq_false, not_false_eq_true, if_true, if_false, reduceIte]; try rfl)
     rw [hm]
     rfl

theorem ref_CommandOf (s : ByteArray) (w : World) (hs : s.size ≤ 9223372036854775807) : Calls Try.prog 53 #[.string s] w fun e w' => e = .returned (.tuple #[.agg #[.int .i64 (mDecode s).1.kind, .int .i64 (mDecode s).1.client, .int .i64 (mDecode s).1.session, .int .i64 (mDecode s).1.seq, .int .i64 (mDecode s).1.acked, .int .i64 (mDecode s).1.op.kind, .string (mDecode s).1.op.a, .string (mDecode s).1.op.b, .int .i64 (mDecode s).1.op.n], .int .i64 (mDecode s).2]) ∧ Kp [] w w' := by
 have hu0 := (s.data.getD 0 0).toNat_lt
 have hu1 := (s.data.getD 1 0).toNat_lt
 have hex : (s.extract 2 s.size).size ≤ s.size := by simp
 refine calls_J0 110 Try.func53 rfl rfl [.string s] rfl ?_
 refine Cs (Cg (Jq 2 [2, 0] 1 ⟨[(2, .p 0 0), (0, vS s)], [⟨92, [vI 0, vI 0, vI 0, vI 0, vI 0, vI 0, vS emp, vS emp, vI 0]⟩]⟩ (Ln (Qn (Cs (Cs (Cg (Jq 3 [20, 2, 0] 1 ⟨[(20, vB (decide ((5000 : Int) < (s.size : Int)))), (2, .p 0 0), (0, vS s)], [⟨92, [vI 0, vI 0, vI 0, vI 0, vI 0, vI 0, vS emp, vS emp, vI 0]⟩]⟩ (Ln (Qn ?_))))))))))
 cases h1 : decide ((5000 : Int) < (s.size : Int)) with
 | true =>
  have h1 := of_decide_eq_true h1
  refine Ci true rfl (Cs (Cg (Jq 3 [3, 2] 1 ⟨[(3, vI 1), (2, .p 0 0)], [⟨92, [vI 0, vI 0, vI 0, vI 0, vI 0, vI 0, vS emp, vS emp, vI 0]⟩]⟩ (Ln (Qn (Cr (Qr (Rt (.inl rfl) [.v (.agg #[.int .i64 0, .int .i64 0, .int .i64 0, .int .i64 0, .int .i64 0, .int .i64 0, .string emp, .string emp, .int .i64 0]), vI 1] rfl (fun bs w hS => (⟨?_, hS.kp⟩))))))))))
  have hm : mDecode s = ((⟨0, 0, 0, 0, 0, ⟨0, emp, emp, 0⟩⟩ : DCommand), 1) := by
   have hk : (cmd0 s).kind = ((s.data.getD 0 0).toNat : Int) := rfl
   unfold mDecode
   repeat (first | rw [if_pos (by omega)] | rw [if_neg (by omega)])
   rfl
  rw [hm]
  rfl
 | false =>
  have h1 := of_decide_eq_false h1
  refine Ci false rfl (Ck (Qn (Cs (Cs (Cg (Jq 3 [24, 2, 0] 1 ⟨[(24, vB (decide ((s.size : Int) < 2))), (2, .p 0 0), (0, vS s)], [⟨92, [vI 0, vI 0, vI 0, vI 0, vI 0, vI 0, vS emp, vS emp, vI 0]⟩]⟩ (Ln (Qn ?_))))))))
  cases h2 : decide ((s.size : Int) < 2) with
  | true =>
   have h2 := of_decide_eq_true h2
   refine Ci true rfl (Cs (Cg (Jq 3 [3, 2] 1 ⟨[(3, vI 5), (2, .p 0 0)], [⟨92, [vI 0, vI 0, vI 0, vI 0, vI 0, vI 0, vS emp, vS emp, vI 0]⟩]⟩ (Ln (Qn (Cr (Qr (Rt (.inl rfl) [.v (.agg #[.int .i64 0, .int .i64 0, .int .i64 0, .int .i64 0, .int .i64 0, .int .i64 0, .string emp, .string emp, .int .i64 0]), vI 5] rfl (fun bs w hS => (⟨?_, hS.kp⟩))))))))))
   have hm : mDecode s = ((⟨0, 0, 0, 0, 0, ⟨0, emp, emp, 0⟩⟩ : DCommand), 5) := by
    have hk : (cmd0 s).kind = ((s.data.getD 0 0).toNat : Int) := rfl
    unfold mDecode
    repeat (first | rw [if_pos (by omega)] | rw [if_neg (by omega)])
    rfl
   rw [hm]
   rfl
  | false =>
   have h2 := of_decide_eq_false h2
   refine Ci false rfl (Ck (Qn (Cs (Cd 8 [] (.p 0 (.p 1 (.p 2 (.p 3 (.p 4 (.p 5 (.p 6 (.b 7 .nil .z)))))))) [] [] Try_mixed (by kernel_rfl) (pq_then pq_body) .slnil (Hq [(1, .sidx 0), (4, .sidx 1)] [(0, true), (1, true), (2, true), (3, true), (4, true), (5, true), (6, true)] [(32, .v (.agg #[.int .i64 ((s.data.getD 0 0).toNat : Int), .int .i64 ((s.data.getD 1 0).toNat : Int), .int .i64 0, .int .i64 0, .int .i64 0, .int .i64 0, .string emp, .string emp, .int .i64 0])), (31, vI ((s.data.getD 1 0).toNat : Int)), (30, .v (.int .u8 ((s.data.getD 1 0).toNat : Int))), (29, vS s), (28, vI ((s.data.getD 0 0).toNat : Int)), (27, .v (.int .u8 ((s.data.getD 0 0).toNat : Int))), (26, vS s), (24, vB false), (2, .p 0 0), (0, vS s)] [(0 : Int) = ((0 : Nat) : Int), 0 < s.size, 0 ≤ ((s.data.getD 0 0).toNat : Int), ((s.data.getD 0 0).toNat : Int) ≤ 255, (1 : Int) = ((1 : Nat) : Int), 1 < s.size, 0 ≤ ((s.data.getD 1 0).toNat : Int), ((s.data.getD 1 0).toNat : Int) ≤ 255] [] rfl (by kernel_rfl) (oc rfl (oc (by omega) (oc (by omega) (oc (by omega) (oc rfl (oc (by omega) (oc (by omega) (oc (by omega) on)))))))) wn (Hl ⟨[(4, .p 1 0), (32, .v (.agg #[.int .i64 ((s.data.getD 0 0).toNat : Int), .int .i64 ((s.data.getD 1 0).toNat : Int), .int .i64 0, .int .i64 0, .int .i64 0, .int .i64 0, .string emp, .string emp, .int .i64 0])), (31, vI ((s.data.getD 1 0).toNat : Int)), (30, .v (.int .u8 ((s.data.getD 1 0).toNat : Int))), (29, vS s), (28, vI ((s.data.getD 0 0).toNat : Int)), (27, .v (.int .u8 ((s.data.getD 0 0).toNat : Int))), (26, vS s), (24, vB false), (2, .p 0 0), (0, vS s)], [⟨92, [vI 0, vI 0, vI 0, vI 0, vI 0, vI 0, vS emp, vS emp, vI 0]⟩, ⟨92, [vI 0, vI 0, vI 0, vI 0, vI 0, vI 0, vS emp, vS emp, vI 0]⟩]⟩ (by kernel_rfl) (fun bs0 bs w hp hl hS => hS.down hp hl rfl (le_same le_nil) .slnil) (Hn (Jq 1 [4, 2, 0] 2 ⟨[(4, .p 1 0), (2, .p 0 0), (0, vS s)], [⟨92, [vI 0, vI 0, vI 0, vI 0, vI 0, vI 0, vS emp, vS emp, vI 0]⟩, ⟨92, [vI ((s.data.getD 0 0).toNat : Int), vI ((s.data.getD 1 0).toNat : Int), vI 0, vI 0, vI 0, vI 0, vS emp, vS emp, vI 0]⟩]⟩ (Ln (Qn (Cs (Cg (Jr 3 [(1, .sl 2 s.size)] [5, 4, 2] 2 ⟨[(5, vS (s.extract 2 s.size)), (4, .p 1 0), (2, .p 0 0)], [⟨92, [vI 0, vI 0, vI 0, vI 0, vI 0, vI 0, vS emp, vS emp, vI 0]⟩, ⟨92, [vI ((s.data.getD 0 0).toNat : Int), vI ((s.data.getD 1 0).toNat : Int), vI 0, vI 0, vI 0, vI 0, vS emp, vS emp, vI 0]⟩]⟩ [(2 : Int) = ((2 : Nat) : Int), s.size = s.size, 2 ≤ s.size] [] (by kernel_rfl) (oc rfl (oc rfl (oc (by omega) on))) wn (Ln (Qn (Cs (Cs (Cg (Jq 3 [37, 5, 4, 2] 2 ⟨[(37, vB (decide (((s.data.getD 0 0).toNat : Int) = 2))), (5, vS (s.extract 2 s.size)), (4, .p 1 0), (2, .p 0 0)], [⟨92, [vI 0, vI 0, vI 0, vI 0, vI 0, vI 0, vS emp, vS emp, vI 0]⟩, ⟨92, [vI ((s.data.getD 0 0).toNat : Int), vI ((s.data.getD 1 0).toNat : Int), vI 0, vI 0, vI 0, vI 0, vS emp, vS emp, vI 0]⟩]⟩ (Ln (Qn ?_)))))))))))))))))))))
   cases h3 : decide (((s.data.getD 0 0).toNat : Int) = 2) with
   | true =>
    have h3 := of_decide_eq_true h3
    refine Ci true rfl (Cs (Cg (Jq 1 [6, 5, 4, 2] 3 ⟨[(6, .p 2 0), (5, vS (s.extract 2 s.size)), (4, .p 1 0), (2, .p 0 0)], [⟨92, [vI 0, vI 0, vI 0, vI 0, vI 0, vI 0, vS emp, vS emp, vI 0]⟩, ⟨92, [vI ((s.data.getD 0 0).toNat : Int), vI ((s.data.getD 1 0).toNat : Int), vI 0, vI 0, vI 0, vI 0, vS emp, vS emp, vI 0]⟩, ⟨117, [vI 0, vI 0, vI 0, vI 0, vI 0]⟩]⟩ (Ln (Qn (Cs (Cs (Cg (Jq 1 [7, 6, 5, 4, 2] 3 ⟨[(7, vI 0), (6, .p 2 0), (5, vS (s.extract 2 s.size)), (4, .p 1 0), (2, .p 0 0)], [⟨92, [vI 0, vI 0, vI 0, vI 0, vI 0, vI 0, vS emp, vS emp, vI 0]⟩, ⟨92, [vI ((s.data.getD 0 0).toNat : Int), vI ((s.data.getD 1 0).toNat : Int), vI 0, vI 0, vI 0, vI 0, vS emp, vS emp, vI 0]⟩, ⟨117, [vI 0, vI 0, vI 0, vI 0, vI 0]⟩]⟩ (Ln (Qn (Cb (c_unroll (n := 6) (Cs (Cs (Cg (Jq 2 [39, 7, 6, 5, 4, 2] 3 ⟨[(39, vB true), (7, vI 0), (6, .p 2 0), (5, vS (s.extract 2 s.size)), (4, .p 1 0), (2, .p 0 0)], [⟨92, [vI 0, vI 0, vI 0, vI 0, vI 0, vI 0, vS emp, vS emp, vI 0]⟩, ⟨92, [vI ((s.data.getD 0 0).toNat : Int), vI ((s.data.getD 1 0).toNat : Int), vI 0, vI 0, vI 0, vI 0, vS emp, vS emp, vI 0]⟩, ⟨117, [vI 0, vI 0, vI 0, vI 0, vI 0]⟩]⟩ (Ln (Qn (Ci true rfl (Ck (Qn (Cs (Cb (Cs (Cg (Jq 1 [43, 7, 6, 4, 2] 3 ⟨[(43, vS (s.extract 2 s.size)), (7, vI 0), (6, .p 2 0), (4, .p 1 0), (2, .p 0 0)], [⟨92, [vI 0, vI 0, vI 0, vI 0, vI 0, vI 0, vS emp, vS emp, vI 0]⟩, ⟨92, [vI ((s.data.getD 0 0).toNat : Int), vI ((s.data.getD 1 0).toNat : Int), vI 0, vI 0, vI 0, vI 0, vS emp, vS emp, vI 0]⟩, ⟨117, [vI 0, vI 0, vI 0, vI 0, vI 0]⟩]⟩ (Lp 69 [] [vS (s.extract 2 s.size)] (.tuple #[.int .i64 (mRead (s.extract 2 s.size)).1, .string (mRead (s.extract 2 s.size)).2.1, .int .i64 (mRead (s.extract 2 s.size)).2.2]) Try.call69 rfl rfl rfl rfl (fun bs w hS => ref_NumberOf _ w (by first | assumption | omega | (simp only [emp_size]; omega))) ?_))))))))))))))))))))))))))))
    have hzr1 := mRead_bd (s.extract 2 s.size)
    generalize hr1 : mRead (s.extract 2 s.size) = r1 at hzr1 ⊢
    refine Jq 7 [10, 9, 8, 7, 6, 4, 2] 3 ⟨[(10, vI r1.2.2), (9, vS r1.2.1), (8, vI r1.1), (7, vI 0), (6, .p 2 0), (4, .p 1 0), (2, .p 0 0)], [⟨92, [vI 0, vI 0, vI 0, vI 0, vI 0, vI 0, vS emp, vS emp, vI 0]⟩, ⟨92, [vI ((s.data.getD 0 0).toNat : Int), vI ((s.data.getD 1 0).toNat : Int), vI 0, vI 0, vI 0, vI 0, vS emp, vS emp, vI 0]⟩, ⟨117, [vI 0, vI 0, vI 0, vI 0, vI 0]⟩]⟩ (Ln (Qn (Cs (Cs (Cg (Jq 2 [49, 10, 9, 8, 7, 6, 4, 2] 3 ⟨[(49, vB (!(decide (r1.2.2 = 0)))), (10, vI r1.2.2), (9, vS r1.2.1), (8, vI r1.1), (7, vI 0), (6, .p 2 0), (4, .p 1 0), (2, .p 0 0)], [⟨92, [vI 0, vI 0, vI 0, vI 0, vI 0, vI 0, vS emp, vS emp, vI 0]⟩, ⟨92, [vI ((s.data.getD 0 0).toNat : Int), vI ((s.data.getD 1 0).toNat : Int), vI 0, vI 0, vI 0, vI 0, vS emp, vS emp, vI 0]⟩, ⟨117, [vI 0, vI 0, vI 0, vI 0, vI 0]⟩]⟩ (Ln (Qn ?_))))))))
    cases h4 : decide (r1.2.2 = 0) with
    | true =>
     have h4 := of_decide_eq_true h4
     refine Ci false rfl (Ck (Qn (Cs (Cg (Jr 4 [(2, .idx default 0)] [9, 7, 6, 4, 2] 3 ⟨[(9, vS r1.2.1), (7, vI 0), (6, .p 2 0), (4, .p 1 0), (2, .p 0 0)], [⟨92, [vI 0, vI 0, vI 0, vI 0, vI 0, vI 0, vS emp, vS emp, vI 0]⟩, ⟨92, [vI ((s.data.getD 0 0).toNat : Int), vI ((s.data.getD 1 0).toNat : Int), vI 0, vI 0, vI 0, vI 0, vS emp, vS emp, vI 0]⟩, ⟨117, [vI r1.1, vI 0, vI 0, vI 0, vI 0]⟩]⟩ [(0 : Int) = ((0 : Nat) : Int), 0 < 5] [] (by kernel_rfl) (oc rfl (oc (by omega) on)) wn (Ln (Qn (Cg (Jq 2 [5, 7, 6, 4, 2] 3 ⟨[(5, vS r1.2.1), (7, vI 0), (6, .p 2 0), (4, .p 1 0), (2, .p 0 0)], [⟨92, [vI 0, vI 0, vI 0, vI 0, vI 0, vI 0, vS emp, vS emp, vI 0]⟩, ⟨92, [vI ((s.data.getD 0 0).toNat : Int), vI ((s.data.getD 1 0).toNat : Int), vI 0, vI 0, vI 0, vI 0, vS emp, vS emp, vI 0]⟩, ⟨117, [vI r1.1, vI 0, vI 0, vI 0, vI 0]⟩]⟩ (Ln (q_block_normal (Qn (Cg (Jr 3 [] [7, 5, 6, 4, 2] 3 ⟨[(7, vI 1), (5, vS r1.2.1), (6, .p 2 0), (4, .p 1 0), (2, .p 0 0)], [⟨92, [vI 0, vI 0, vI 0, vI 0, vI 0, vI 0, vS emp, vS emp, vI 0]⟩, ⟨92, [vI ((s.data.getD 0 0).toNat : Int), vI ((s.data.getD 1 0).toNat : Int), vI 0, vI 0, vI 0, vI 0, vS emp, vS emp, vI 0]⟩, ⟨117, [vI r1.1, vI 0, vI 0, vI 0, vI 0]⟩]⟩ [inR (1)] [] (by kernel_rfl) (oc (by unfold inR; omega) on) wn (Ln (q_round (Cs (Cs (Cg (Jq 2 [39, 7, 5, 6, 4, 2] 3 ⟨[(39, vB true), (7, vI 1), (5, vS r1.2.1), (6, .p 2 0), (4, .p 1 0), (2, .p 0 0)], [⟨92, [vI 0, vI 0, vI 0, vI 0, vI 0, vI 0, vS emp, vS emp, vI 0]⟩, ⟨92, [vI ((s.data.getD 0 0).toNat : Int), vI ((s.data.getD 1 0).toNat : Int), vI 0, vI 0, vI 0, vI 0, vS emp, vS emp, vI 0]⟩, ⟨117, [vI r1.1, vI 0, vI 0, vI 0, vI 0]⟩]⟩ (Ln (Qn (Ci true rfl (Ck (Qn (Cs (Cb (Cs (Cg (Jq 1 [43, 7, 6, 4, 2] 3 ⟨[(43, vS r1.2.1), (7, vI 1), (6, .p 2 0), (4, .p 1 0), (2, .p 0 0)], [⟨92, [vI 0, vI 0, vI 0, vI 0, vI 0, vI 0, vS emp, vS emp, vI 0]⟩, ⟨92, [vI ((s.data.getD 0 0).toNat : Int), vI ((s.data.getD 1 0).toNat : Int), vI 0, vI 0, vI 0, vI 0, vS emp, vS emp, vI 0]⟩, ⟨117, [vI r1.1, vI 0, vI 0, vI 0, vI 0]⟩]⟩ (Lp 69 [] [vS r1.2.1] (.tuple #[.int .i64 (mRead r1.2.1).1, .string (mRead r1.2.1).2.1, .int .i64 (mRead r1.2.1).2.2]) Try.call69 rfl rfl rfl rfl (fun bs w hS => ref_NumberOf _ w (by first | assumption | omega | (simp only [emp_size]; omega))) ?_)))))))))))))))))))))))))))))))
     have hzr2 := mRead_bd r1.2.1
     generalize hr2 : mRead r1.2.1 = r2 at hzr2 ⊢
     refine Jq 7 [10, 9, 8, 7, 6, 4, 2] 3 ⟨[(10, vI r2.2.2), (9, vS r2.2.1), (8, vI r2.1), (7, vI 1), (6, .p 2 0), (4, .p 1 0), (2, .p 0 0)], [⟨92, [vI 0, vI 0, vI 0, vI 0, vI 0, vI 0, vS emp, vS emp, vI 0]⟩, ⟨92, [vI ((s.data.getD 0 0).toNat : Int), vI ((s.data.getD 1 0).toNat : Int), vI 0, vI 0, vI 0, vI 0, vS emp, vS emp, vI 0]⟩, ⟨117, [vI r1.1, vI 0, vI 0, vI 0, vI 0]⟩]⟩ (Ln (Qn (Cs (Cs (Cg (Jq 2 [49, 10, 9, 8, 7, 6, 4, 2] 3 ⟨[(49, vB (!(decide (r2.2.2 = 0)))), (10, vI r2.2.2), (9, vS r2.2.1), (8, vI r2.1), (7, vI 1), (6, .p 2 0), (4, .p 1 0), (2, .p 0 0)], [⟨92, [vI 0, vI 0, vI 0, vI 0, vI 0, vI 0, vS emp, vS emp, vI 0]⟩, ⟨92, [vI ((s.data.getD 0 0).toNat : Int), vI ((s.data.getD 1 0).toNat : Int), vI 0, vI 0, vI 0, vI 0, vS emp, vS emp, vI 0]⟩, ⟨117, [vI r1.1, vI 0, vI 0, vI 0, vI 0]⟩]⟩ (Ln (Qn ?_))))))))
     cases h5 : decide (r2.2.2 = 0) with
     | true =>
      have h5 := of_decide_eq_true h5
      refine Ci false rfl (Ck (Qn (Cs (Cg (Jr 4 [(2, .idx default 1)] [9, 7, 6, 4, 2] 3 ⟨[(9, vS r2.2.1), (7, vI 1), (6, .p 2 0), (4, .p 1 0), (2, .p 0 0)], [⟨92, [vI 0, vI 0, vI 0, vI 0, vI 0, vI 0, vS emp, vS emp, vI 0]⟩, ⟨92, [vI ((s.data.getD 0 0).toNat : Int), vI ((s.data.getD 1 0).toNat : Int), vI 0, vI 0, vI 0, vI 0, vS emp, vS emp, vI 0]⟩, ⟨117, [vI r1.1, vI r2.1, vI 0, vI 0, vI 0]⟩]⟩ [(1 : Int) = ((1 : Nat) : Int), 1 < 5] [] (by kernel_rfl) (oc rfl (oc (by omega) on)) wn (Ln (Qn (Cg (Jq 2 [5, 7, 6, 4, 2] 3 ⟨[(5, vS r2.2.1), (7, vI 1), (6, .p 2 0), (4, .p 1 0), (2, .p 0 0)], [⟨92, [vI 0, vI 0, vI 0, vI 0, vI 0, vI 0, vS emp, vS emp, vI 0]⟩, ⟨92, [vI ((s.data.getD 0 0).toNat : Int), vI ((s.data.getD 1 0).toNat : Int), vI 0, vI 0, vI 0, vI 0, vS emp, vS emp, vI 0]⟩, ⟨117, [vI r1.1, vI r2.1, vI 0, vI 0, vI 0]⟩]⟩ (Ln (q_block_normal (Qn (Cg (Jr 3 [] [7, 5, 6, 4, 2] 3 ⟨[(7, vI 2), (5, vS r2.2.1), (6, .p 2 0), (4, .p 1 0), (2, .p 0 0)], [⟨92, [vI 0, vI 0, vI 0, vI 0, vI 0, vI 0, vS emp, vS emp, vI 0]⟩, ⟨92, [vI ((s.data.getD 0 0).toNat : Int), vI ((s.data.getD 1 0).toNat : Int), vI 0, vI 0, vI 0, vI 0, vS emp, vS emp, vI 0]⟩, ⟨117, [vI r1.1, vI r2.1, vI 0, vI 0, vI 0]⟩]⟩ [inR (2)] [] (by kernel_rfl) (oc (by unfold inR; omega) on) wn (Ln (q_round (Cs (Cs (Cg (Jq 2 [39, 7, 5, 6, 4, 2] 3 ⟨[(39, vB true), (7, vI 2), (5, vS r2.2.1), (6, .p 2 0), (4, .p 1 0), (2, .p 0 0)], [⟨92, [vI 0, vI 0, vI 0, vI 0, vI 0, vI 0, vS emp, vS emp, vI 0]⟩, ⟨92, [vI ((s.data.getD 0 0).toNat : Int), vI ((s.data.getD 1 0).toNat : Int), vI 0, vI 0, vI 0, vI 0, vS emp, vS emp, vI 0]⟩, ⟨117, [vI r1.1, vI r2.1, vI 0, vI 0, vI 0]⟩]⟩ (Ln (Qn (Ci true rfl (Ck (Qn (Cs (Cb (Cs (Cg (Jq 1 [43, 7, 6, 4, 2] 3 ⟨[(43, vS r2.2.1), (7, vI 2), (6, .p 2 0), (4, .p 1 0), (2, .p 0 0)], [⟨92, [vI 0, vI 0, vI 0, vI 0, vI 0, vI 0, vS emp, vS emp, vI 0]⟩, ⟨92, [vI ((s.data.getD 0 0).toNat : Int), vI ((s.data.getD 1 0).toNat : Int), vI 0, vI 0, vI 0, vI 0, vS emp, vS emp, vI 0]⟩, ⟨117, [vI r1.1, vI r2.1, vI 0, vI 0, vI 0]⟩]⟩ (Lp 69 [] [vS r2.2.1] (.tuple #[.int .i64 (mRead r2.2.1).1, .string (mRead r2.2.1).2.1, .int .i64 (mRead r2.2.1).2.2]) Try.call69 rfl rfl rfl rfl (fun bs w hS => ref_NumberOf _ w (by first | assumption | omega | (simp only [emp_size]; omega))) ?_)))))))))))))))))))))))))))))))
      have hzr3 := mRead_bd r2.2.1
      generalize hr3 : mRead r2.2.1 = r3 at hzr3 ⊢
      refine Jq 7 [10, 9, 8, 7, 6, 4, 2] 3 ⟨[(10, vI r3.2.2), (9, vS r3.2.1), (8, vI r3.1), (7, vI 2), (6, .p 2 0), (4, .p 1 0), (2, .p 0 0)], [⟨92, [vI 0, vI 0, vI 0, vI 0, vI 0, vI 0, vS emp, vS emp, vI 0]⟩, ⟨92, [vI ((s.data.getD 0 0).toNat : Int), vI ((s.data.getD 1 0).toNat : Int), vI 0, vI 0, vI 0, vI 0, vS emp, vS emp, vI 0]⟩, ⟨117, [vI r1.1, vI r2.1, vI 0, vI 0, vI 0]⟩]⟩ (Ln (Qn (Cs (Cs (Cg (Jq 2 [49, 10, 9, 8, 7, 6, 4, 2] 3 ⟨[(49, vB (!(decide (r3.2.2 = 0)))), (10, vI r3.2.2), (9, vS r3.2.1), (8, vI r3.1), (7, vI 2), (6, .p 2 0), (4, .p 1 0), (2, .p 0 0)], [⟨92, [vI 0, vI 0, vI 0, vI 0, vI 0, vI 0, vS emp, vS emp, vI 0]⟩, ⟨92, [vI ((s.data.getD 0 0).toNat : Int), vI ((s.data.getD 1 0).toNat : Int), vI 0, vI 0, vI 0, vI 0, vS emp, vS emp, vI 0]⟩, ⟨117, [vI r1.1, vI r2.1, vI 0, vI 0, vI 0]⟩]⟩ (Ln (Qn ?_))))))))
      cases h6 : decide (r3.2.2 = 0) with
      | true =>
       have h6 := of_decide_eq_true h6
       refine Ci false rfl (Ck (Qn (Cs (Cg (Jr 4 [(2, .idx default 2)] [9, 7, 6, 4, 2] 3 ⟨[(9, vS r3.2.1), (7, vI 2), (6, .p 2 0), (4, .p 1 0), (2, .p 0 0)], [⟨92, [vI 0, vI 0, vI 0, vI 0, vI 0, vI 0, vS emp, vS emp, vI 0]⟩, ⟨92, [vI ((s.data.getD 0 0).toNat : Int), vI ((s.data.getD 1 0).toNat : Int), vI 0, vI 0, vI 0, vI 0, vS emp, vS emp, vI 0]⟩, ⟨117, [vI r1.1, vI r2.1, vI r3.1, vI 0, vI 0]⟩]⟩ [(2 : Int) = ((2 : Nat) : Int), 2 < 5] [] (by kernel_rfl) (oc rfl (oc (by omega) on)) wn (Ln (Qn (Cg (Jq 2 [5, 7, 6, 4, 2] 3 ⟨[(5, vS r3.2.1), (7, vI 2), (6, .p 2 0), (4, .p 1 0), (2, .p 0 0)], [⟨92, [vI 0, vI 0, vI 0, vI 0, vI 0, vI 0, vS emp, vS emp, vI 0]⟩, ⟨92, [vI ((s.data.getD 0 0).toNat : Int), vI ((s.data.getD 1 0).toNat : Int), vI 0, vI 0, vI 0, vI 0, vS emp, vS emp, vI 0]⟩, ⟨117, [vI r1.1, vI r2.1, vI r3.1, vI 0, vI 0]⟩]⟩ (Ln (q_block_normal (Qn (Cg (Jr 3 [] [7, 5, 6, 4, 2] 3 ⟨[(7, vI 3), (5, vS r3.2.1), (6, .p 2 0), (4, .p 1 0), (2, .p 0 0)], [⟨92, [vI 0, vI 0, vI 0, vI 0, vI 0, vI 0, vS emp, vS emp, vI 0]⟩, ⟨92, [vI ((s.data.getD 0 0).toNat : Int), vI ((s.data.getD 1 0).toNat : Int), vI 0, vI 0, vI 0, vI 0, vS emp, vS emp, vI 0]⟩, ⟨117, [vI r1.1, vI r2.1, vI r3.1, vI 0, vI 0]⟩]⟩ [inR (3)] [] (by kernel_rfl) (oc (by unfold inR; omega) on) wn (Ln (q_round (Cs (Cs (Cg (Jq 2 [39, 7, 5, 6, 4, 2] 3 ⟨[(39, vB true), (7, vI 3), (5, vS r3.2.1), (6, .p 2 0), (4, .p 1 0), (2, .p 0 0)], [⟨92, [vI 0, vI 0, vI 0, vI 0, vI 0, vI 0, vS emp, vS emp, vI 0]⟩, ⟨92, [vI ((s.data.getD 0 0).toNat : Int), vI ((s.data.getD 1 0).toNat : Int), vI 0, vI 0, vI 0, vI 0, vS emp, vS emp, vI 0]⟩, ⟨117, [vI r1.1, vI r2.1, vI r3.1, vI 0, vI 0]⟩]⟩ (Ln (Qn (Ci true rfl (Ck (Qn (Cs (Cb (Cs (Cg (Jq 1 [43, 7, 6, 4, 2] 3 ⟨[(43, vS r3.2.1), (7, vI 3), (6, .p 2 0), (4, .p 1 0), (2, .p 0 0)], [⟨92, [vI 0, vI 0, vI 0, vI 0, vI 0, vI 0, vS emp, vS emp, vI 0]⟩, ⟨92, [vI ((s.data.getD 0 0).toNat : Int), vI ((s.data.getD 1 0).toNat : Int), vI 0, vI 0, vI 0, vI 0, vS emp, vS emp, vI 0]⟩, ⟨117, [vI r1.1, vI r2.1, vI r3.1, vI 0, vI 0]⟩]⟩ (Lp 69 [] [vS r3.2.1] (.tuple #[.int .i64 (mRead r3.2.1).1, .string (mRead r3.2.1).2.1, .int .i64 (mRead r3.2.1).2.2]) Try.call69 rfl rfl rfl rfl (fun bs w hS => ref_NumberOf _ w (by first | assumption | omega | (simp only [emp_size]; omega))) ?_)))))))))))))))))))))))))))))))
       have hzr4 := mRead_bd r3.2.1
       generalize hr4 : mRead r3.2.1 = r4 at hzr4 ⊢
       refine Jq 7 [10, 9, 8, 7, 6, 4, 2] 3 ⟨[(10, vI r4.2.2), (9, vS r4.2.1), (8, vI r4.1), (7, vI 3), (6, .p 2 0), (4, .p 1 0), (2, .p 0 0)], [⟨92, [vI 0, vI 0, vI 0, vI 0, vI 0, vI 0, vS emp, vS emp, vI 0]⟩, ⟨92, [vI ((s.data.getD 0 0).toNat : Int), vI ((s.data.getD 1 0).toNat : Int), vI 0, vI 0, vI 0, vI 0, vS emp, vS emp, vI 0]⟩, ⟨117, [vI r1.1, vI r2.1, vI r3.1, vI 0, vI 0]⟩]⟩ (Ln (Qn (Cs (Cs (Cg (Jq 2 [49, 10, 9, 8, 7, 6, 4, 2] 3 ⟨[(49, vB (!(decide (r4.2.2 = 0)))), (10, vI r4.2.2), (9, vS r4.2.1), (8, vI r4.1), (7, vI 3), (6, .p 2 0), (4, .p 1 0), (2, .p 0 0)], [⟨92, [vI 0, vI 0, vI 0, vI 0, vI 0, vI 0, vS emp, vS emp, vI 0]⟩, ⟨92, [vI ((s.data.getD 0 0).toNat : Int), vI ((s.data.getD 1 0).toNat : Int), vI 0, vI 0, vI 0, vI 0, vS emp, vS emp, vI 0]⟩, ⟨117, [vI r1.1, vI r2.1, vI r3.1, vI 0, vI 0]⟩]⟩ (Ln (Qn ?_))))))))
       cases h7 : decide (r4.2.2 = 0) with
       | true =>
        have h7 := of_decide_eq_true h7
        refine Ci false rfl (Ck (Qn (Cs (Cg (Jr 4 [(2, .idx default 3)] [9, 7, 6, 4, 2] 3 ⟨[(9, vS r4.2.1), (7, vI 3), (6, .p 2 0), (4, .p 1 0), (2, .p 0 0)], [⟨92, [vI 0, vI 0, vI 0, vI 0, vI 0, vI 0, vS emp, vS emp, vI 0]⟩, ⟨92, [vI ((s.data.getD 0 0).toNat : Int), vI ((s.data.getD 1 0).toNat : Int), vI 0, vI 0, vI 0, vI 0, vS emp, vS emp, vI 0]⟩, ⟨117, [vI r1.1, vI r2.1, vI r3.1, vI r4.1, vI 0]⟩]⟩ [(3 : Int) = ((3 : Nat) : Int), 3 < 5] [] (by kernel_rfl) (oc rfl (oc (by omega) on)) wn (Ln (Qn (Cg (Jq 2 [5, 7, 6, 4, 2] 3 ⟨[(5, vS r4.2.1), (7, vI 3), (6, .p 2 0), (4, .p 1 0), (2, .p 0 0)], [⟨92, [vI 0, vI 0, vI 0, vI 0, vI 0, vI 0, vS emp, vS emp, vI 0]⟩, ⟨92, [vI ((s.data.getD 0 0).toNat : Int), vI ((s.data.getD 1 0).toNat : Int), vI 0, vI 0, vI 0, vI 0, vS emp, vS emp, vI 0]⟩, ⟨117, [vI r1.1, vI r2.1, vI r3.1, vI r4.1, vI 0]⟩]⟩ (Ln (q_block_normal (Qn (Cg (Jr 3 [] [7, 5, 6, 4, 2] 3 ⟨[(7, vI 4), (5, vS r4.2.1), (6, .p 2 0), (4, .p 1 0), (2, .p 0 0)], [⟨92, [vI 0, vI 0, vI 0, vI 0, vI 0, vI 0, vS emp, vS emp, vI 0]⟩, ⟨92, [vI ((s.data.getD 0 0).toNat : Int), vI ((s.data.getD 1 0).toNat : Int), vI 0, vI 0, vI 0, vI 0, vS emp, vS emp, vI 0]⟩, ⟨117, [vI r1.1, vI r2.1, vI r3.1, vI r4.1, vI 0]⟩]⟩ [inR (4)] [] (by kernel_rfl) (oc (by unfold inR; omega) on) wn (Ln (q_round (Cs (Cs (Cg (Jq 2 [39, 7, 5, 6, 4, 2] 3 ⟨[(39, vB true), (7, vI 4), (5, vS r4.2.1), (6, .p 2 0), (4, .p 1 0), (2, .p 0 0)], [⟨92, [vI 0, vI 0, vI 0, vI 0, vI 0, vI 0, vS emp, vS emp, vI 0]⟩, ⟨92, [vI ((s.data.getD 0 0).toNat : Int), vI ((s.data.getD 1 0).toNat : Int), vI 0, vI 0, vI 0, vI 0, vS emp, vS emp, vI 0]⟩, ⟨117, [vI r1.1, vI r2.1, vI r3.1, vI r4.1, vI 0]⟩]⟩ (Ln (Qn (Ci true rfl (Ck (Qn (Cs (Cb (Cs (Cg (Jq 1 [43, 7, 6, 4, 2] 3 ⟨[(43, vS r4.2.1), (7, vI 4), (6, .p 2 0), (4, .p 1 0), (2, .p 0 0)], [⟨92, [vI 0, vI 0, vI 0, vI 0, vI 0, vI 0, vS emp, vS emp, vI 0]⟩, ⟨92, [vI ((s.data.getD 0 0).toNat : Int), vI ((s.data.getD 1 0).toNat : Int), vI 0, vI 0, vI 0, vI 0, vS emp, vS emp, vI 0]⟩, ⟨117, [vI r1.1, vI r2.1, vI r3.1, vI r4.1, vI 0]⟩]⟩ (Lp 69 [] [vS r4.2.1] (.tuple #[.int .i64 (mRead r4.2.1).1, .string (mRead r4.2.1).2.1, .int .i64 (mRead r4.2.1).2.2]) Try.call69 rfl rfl rfl rfl (fun bs w hS => ref_NumberOf _ w (by first | assumption | omega | (simp only [emp_size]; omega))) ?_)))))))))))))))))))))))))))))))
        have hzr5 := mRead_bd r4.2.1
        generalize hr5 : mRead r4.2.1 = r5 at hzr5 ⊢
        refine Jq 7 [10, 9, 8, 7, 6, 4, 2] 3 ⟨[(10, vI r5.2.2), (9, vS r5.2.1), (8, vI r5.1), (7, vI 4), (6, .p 2 0), (4, .p 1 0), (2, .p 0 0)], [⟨92, [vI 0, vI 0, vI 0, vI 0, vI 0, vI 0, vS emp, vS emp, vI 0]⟩, ⟨92, [vI ((s.data.getD 0 0).toNat : Int), vI ((s.data.getD 1 0).toNat : Int), vI 0, vI 0, vI 0, vI 0, vS emp, vS emp, vI 0]⟩, ⟨117, [vI r1.1, vI r2.1, vI r3.1, vI r4.1, vI 0]⟩]⟩ (Ln (Qn (Cs (Cs (Cg (Jq 2 [49, 10, 9, 8, 7, 6, 4, 2] 3 ⟨[(49, vB (!(decide (r5.2.2 = 0)))), (10, vI r5.2.2), (9, vS r5.2.1), (8, vI r5.1), (7, vI 4), (6, .p 2 0), (4, .p 1 0), (2, .p 0 0)], [⟨92, [vI 0, vI 0, vI 0, vI 0, vI 0, vI 0, vS emp, vS emp, vI 0]⟩, ⟨92, [vI ((s.data.getD 0 0).toNat : Int), vI ((s.data.getD 1 0).toNat : Int), vI 0, vI 0, vI 0, vI 0, vS emp, vS emp, vI 0]⟩, ⟨117, [vI r1.1, vI r2.1, vI r3.1, vI r4.1, vI 0]⟩]⟩ (Ln (Qn ?_))))))))
        cases h8 : decide (r5.2.2 = 0) with
        | true =>
         have h8 := of_decide_eq_true h8
         refine Ci false rfl (Ck (Qn (Cs (Cg (Jr 4 [(2, .idx default 4)] [9, 7, 6, 4, 2] 3 ⟨[(9, vS r5.2.1), (7, vI 4), (6, .p 2 0), (4, .p 1 0), (2, .p 0 0)], [⟨92, [vI 0, vI 0, vI 0, vI 0, vI 0, vI 0, vS emp, vS emp, vI 0]⟩, ⟨92, [vI ((s.data.getD 0 0).toNat : Int), vI ((s.data.getD 1 0).toNat : Int), vI 0, vI 0, vI 0, vI 0, vS emp, vS emp, vI 0]⟩, ⟨117, [vI r1.1, vI r2.1, vI r3.1, vI r4.1, vI r5.1]⟩]⟩ [(4 : Int) = ((4 : Nat) : Int), 4 < 5] [] (by kernel_rfl) (oc rfl (oc (by omega) on)) wn (Ln (Qn (Cg (Jq 2 [5, 7, 6, 4, 2] 3 ⟨[(5, vS r5.2.1), (7, vI 4), (6, .p 2 0), (4, .p 1 0), (2, .p 0 0)], [⟨92, [vI 0, vI 0, vI 0, vI 0, vI 0, vI 0, vS emp, vS emp, vI 0]⟩, ⟨92, [vI ((s.data.getD 0 0).toNat : Int), vI ((s.data.getD 1 0).toNat : Int), vI 0, vI 0, vI 0, vI 0, vS emp, vS emp, vI 0]⟩, ⟨117, [vI r1.1, vI r2.1, vI r3.1, vI r4.1, vI r5.1]⟩]⟩ (Ln (q_block_normal (Qn (Cg (Jr 3 [] [7, 5, 6, 4, 2] 3 ⟨[(7, vI 5), (5, vS r5.2.1), (6, .p 2 0), (4, .p 1 0), (2, .p 0 0)], [⟨92, [vI 0, vI 0, vI 0, vI 0, vI 0, vI 0, vS emp, vS emp, vI 0]⟩, ⟨92, [vI ((s.data.getD 0 0).toNat : Int), vI ((s.data.getD 1 0).toNat : Int), vI 0, vI 0, vI 0, vI 0, vS emp, vS emp, vI 0]⟩, ⟨117, [vI r1.1, vI r2.1, vI r3.1, vI r4.1, vI r5.1]⟩]⟩ [inR (5)] [] (by kernel_rfl) (oc (by unfold inR; omega) on) wn (Ln (q_round (Cs (Cs (Cg (Jq 2 [39, 7, 5, 6, 4, 2] 3 ⟨[(39, vB false), (7, vI 5), (5, vS r5.2.1), (6, .p 2 0), (4, .p 1 0), (2, .p 0 0)], [⟨92, [vI 0, vI 0, vI 0, vI 0, vI 0, vI 0, vS emp, vS emp, vI 0]⟩, ⟨92, [vI ((s.data.getD 0 0).toNat : Int), vI ((s.data.getD 1 0).toNat : Int), vI 0, vI 0, vI 0, vI 0, vS emp, vS emp, vI 0]⟩, ⟨117, [vI r1.1, vI r2.1, vI r3.1, vI r4.1, vI r5.1]⟩]⟩ (Ln (Qn (Ci false rfl (c_exit (Qe (Qe (Qh (Qn (Cs (Cg (Jr 4 [(0, .idx default 0)] [5, 6, 4, 2] 3 ⟨[(5, vS r5.2.1), (6, .p 2 0), (4, .p 1 0), (2, .p 0 0)], [⟨92, [vI 0, vI 0, vI 0, vI 0, vI 0, vI 0, vS emp, vS emp, vI 0]⟩, ⟨92, [vI ((s.data.getD 0 0).toNat : Int), vI ((s.data.getD 1 0).toNat : Int), vI r1.1, vI 0, vI 0, vI 0, vS emp, vS emp, vI 0]⟩, ⟨117, [vI r1.1, vI r2.1, vI r3.1, vI r4.1, vI r5.1]⟩]⟩ [(0 : Int) = ((0 : Nat) : Int), 0 < 5] [] (by kernel_rfl) (oc rfl (oc (by omega) on)) wn (Ln (Qn (Cs (Cg (Jr 4 [(0, .idx default 1)] [5, 6, 4, 2] 3 ⟨[(5, vS r5.2.1), (6, .p 2 0), (4, .p 1 0), (2, .p 0 0)], [⟨92, [vI 0, vI 0, vI 0, vI 0, vI 0, vI 0, vS emp, vS emp, vI 0]⟩, ⟨92, [vI ((s.data.getD 0 0).toNat : Int), vI ((s.data.getD 1 0).toNat : Int), vI r1.1, vI r2.1, vI 0, vI 0, vS emp, vS emp, vI 0]⟩, ⟨117, [vI r1.1, vI r2.1, vI r3.1, vI r4.1, vI r5.1]⟩]⟩ [(1 : Int) = ((1 : Nat) : Int), 1 < 5] [] (by kernel_rfl) (oc rfl (oc (by omega) on)) wn (Ln (Qn (Cs (Cg (Jr 4 [(0, .idx default 2)] [5, 6, 4, 2] 3 ⟨[(5, vS r5.2.1), (6, .p 2 0), (4, .p 1 0), (2, .p 0 0)], [⟨92, [vI 0, vI 0, vI 0, vI 0, vI 0, vI 0, vS emp, vS emp, vI 0]⟩, ⟨92, [vI ((s.data.getD 0 0).toNat : Int), vI ((s.data.getD 1 0).toNat : Int), vI r1.1, vI r2.1, vI r3.1, vI 0, vS emp, vS emp, vI 0]⟩, ⟨117, [vI r1.1, vI r2.1, vI r3.1, vI r4.1, vI r5.1]⟩]⟩ [(2 : Int) = ((2 : Nat) : Int), 2 < 5] [] (by kernel_rfl) (oc rfl (oc (by omega) on)) wn ?_)))))))))))))))))))))))))))))))))))))))))
         refine Ln (Qn (Cs (Cg (Jr 5 [(0, .idx default 3)] [5, 6, 4, 2] 3 ⟨[(5, vS r5.2.1), (6, .p 2 0), (4, .p 1 0), (2, .p 0 0)], [⟨92, [vI 0, vI 0, vI 0, vI 0, vI 0, vI 0, vS emp, vS emp, vI 0]⟩, ⟨92, [vI ((s.data.getD 0 0).toNat : Int), vI ((s.data.getD 1 0).toNat : Int), vI r1.1, vI r2.1, vI r3.1, vI r4.1, vS emp, vS emp, vI 0]⟩, ⟨117, [vI r1.1, vI r2.1, vI r3.1, vI r4.1, vI r5.1]⟩]⟩ [(3 : Int) = ((3 : Nat) : Int), 3 < 5] [] (by kernel_rfl) (oc rfl (oc (by omega) on)) wn (Ln (Qn (Cs (Cg (Jr 5 [(0, .idx default 4)] [5, 4, 2] 2 ⟨[(5, vS r5.2.1), (4, .p 1 0), (2, .p 0 0)], [⟨92, [vI 0, vI 0, vI 0, vI 0, vI 0, vI 0, vS emp, vS emp, vI 0]⟩, ⟨92, [vI ((s.data.getD 0 0).toNat : Int), vI ((s.data.getD 1 0).toNat : Int), vI r1.1, vI r2.1, vI r3.1, vI r4.1, vS emp, vS emp, vI r5.1]⟩]⟩ [(4 : Int) = ((4 : Nat) : Int), 4 < 5] [] (by kernel_rfl) (oc rfl (oc (by omega) on)) wn (Ln (Qn (Cs (Cg (Jq 1 [74, 4, 2] 2 ⟨[(74, vS r5.2.1), (4, .p 1 0), (2, .p 0 0)], [⟨92, [vI 0, vI 0, vI 0, vI 0, vI 0, vI 0, vS emp, vS emp, vI 0]⟩, ⟨92, [vI ((s.data.getD 0 0).toNat : Int), vI ((s.data.getD 1 0).toNat : Int), vI r1.1, vI r2.1, vI r3.1, vI r4.1, vS emp, vS emp, vI r5.1]⟩]⟩ (Lp 70 [] [vS r5.2.1] (.tuple #[.string (mTell r5.2.1).1, .string (mTell r5.2.1).2.1, .int .i64 (mTell r5.2.1).2.2]) Try.call70 rfl rfl rfl rfl (fun bs w hS => ref_TextOf _ w (by first | assumption | omega | (simp only [emp_size]; omega))) ?_)))))))))))))))
         have hzr6 := mTell_bd r5.2.1
         generalize hr6 : mTell r5.2.1 = r6 at hzr6 ⊢
         refine Jq 7 [13, 12, 11, 4, 2] 2 ⟨[(13, vI r6.2.2), (12, vS r6.2.1), (11, vS r6.1), (4, .p 1 0), (2, .p 0 0)], [⟨92, [vI 0, vI 0, vI 0, vI 0, vI 0, vI 0, vS emp, vS emp, vI 0]⟩, ⟨92, [vI ((s.data.getD 0 0).toNat : Int), vI ((s.data.getD 1 0).toNat : Int), vI r1.1, vI r2.1, vI r3.1, vI r4.1, vS emp, vS emp, vI r5.1]⟩]⟩ (Ln (Qn (Cs (Cs (Cg (Jq 2 [80, 13, 12, 11, 4, 2] 2 ⟨[(80, vB (!(decide (r6.2.2 = 0)))), (13, vI r6.2.2), (12, vS r6.2.1), (11, vS r6.1), (4, .p 1 0), (2, .p 0 0)], [⟨92, [vI 0, vI 0, vI 0, vI 0, vI 0, vI 0, vS emp, vS emp, vI 0]⟩, ⟨92, [vI ((s.data.getD 0 0).toNat : Int), vI ((s.data.getD 1 0).toNat : Int), vI r1.1, vI r2.1, vI r3.1, vI r4.1, vS emp, vS emp, vI r5.1]⟩]⟩ (Ln (Qn ?_))))))))
         cases h9 : decide (r6.2.2 = 0) with
         | true =>
          have h9 := of_decide_eq_true h9
          refine Ci false rfl (Ck (Qn (Cs (Cg (Jq 1 [84, 11, 4, 2] 2 ⟨[(84, vS r6.2.1), (11, vS r6.1), (4, .p 1 0), (2, .p 0 0)], [⟨92, [vI 0, vI 0, vI 0, vI 0, vI 0, vI 0, vS emp, vS emp, vI 0]⟩, ⟨92, [vI ((s.data.getD 0 0).toNat : Int), vI ((s.data.getD 1 0).toNat : Int), vI r1.1, vI r2.1, vI r3.1, vI r4.1, vS emp, vS emp, vI r5.1]⟩]⟩ (Lp 70 [] [vS r6.2.1] (.tuple #[.string (mTell r6.2.1).1, .string (mTell r6.2.1).2.1, .int .i64 (mTell r6.2.1).2.2]) Try.call70 rfl rfl rfl rfl (fun bs w hS => ref_TextOf _ w (by first | assumption | omega | (simp only [emp_size]; omega))) ?_))))))
          have hzr7 := mTell_bd r6.2.1
          generalize hr7 : mTell r6.2.1 = r7 at hzr7 ⊢
          refine Jq 7 [16, 15, 14, 11, 4, 2] 2 ⟨[(16, vI r7.2.2), (15, vS r7.2.1), (14, vS r7.1), (11, vS r6.1), (4, .p 1 0), (2, .p 0 0)], [⟨92, [vI 0, vI 0, vI 0, vI 0, vI 0, vI 0, vS emp, vS emp, vI 0]⟩, ⟨92, [vI ((s.data.getD 0 0).toNat : Int), vI ((s.data.getD 1 0).toNat : Int), vI r1.1, vI r2.1, vI r3.1, vI r4.1, vS emp, vS emp, vI r5.1]⟩]⟩ (Ln (Qn (Cs (Cs (Cg (Jq 2 [90, 16, 15, 14, 11, 4, 2] 2 ⟨[(90, vB (!(decide (r7.2.2 = 0)))), (16, vI r7.2.2), (15, vS r7.2.1), (14, vS r7.1), (11, vS r6.1), (4, .p 1 0), (2, .p 0 0)], [⟨92, [vI 0, vI 0, vI 0, vI 0, vI 0, vI 0, vS emp, vS emp, vI 0]⟩, ⟨92, [vI ((s.data.getD 0 0).toNat : Int), vI ((s.data.getD 1 0).toNat : Int), vI r1.1, vI r2.1, vI r3.1, vI r4.1, vS emp, vS emp, vI r5.1]⟩]⟩ (Ln (Qn ?_))))))))
          cases h10 : decide (r7.2.2 = 0) with
          | true =>
           have h10 := of_decide_eq_true h10
           refine Ci false rfl (Ck (Qn (Cs (Cg (Jq 4 [15, 14, 4, 2] 2 ⟨[(15, vS r7.2.1), (14, vS r7.1), (4, .p 1 0), (2, .p 0 0)], [⟨92, [vI 0, vI 0, vI 0, vI 0, vI 0, vI 0, vS emp, vS emp, vI 0]⟩, ⟨92, [vI ((s.data.getD 0 0).toNat : Int), vI ((s.data.getD 1 0).toNat : Int), vI r1.1, vI r2.1, vI r3.1, vI r4.1, vS r6.1, vS emp, vI r5.1]⟩]⟩ (Ln (Qn (Cs (Cg (Jq 4 [15, 4, 2] 2 ⟨[(15, vS r7.2.1), (4, .p 1 0), (2, .p 0 0)], [⟨92, [vI 0, vI 0, vI 0, vI 0, vI 0, vI 0, vS emp, vS emp, vI 0]⟩, ⟨92, [vI ((s.data.getD 0 0).toNat : Int), vI ((s.data.getD 1 0).toNat : Int), vI r1.1, vI r2.1, vI r3.1, vI r4.1, vS r6.1, vS r7.1, vI r5.1]⟩]⟩ (Ln (Qn (Cg (Jq 2 [5, 4, 2] 2 ⟨[(5, vS r7.2.1), (4, .p 1 0), (2, .p 0 0)], [⟨92, [vI 0, vI 0, vI 0, vI 0, vI 0, vI 0, vS emp, vS emp, vI 0]⟩, ⟨92, [vI ((s.data.getD 0 0).toNat : Int), vI ((s.data.getD 1 0).toNat : Int), vI r1.1, vI r2.1, vI r3.1, vI r4.1, vS r6.1, vS r7.1, vI r5.1]⟩]⟩ (Ln (Qn (Cs (Cs (Cg (Jq 2 [101, 4, 2] 2 ⟨[(101, vB (!(decide (r7.2.1 = emp)))), (4, .p 1 0), (2, .p 0 0)], [⟨92, [vI 0, vI 0, vI 0, vI 0, vI 0, vI 0, vS emp, vS emp, vI 0]⟩, ⟨92, [vI ((s.data.getD 0 0).toNat : Int), vI ((s.data.getD 1 0).toNat : Int), vI r1.1, vI r2.1, vI r3.1, vI r4.1, vS r6.1, vS r7.1, vI r5.1]⟩]⟩ (Ln (Qn ?_))))))))))))))))))))))
           cases h11 : decide (r7.2.1 = emp) with
           | true =>
            have h11 := of_decide_eq_true h11
            have hzh11 : r7.2.1.size = 0 := by rw [h11]; rfl
            refine Ci false rfl (Ck (Qn (Cs (Cg (Jq 1 [103, 4, 2] 2 ⟨[(103, .v (.agg #[.int .i64 ((s.data.getD 0 0).toNat : Int), .int .i64 ((s.data.getD 1 0).toNat : Int), .int .i64 r1.1, .int .i64 r2.1, .int .i64 r3.1, .int .i64 r4.1, .string r6.1, .string r7.1, .int .i64 r5.1])), (4, .p 1 0), (2, .p 0 0)], [⟨92, [vI 0, vI 0, vI 0, vI 0, vI 0, vI 0, vS emp, vS emp, vI 0]⟩, ⟨92, [vI ((s.data.getD 0 0).toNat : Int), vI ((s.data.getD 1 0).toNat : Int), vI r1.1, vI r2.1, vI r3.1, vI r4.1, vS r6.1, vS r7.1, vI r5.1]⟩]⟩ (Lp 77 [] [.v (.agg #[.int .i64 ((s.data.getD 0 0).toNat : Int), .int .i64 ((s.data.getD 1 0).toNat : Int), .int .i64 r1.1, .int .i64 r2.1, .int .i64 r3.1, .int .i64 r4.1, .string r6.1, .string r7.1, .int .i64 r5.1])] (.int .i64 (mCmd (⟨((s.data.getD 0 0).toNat : Int), ((s.data.getD 1 0).toNat : Int), r1.1, r2.1, r3.1, ⟨r4.1, r6.1, r7.1, r5.1⟩⟩ : DCommand))) Try.call77 rfl rfl rfl rfl (fun bs w hS => ref_CommandFault (B := anyB) (⟨((s.data.getD 0 0).toNat : Int), ((s.data.getD 1 0).toNat : Int), r1.1, r2.1, r3.1, ⟨r4.1, r6.1, r7.1, r5.1⟩⟩ : DCommand) w ⟨(show r6.1.size ≤ 9223372036854775807 from (by first | assumption | omega | (simp only [emp_size]; omega))), (show r7.1.size ≤ 9223372036854775807 from (by first | assumption | omega | (simp only [emp_size]; omega)))⟩) (Jq 1 [17, 4, 2] 2 ⟨[(17, vI (mCmd (⟨((s.data.getD 0 0).toNat : Int), ((s.data.getD 1 0).toNat : Int), r1.1, r2.1, r3.1, ⟨r4.1, r6.1, r7.1, r5.1⟩⟩ : DCommand))), (4, .p 1 0), (2, .p 0 0)], [⟨92, [vI 0, vI 0, vI 0, vI 0, vI 0, vI 0, vS emp, vS emp, vI 0]⟩, ⟨92, [vI ((s.data.getD 0 0).toNat : Int), vI ((s.data.getD 1 0).toNat : Int), vI r1.1, vI r2.1, vI r3.1, vI r4.1, vS r6.1, vS r7.1, vI r5.1]⟩]⟩ (Ln (Qn (Cs (Cs (Cg (Jq 2 [106, 17, 4, 2] 2 ⟨[(106, vB (!(decide (mCmd (⟨((s.data.getD 0 0).toNat : Int), ((s.data.getD 1 0).toNat : Int), r1.1, r2.1, r3.1, ⟨r4.1, r6.1, r7.1, r5.1⟩⟩ : DCommand) = 0)))), (17, vI (mCmd (⟨((s.data.getD 0 0).toNat : Int), ((s.data.getD 1 0).toNat : Int), r1.1, r2.1, r3.1, ⟨r4.1, r6.1, r7.1, r5.1⟩⟩ : DCommand))), (4, .p 1 0), (2, .p 0 0)], [⟨92, [vI 0, vI 0, vI 0, vI 0, vI 0, vI 0, vS emp, vS emp, vI 0]⟩, ⟨92, [vI ((s.data.getD 0 0).toNat : Int), vI ((s.data.getD 1 0).toNat : Int), vI r1.1, vI r2.1, vI r3.1, vI r4.1, vS r6.1, vS r7.1, vI r5.1]⟩]⟩ (Ln (Qn ?_)))))))))))))))
            cases h12 : decide (mCmd (⟨((s.data.getD 0 0).toNat : Int), ((s.data.getD 1 0).toNat : Int), r1.1, r2.1, r3.1, ⟨r4.1, r6.1, r7.1, r5.1⟩⟩ : DCommand) = 0) with
            | true =>
             have h12 := of_decide_eq_true h12
             refine Ci false rfl (Ck (Qn (Cs (Cg (Jq 3 [3, 2] 1 ⟨[(3, vI 0), (2, .p 0 0)], [⟨92, [vI ((s.data.getD 0 0).toNat : Int), vI ((s.data.getD 1 0).toNat : Int), vI r1.1, vI r2.1, vI r3.1, vI r4.1, vS r6.1, vS r7.1, vI r5.1]⟩]⟩ (Ln (Qn (Cr (Rt (.inl rfl) [.v (.agg #[.int .i64 ((s.data.getD 0 0).toNat : Int), .int .i64 ((s.data.getD 1 0).toNat : Int), .int .i64 r1.1, .int .i64 r2.1, .int .i64 r3.1, .int .i64 r4.1, .string r6.1, .string r7.1, .int .i64 r5.1]), vI 0] rfl (fun bs w hS => (⟨?_, hS.kp⟩)))))))))))
             have hm : mDecode s = ((⟨((s.data.getD 0 0).toNat : Int), ((s.data.getD 1 0).toNat : Int), r1.1, r2.1, r3.1, ⟨r4.1, r6.1, r7.1, r5.1⟩⟩ : DCommand), 0) := by
              have hk : (cmd0 s).kind = ((s.data.getD 0 0).toNat : Int) := rfl
              unfold mDecode
              repeat (first | rw [if_pos (by omega)] | rw [if_neg (by omega)])
              all_goals (simp only [mFin, mBody, cmd0, zOp, hr1, hr2, hr3, hr4, hr5, hr6, hr7, h4, h5, h6, h7, h8, h9, h10, h11, h12, ne_eq, not_true_eq_false, not_false_eq_true, if_true, if_false, reduceIte]; try rfl)
             rw [hm]
             rfl
            | false =>
             have h12 := of_decide_eq_false h12
             refine Ci true rfl (Cs (Cg (Jq 4 [3, 2] 1 ⟨[(3, vI (mCmd (⟨((s.data.getD 0 0).toNat : Int), ((s.data.getD 1 0).toNat : Int), r1.1, r2.1, r3.1, ⟨r4.1, r6.1, r7.1, r5.1⟩⟩ : DCommand))), (2, .p 0 0)], [⟨92, [vI 0, vI 0, vI 0, vI 0, vI 0, vI 0, vS emp, vS emp, vI 0]⟩]⟩ (Ln (Qn (Cr (Qr (Rt (.inl rfl) [.v (.agg #[.int .i64 0, .int .i64 0, .int .i64 0, .int .i64 0, .int .i64 0, .int .i64 0, .string emp, .string emp, .int .i64 0]), vI (mCmd (⟨((s.data.getD 0 0).toNat : Int), ((s.data.getD 1 0).toNat : Int), r1.1, r2.1, r3.1, ⟨r4.1, r6.1, r7.1, r5.1⟩⟩ : DCommand))] rfl (fun bs w hS => (⟨?_, hS.kp⟩))))))))))
             have hm : mDecode s = ((⟨0, 0, 0, 0, 0, ⟨0, emp, emp, 0⟩⟩ : DCommand), mCmd (⟨((s.data.getD 0 0).toNat : Int), ((s.data.getD 1 0).toNat : Int), r1.1, r2.1, r3.1, ⟨r4.1, r6.1, r7.1, r5.1⟩⟩ : DCommand)) := by
              have hk : (cmd0 s).kind = ((s.data.getD 0 0).toNat : Int) := rfl
              unfold mDecode
              repeat (first | rw [if_pos (by omega)] | rw [if_neg (by omega)])
              all_goals (simp only [mFin, mBody, cmd0, zOp, hr1, hr2, hr3, hr4, hr5, hr6, hr7, h4, h5, h6, h7, h8, h9, h10, h11, h12, ne_eq, not_true_eq_false, not_false_eq_true, if_true, if_false, reduceIte]; try rfl)
             rw [hm]
             rfl
           | false =>
            have h11 := of_decide_eq_false h11
            refine Ci true rfl (Cs (Cg (Jq 3 [3, 2] 1 ⟨[(3, vI 4), (2, .p 0 0)], [⟨92, [vI 0, vI 0, vI 0, vI 0, vI 0, vI 0, vS emp, vS emp, vI 0]⟩]⟩ (Ln (Qn (Cr (Qr (Rt (.inl rfl) [.v (.agg #[.int .i64 0, .int .i64 0, .int .i64 0, .int .i64 0, .int .i64 0, .int .i64 0, .string emp, .string emp, .int .i64 0]), vI 4] rfl (fun bs w hS => (⟨?_, hS.kp⟩))))))))))
            have hm : mDecode s = ((⟨0, 0, 0, 0, 0, ⟨0, emp, emp, 0⟩⟩ : DCommand), 4) := by
             have hk : (cmd0 s).kind = ((s.data.getD 0 0).toNat : Int) := rfl
             unfold mDecode
             repeat (first | rw [if_pos (by omega)] | rw [if_neg (by omega)])
             all_goals (simp only [mFin, mBody, cmd0, zOp, hr1, hr2, hr3, hr4, hr5, hr6, hr7, h4, h5, h6, h7, h8, h9, h10, h11, ne_eq, not_true_eq_false, not_false_eq_true, if_true, if_false, reduceIte]; try rfl)
            rw [hm]
            rfl
          | false =>
           have h10 := of_decide_eq_false h10
           refine Ci true rfl (Cs (Cg (Jq 4 [3, 2] 1 ⟨[(3, vI r7.2.2), (2, .p 0 0)], [⟨92, [vI 0, vI 0, vI 0, vI 0, vI 0, vI 0, vS emp, vS emp, vI 0]⟩]⟩ (Ln (Qn (Cr (Qr (Qr (Rt (.inl rfl) [.v (.agg #[.int .i64 0, .int .i64 0, .int .i64 0, .int .i64 0, .int .i64 0, .int .i64 0, .string emp, .string emp, .int .i64 0]), vI r7.2.2] rfl (fun bs w hS => (⟨?_, hS.kp⟩)))))))))))
           have hm : mDecode s = ((⟨0, 0, 0, 0, 0, ⟨0, emp, emp, 0⟩⟩ : DCommand), r7.2.2) := by
            have hk : (cmd0 s).kind = ((s.data.getD 0 0).toNat : Int) := rfl
            unfold mDecode
            repeat (first | rw [if_pos (by omega)] | rw [if_neg (by omega)])
            all_goals (simp only [mFin, mBody, cmd0, zOp, hr1, hr2, hr3, hr4, hr5, hr6, hr7, h4, h5, h6, h7, h8, h9, h10, ne_eq, not_true_eq_false, not_false_eq_true, if_true, if_false, reduceIte]; try rfl)
           rw [hm]
           rfl
         | false =>
          have h9 := of_decide_eq_false h9
          refine Ci true rfl (Cs (Cg (Jq 4 [3, 2] 1 ⟨[(3, vI r6.2.2), (2, .p 0 0)], [⟨92, [vI 0, vI 0, vI 0, vI 0, vI 0, vI 0, vS emp, vS emp, vI 0]⟩]⟩ (Ln (Qn (Cr (Qr (Qr (Rt (.inl rfl) [.v (.agg #[.int .i64 0, .int .i64 0, .int .i64 0, .int .i64 0, .int .i64 0, .int .i64 0, .string emp, .string emp, .int .i64 0]), vI r6.2.2] rfl (fun bs w hS => (⟨?_, hS.kp⟩)))))))))))
          have hm : mDecode s = ((⟨0, 0, 0, 0, 0, ⟨0, emp, emp, 0⟩⟩ : DCommand), r6.2.2) := by
           have hk : (cmd0 s).kind = ((s.data.getD 0 0).toNat : Int) := rfl
           unfold mDecode
           repeat (first | rw [if_pos (by omega)] | rw [if_neg (by omega)])
           all_goals (simp only [mFin, mBody, cmd0, zOp, hr1, hr2, hr3, hr4, hr5, hr6, h4, h5, h6, h7, h8, h9, ne_eq, not_true_eq_false, not_false_eq_true, if_true, if_false, reduceIte]; try rfl)
          rw [hm]
          rfl
        | false =>
         have h8 := of_decide_eq_false h8
         refine Ci true rfl (Cs (Cg (Jq 4 [3, 2] 1 ⟨[(3, vI r5.2.2), (2, .p 0 0)], [⟨92, [vI 0, vI 0, vI 0, vI 0, vI 0, vI 0, vS emp, vS emp, vI 0]⟩]⟩ (Ln (Qn (Cr (Qr (Qb (Qr (Qr (Qb (Qr (Qr (Rt (.inl rfl) [.v (.agg #[.int .i64 0, .int .i64 0, .int .i64 0, .int .i64 0, .int .i64 0, .int .i64 0, .string emp, .string emp, .int .i64 0]), vI r5.2.2] rfl (fun bs w hS => (⟨?_, hS.kp⟩))))))))))))))))
         have hm : mDecode s = ((⟨0, 0, 0, 0, 0, ⟨0, emp, emp, 0⟩⟩ : DCommand), r5.2.2) := by
          have hk : (cmd0 s).kind = ((s.data.getD 0 0).toNat : Int) := rfl
          unfold mDecode
          repeat (first | rw [if_pos (by omega)] | rw [if_neg (by omega)])
          all_goals (simp only [mFin, mBody, cmd0, zOp, hr1, hr2, hr3, hr4, hr5, h4, h5, h6, h7, h8, ne_eq, not_true_eq_false, not_false_eq_true, if_true, if_false, reduceIte]; try rfl)
         rw [hm]
         rfl
       | false =>
        have h7 := of_decide_eq_false h7
        refine Ci true rfl (Cs (Cg (Jq 4 [3, 2] 1 ⟨[(3, vI r4.2.2), (2, .p 0 0)], [⟨92, [vI 0, vI 0, vI 0, vI 0, vI 0, vI 0, vS emp, vS emp, vI 0]⟩]⟩ (Ln (Qn (Cr (Qr (Qb (Qr (Qr (Qb (Qr (Qr (Rt (.inl rfl) [.v (.agg #[.int .i64 0, .int .i64 0, .int .i64 0, .int .i64 0, .int .i64 0, .int .i64 0, .string emp, .string emp, .int .i64 0]), vI r4.2.2] rfl (fun bs w hS => (⟨?_, hS.kp⟩))))))))))))))))
        have hm : mDecode s = ((⟨0, 0, 0, 0, 0, ⟨0, emp, emp, 0⟩⟩ : DCommand), r4.2.2) := by
         have hk : (cmd0 s).kind = ((s.data.getD 0 0).toNat : Int) := rfl
         unfold mDecode
         repeat (first | rw [if_pos (by omega)] | rw [if_neg (by omega)])
         all_goals (simp only [mFin, mBody, cmd0, zOp, hr1, hr2, hr3, hr4, h4, h5, h6, h7, ne_eq, not_true_eq_false, not_false_eq_true, if_true, if_false, reduceIte]; try rfl)
        rw [hm]
        rfl
      | false =>
       have h6 := of_decide_eq_false h6
       refine Ci true rfl (Cs (Cg (Jq 4 [3, 2] 1 ⟨[(3, vI r3.2.2), (2, .p 0 0)], [⟨92, [vI 0, vI 0, vI 0, vI 0, vI 0, vI 0, vS emp, vS emp, vI 0]⟩]⟩ (Ln (Qn (Cr (Qr (Qb (Qr (Qr (Qb (Qr (Qr (Rt (.inl rfl) [.v (.agg #[.int .i64 0, .int .i64 0, .int .i64 0, .int .i64 0, .int .i64 0, .int .i64 0, .string emp, .string emp, .int .i64 0]), vI r3.2.2] rfl (fun bs w hS => (⟨?_, hS.kp⟩))))))))))))))))
       have hm : mDecode s = ((⟨0, 0, 0, 0, 0, ⟨0, emp, emp, 0⟩⟩ : DCommand), r3.2.2) := by
        have hk : (cmd0 s).kind = ((s.data.getD 0 0).toNat : Int) := rfl
        unfold mDecode
        repeat (first | rw [if_pos (by omega)] | rw [if_neg (by omega)])
        all_goals (simp only [mFin, mBody, cmd0, zOp, hr1, hr2, hr3, h4, h5, h6, ne_eq, not_true_eq_false, not_false_eq_true, if_true, if_false, reduceIte]; try rfl)
       rw [hm]
       rfl
     | false =>
      have h5 := of_decide_eq_false h5
      refine Ci true rfl (Cs (Cg (Jq 4 [3, 2] 1 ⟨[(3, vI r2.2.2), (2, .p 0 0)], [⟨92, [vI 0, vI 0, vI 0, vI 0, vI 0, vI 0, vS emp, vS emp, vI 0]⟩]⟩ (Ln (Qn (Cr (Qr (Qb (Qr (Qr (Qb (Qr (Qr (Rt (.inl rfl) [.v (.agg #[.int .i64 0, .int .i64 0, .int .i64 0, .int .i64 0, .int .i64 0, .int .i64 0, .string emp, .string emp, .int .i64 0]), vI r2.2.2] rfl (fun bs w hS => (⟨?_, hS.kp⟩))))))))))))))))
      have hm : mDecode s = ((⟨0, 0, 0, 0, 0, ⟨0, emp, emp, 0⟩⟩ : DCommand), r2.2.2) := by
       have hk : (cmd0 s).kind = ((s.data.getD 0 0).toNat : Int) := rfl
       unfold mDecode
       repeat (first | rw [if_pos (by omega)] | rw [if_neg (by omega)])
       all_goals (simp only [mFin, mBody, cmd0, zOp, hr1, hr2, h4, h5, ne_eq, not_true_eq_false, not_false_eq_true, if_true, if_false, reduceIte]; try rfl)
      rw [hm]
      rfl
    | false =>
     have h4 := of_decide_eq_false h4
     refine Ci true rfl (Cs (Cg (Jq 4 [3, 2] 1 ⟨[(3, vI r1.2.2), (2, .p 0 0)], [⟨92, [vI 0, vI 0, vI 0, vI 0, vI 0, vI 0, vS emp, vS emp, vI 0]⟩]⟩ (Ln (Qn (Cr (Qr (Qb (Qr (Qr (Qb (Qr (Qr (Rt (.inl rfl) [.v (.agg #[.int .i64 0, .int .i64 0, .int .i64 0, .int .i64 0, .int .i64 0, .int .i64 0, .string emp, .string emp, .int .i64 0]), vI r1.2.2] rfl (fun bs w hS => (⟨?_, hS.kp⟩))))))))))))))))
     have hm : mDecode s = ((⟨0, 0, 0, 0, 0, ⟨0, emp, emp, 0⟩⟩ : DCommand), r1.2.2) := by
      have hk : (cmd0 s).kind = ((s.data.getD 0 0).toNat : Int) := rfl
      unfold mDecode
      repeat (first | rw [if_pos (by omega)] | rw [if_neg (by omega)])
      all_goals (simp only [mFin, mBody, cmd0, zOp, hr1, h4, ne_eq, not_true_eq_false, not_false_eq_true, if_true, if_false, reduceIte]; try rfl)
     rw [hm]
     rfl
   | false =>
    have h3 := of_decide_eq_false h3
    refine Ci false rfl (Ck (Qn (Cs (Cs (Cg (Jq 2 [101, 4, 2] 2 ⟨[(101, vB (!(decide ((s.extract 2 s.size) = emp)))), (4, .p 1 0), (2, .p 0 0)], [⟨92, [vI 0, vI 0, vI 0, vI 0, vI 0, vI 0, vS emp, vS emp, vI 0]⟩, ⟨92, [vI ((s.data.getD 0 0).toNat : Int), vI ((s.data.getD 1 0).toNat : Int), vI 0, vI 0, vI 0, vI 0, vS emp, vS emp, vI 0]⟩]⟩ (Ln (Qn ?_))))))))
    cases h13 : decide ((s.extract 2 s.size) = emp) with
    | true =>
     have h13 := of_decide_eq_true h13
     have hzh13 : (s.extract 2 s.size).size = 0 := by rw [h13]; rfl
     refine Ci false rfl (Ck (Qn (Cs (Cg (Jq 1 [103, 4, 2] 2 ⟨[(103, .v (.agg #[.int .i64 ((s.data.getD 0 0).toNat : Int), .int .i64 ((s.data.getD 1 0).toNat : Int), .int .i64 0, .int .i64 0, .int .i64 0, .int .i64 0, .string emp, .string emp, .int .i64 0])), (4, .p 1 0), (2, .p 0 0)], [⟨92, [vI 0, vI 0, vI 0, vI 0, vI 0, vI 0, vS emp, vS emp, vI 0]⟩, ⟨92, [vI ((s.data.getD 0 0).toNat : Int), vI ((s.data.getD 1 0).toNat : Int), vI 0, vI 0, vI 0, vI 0, vS emp, vS emp, vI 0]⟩]⟩ (Lp 77 [] [.v (.agg #[.int .i64 ((s.data.getD 0 0).toNat : Int), .int .i64 ((s.data.getD 1 0).toNat : Int), .int .i64 0, .int .i64 0, .int .i64 0, .int .i64 0, .string emp, .string emp, .int .i64 0])] (.int .i64 (mCmd (⟨((s.data.getD 0 0).toNat : Int), ((s.data.getD 1 0).toNat : Int), 0, 0, 0, ⟨0, emp, emp, 0⟩⟩ : DCommand))) Try.call77 rfl rfl rfl rfl (fun bs w hS => ref_CommandFault (B := anyB) (⟨((s.data.getD 0 0).toNat : Int), ((s.data.getD 1 0).toNat : Int), 0, 0, 0, ⟨0, emp, emp, 0⟩⟩ : DCommand) w ⟨(show emp.size ≤ 9223372036854775807 from (by first | assumption | omega | (simp only [emp_size]; omega))), (show emp.size ≤ 9223372036854775807 from (by first | assumption | omega | (simp only [emp_size]; omega)))⟩) (Jq 1 [17, 4, 2] 2 ⟨[(17, vI (mCmd (⟨((s.data.getD 0 0).toNat : Int), ((s.data.getD 1 0).toNat : Int), 0, 0, 0, ⟨0, emp, emp, 0⟩⟩ : DCommand))), (4, .p 1 0), (2, .p 0 0)], [⟨92, [vI 0, vI 0, vI 0, vI 0, vI 0, vI 0, vS emp, vS emp, vI 0]⟩, ⟨92, [vI ((s.data.getD 0 0).toNat : Int), vI ((s.data.getD 1 0).toNat : Int), vI 0, vI 0, vI 0, vI 0, vS emp, vS emp, vI 0]⟩]⟩ (Ln (Qn (Cs (Cs (Cg (Jq 2 [106, 17, 4, 2] 2 ⟨[(106, vB (!(decide (mCmd (⟨((s.data.getD 0 0).toNat : Int), ((s.data.getD 1 0).toNat : Int), 0, 0, 0, ⟨0, emp, emp, 0⟩⟩ : DCommand) = 0)))), (17, vI (mCmd (⟨((s.data.getD 0 0).toNat : Int), ((s.data.getD 1 0).toNat : Int), 0, 0, 0, ⟨0, emp, emp, 0⟩⟩ : DCommand))), (4, .p 1 0), (2, .p 0 0)], [⟨92, [vI 0, vI 0, vI 0, vI 0, vI 0, vI 0, vS emp, vS emp, vI 0]⟩, ⟨92, [vI ((s.data.getD 0 0).toNat : Int), vI ((s.data.getD 1 0).toNat : Int), vI 0, vI 0, vI 0, vI 0, vS emp, vS emp, vI 0]⟩]⟩ (Ln (Qn ?_)))))))))))))))
     cases h14 : decide (mCmd (⟨((s.data.getD 0 0).toNat : Int), ((s.data.getD 1 0).toNat : Int), 0, 0, 0, ⟨0, emp, emp, 0⟩⟩ : DCommand) = 0) with
     | true =>
      have h14 := of_decide_eq_true h14
      refine Ci false rfl (Ck (Qn (Cs (Cg (Jq 3 [3, 2] 1 ⟨[(3, vI 0), (2, .p 0 0)], [⟨92, [vI ((s.data.getD 0 0).toNat : Int), vI ((s.data.getD 1 0).toNat : Int), vI 0, vI 0, vI 0, vI 0, vS emp, vS emp, vI 0]⟩]⟩ (Ln (Qn (Cr (Rt (.inl rfl) [.v (.agg #[.int .i64 ((s.data.getD 0 0).toNat : Int), .int .i64 ((s.data.getD 1 0).toNat : Int), .int .i64 0, .int .i64 0, .int .i64 0, .int .i64 0, .string emp, .string emp, .int .i64 0]), vI 0] rfl (fun bs w hS => (⟨?_, hS.kp⟩)))))))))))
      have hm : mDecode s = ((⟨((s.data.getD 0 0).toNat : Int), ((s.data.getD 1 0).toNat : Int), 0, 0, 0, ⟨0, emp, emp, 0⟩⟩ : DCommand), 0) := by
       have hk : (cmd0 s).kind = ((s.data.getD 0 0).toNat : Int) := rfl
       unfold mDecode
       repeat (first | rw [if_pos (by omega)] | rw [if_neg (by omega)])
       all_goals (simp only [mFin, mBody, cmd0, zOp, h13, h14, ne_eq, not_true_eq_false, not_false_eq_true, if_true, if_false, reduceIte]; try rfl)
      rw [hm]
      rfl
     | false =>
      have h14 := of_decide_eq_false h14
      refine Ci true rfl (Cs (Cg (Jq 4 [3, 2] 1 ⟨[(3, vI (mCmd (⟨((s.data.getD 0 0).toNat : Int), ((s.data.getD 1 0).toNat : Int), 0, 0, 0, ⟨0, emp, emp, 0⟩⟩ : DCommand))), (2, .p 0 0)], [⟨92, [vI 0, vI 0, vI 0, vI 0, vI 0, vI 0, vS emp, vS emp, vI 0]⟩]⟩ (Ln (Qn (Cr (Qr (Rt (.inl rfl) [.v (.agg #[.int .i64 0, .int .i64 0, .int .i64 0, .int .i64 0, .int .i64 0, .int .i64 0, .string emp, .string emp, .int .i64 0]), vI (mCmd (⟨((s.data.getD 0 0).toNat : Int), ((s.data.getD 1 0).toNat : Int), 0, 0, 0, ⟨0, emp, emp, 0⟩⟩ : DCommand))] rfl (fun bs w hS => (⟨?_, hS.kp⟩))))))))))
      have hm : mDecode s = ((⟨0, 0, 0, 0, 0, ⟨0, emp, emp, 0⟩⟩ : DCommand), mCmd (⟨((s.data.getD 0 0).toNat : Int), ((s.data.getD 1 0).toNat : Int), 0, 0, 0, ⟨0, emp, emp, 0⟩⟩ : DCommand)) := by
       have hk : (cmd0 s).kind = ((s.data.getD 0 0).toNat : Int) := rfl
       unfold mDecode
       repeat (first | rw [if_pos (by omega)] | rw [if_neg (by omega)])
       all_goals (simp only [mFin, mBody, cmd0, zOp, h13, h14, ne_eq, not_true_eq_false, not_false_eq_true, if_true, if_false, reduceIte]; try rfl)
      rw [hm]
      rfl
    | false =>
     have h13 := of_decide_eq_false h13
     refine Ci true rfl (Cs (Cg (Jq 3 [3, 2] 1 ⟨[(3, vI 4), (2, .p 0 0)], [⟨92, [vI 0, vI 0, vI 0, vI 0, vI 0, vI 0, vS emp, vS emp, vI 0]⟩]⟩ (Ln (Qn (Cr (Qr (Rt (.inl rfl) [.v (.agg #[.int .i64 0, .int .i64 0, .int .i64 0, .int .i64 0, .int .i64 0, .int .i64 0, .string emp, .string emp, .int .i64 0]), vI 4] rfl (fun bs w hS => (⟨?_, hS.kp⟩))))))))))
     have hm : mDecode s = ((⟨0, 0, 0, 0, 0, ⟨0, emp, emp, 0⟩⟩ : DCommand), 4) := by
      have hk : (cmd0 s).kind = ((s.data.getD 0 0).toNat : Int) := rfl
      unfold mDecode
      repeat (first | rw [if_pos (by omega)] | rw [if_neg (by omega)])
      all_goals (simp only [mFin, mBody, cmd0, zOp, h13, ne_eq, not_true_eq_false, not_false_eq_true, if_true, if_false, reduceIte]; try rfl)
     rw [hm]
     rfl

theorem log_Check {B : Nat → Prop} (x : CLog) (w : World) (hx : Rds.sub B w x) : Calls Try.prog 33 #[.agg #[.int .i64 x.base, .slice x.entries.A x.entries.n x.entries.c]] w fun e w' => e = .returned (.int .i64 (mLog x.abs)) ∧ Kp [] w w' := by
 have okx := Rds.okof hx
 have ncx := Sl.ok.nc okx
 have hnx : x.entries.n = x.entries.xs.length := rfl
 have q1 : x.abs.base = x.base := rfl
 have q2 : x.abs.entries = x.entries.xs := rfl
 have hat : ∀ q, x.entries.xs.getD q default = x.entries.at q := fun _ => rfl
 refine calls_J0 35 Try.func33 rfl rfl [.agg #[.int .i64 x.base, .slice x.entries.A x.entries.n x.entries.c]] rfl ?_
 refine Cs (Cg (Jq 2 [1] 1 ⟨[(1, .p 0 0)], [⟨24, x.cs⟩]⟩ (Ln (Qn (Cs (Cs (Cg (Jq 4 [10, 1] 1 ⟨[(10, vB (decide (x.base < 0))), (1, .p 0 0)], [⟨24, x.cs⟩]⟩ ?_))))))))
 cases h1 : decide (x.base < 0) with
 | true =>
  have h1 := of_decide_eq_true h1
  refine Jq 4 [14, 1] 1 ⟨[(14, vB true), (1, .p 0 0)], [⟨24, x.cs⟩]⟩ (Ln (Qn (Ci true rfl (Cs (Cg (Jq 1 [2] 0 ⟨[(2, vI 2)], []⟩ (Ln (Qn (Cr (Qr (Rt (.inl rfl) [vI 2] rfl (fun bs w hS => (⟨?_, hS.kp⟩)))))))))))))
  simp only [retOf, den, List.map_cons, List.map_nil]
  have hm : mLog x.abs = 2 := by
   unfold mLog; rw [q1, q2]
   first | rw [if_pos (by omega)] | rw [if_neg (by omega), if_pos (by omega)]
  rw [hm]
 | false =>
  have h1 := of_decide_eq_false h1
  refine Jq 4 [14, 1] 1 ⟨[(14, vB (decide ((1073741424 : Int) < x.base))), (1, .p 0 0)], [⟨24, x.cs⟩]⟩ (Ln (Qn ?_))
  cases h2 : decide ((1073741424 : Int) < x.base) with
  | true =>
   have h2 := of_decide_eq_true h2
   refine Ci true rfl (Cs (Cg (Jq 1 [2] 0 ⟨[(2, vI 2)], []⟩ (Ln (Qn (Cr (Qr (Rt (.inl rfl) [vI 2] rfl (fun bs w hS => (⟨?_, hS.kp⟩))))))))))
   simp only [retOf, den, List.map_cons, List.map_nil]
   have hm : mLog x.abs = 2 := by
    unfold mLog; rw [q1, q2]
    first | rw [if_pos (by omega)] | rw [if_neg (by omega), if_pos (by omega)]
   rw [hm]
  | false =>
   have h2 := of_decide_eq_false h2
   refine Ci false rfl (Ck (Qn (Cs (Cs (Cg (Jq 4 [18, 1] 1 ⟨[(18, vB (decide ((400 : Int) < (x.entries.n : Int)))), (1, .p 0 0)], [⟨24, x.cs⟩]⟩ (Ln (Qn ?_))))))))
   cases h3 : decide ((400 : Int) < (x.entries.n : Int)) with
   | true =>
    have h3 := of_decide_eq_true h3
    refine Ci true rfl (Cs (Cg (Jq 1 [2] 0 ⟨[(2, vI 1)], []⟩ (Ln (Qn (Cr (Qr (Rt (.inl rfl) [vI 1] rfl (fun bs w hS => (⟨?_, hS.kp⟩))))))))))
    simp only [retOf, den, List.map_cons, List.map_nil]
    have hm : mLog x.abs = 1 := by
     unfold mLog; rw [q1, q2]
     first | rw [if_pos (by omega)] | rw [if_neg (by omega), if_pos (by omega)]
    rw [hm]
   | false =>
    have h3 := of_decide_eq_false h3
    refine Ci false rfl (Ck (Qn (Cs (Cs (Cg (Jq 4 [22, 21, 20] 0 ⟨[(22, vI 0), (21, vI (x.entries.n : Int)), (20, .v x.entries.val)], []⟩ (Ln (Qn (Cb (Cl (σ := Nat) (fun i => i ≤ x.entries.n ∧ mLog x.abs = firstF (logF x.entries.xs) (x.entries.n - i) i) (fun i => x.entries.n - i) (fun i => []) (fun i => ⟨[(22, vI (i : Int)), (21, vI (x.entries.n : Int)), (20, .v x.entries.val)], []⟩) 0 ⟨Nat.zero_le _, by unfold mLog; rw [q1, q2, if_neg (by omega), if_neg (by omega)]⟩ (Ss [22, 21, 20] 0 (by kernel_rfl) rfl) ?_))))))))))
    rintro i ⟨hi, hI⟩
    refine Cs (Cg (Jq 1 [23, 22, 21, 20] 0 ⟨[(23, vB (decide ((i : Int) < (x.entries.n : Int)))), (22, vI (i : Int)), (21, vI (x.entries.n : Int)), (20, .v x.entries.val)], []⟩ (Ln (Qn (Cs ?_)))))
    cases h4 : decide ((i : Int) < (x.entries.n : Int)) with
    | true =>
     have h4 := of_decide_eq_true h4
     refine Ci true rfl (Ck (Qn (Cs (Cb (Cs (Cg (Jr 3 [(0, .idx x.entries.ad i), (1, .ext [.string (x.entries.at i)])] [4, 22, 21, 20] 0 ⟨[(4, vS (x.entries.at i)), (22, vI (i : Int)), (21, vI (x.entries.n : Int)), (20, .v x.entries.val)], []⟩ [x.entries.A = some x.entries.ad, (i : Int) = (i : Int), i < x.entries.n] [(x.entries.ad.add (i * 1), [.string (x.entries.at i)])] (by kernel_rfl) (oc (Sl.ok.own (s := x.entries) (i := i) okx (by omega)) (oc rfl (oc (by omega) on))) (fun w hk hr => ⟨(Sl.rd.all (s := x.entries) (i := i) (Rds.kp hx hk) (by omega) rfl), trivial⟩) (Ln (Qn (Cs (Cg (Jq 1 [27, 22, 21, 20] 0 ⟨[(27, vS (x.entries.at i)), (22, vI (i : Int)), (21, vI (x.entries.n : Int)), (20, .v x.entries.val)], []⟩ (Lp 51 [] [vS (x.entries.at i)] (.tuple #[.agg #[.int .i64 (mDecode (x.entries.at i)).1.kind, .int .i64 (mDecode (x.entries.at i)).1.client, .int .i64 (mDecode (x.entries.at i)).1.session, .int .i64 (mDecode (x.entries.at i)).1.seq, .int .i64 (mDecode (x.entries.at i)).1.acked, .int .i64 (mDecode (x.entries.at i)).1.op.kind, .string (mDecode (x.entries.at i)).1.op.a, .string (mDecode (x.entries.at i)).1.op.b, .int .i64 (mDecode (x.entries.at i)).1.op.n], .int .i64 (mDecode (x.entries.at i)).2]) Try.call51 rfl rfl rfl rfl (fun bs w hS => command_Decode (x.entries.at i) w (Sl.ok.at (s := x.entries) (i := i) okx (by omega))) (Jq 6 [6, 22, 21, 20] 0 ⟨[(6, vI (mDecode (x.entries.at i)).2), (22, vI (i : Int)), (21, vI (x.entries.n : Int)), (20, .v x.entries.val)], []⟩ (Ln (Qn (Cs (Cg (Jq 2 [32, 6, 22, 21, 20] 0 ⟨[(32, vB (!(decide ((mDecode (x.entries.at i)).2 = 0)))), (6, vI (mDecode (x.entries.at i)).2), (22, vI (i : Int)), (21, vI (x.entries.n : Int)), (20, .v x.entries.val)], []⟩ (Ln (Qn ?_)))))))))))))))))))))
     cases h5 : decide ((mDecode (x.entries.at i)).2 = 0) with
     | true =>
      have h5 := of_decide_eq_true h5
      refine Ci false rfl (Ck (q_block_normal (Qn (Cg (Jr 2 [] [22, 21, 20] 0 ⟨[(22, vI ((i : Int) + 1)), (21, vI (x.entries.n : Int)), (20, .v x.entries.val)], []⟩ [inR ((i : Int) + 1)] [] (by kernel_rfl) (oc (by unfold inR; omega) on) wn ?_)))))
      have hf0 : logF x.entries.xs i = 0 := by unfold logF; rw [hat]; assumption
      refine Ln (Ql (x := (i : Nat)) ((i + 1) : Nat) ⟨by omega, by rw [hI]; exact firstF_step (by omega) hf0⟩ (by omega) (Ss [22, 21, 20] 0 (by kernel_rfl) rfl))
     | false =>
      have h5 := of_decide_eq_false h5
      refine Ci true rfl (Cs (Cg (Jq 2 [2] 0 ⟨[(2, vI (mDecode (x.entries.at i)).2)], []⟩ (Ln (Qn (Cr (Qb (Qr (Qr (Qb (Qr (Rt (.inl rfl) [vI (mDecode (x.entries.at i)).2] rfl (fun bs w hS => (⟨?_, hS.kp⟩))))))))))))))
      simp only [retOf, den, List.map_cons, List.map_nil]
      have hf : logF x.entries.xs i = (mDecode (x.entries.at i)).2 := by unfold logF; rw [hat]
      rw [hI, firstF_here (by omega) hf (by assumption)]
    | false =>
     have h4 := of_decide_eq_false h4
     refine Ci false rfl (c_exit (Qe (Qe (Qh (Qn (Cs (Cg (Jq 1 [2] 0 ⟨[(2, vI 0)], []⟩ (Ln (Qn (Cr (Rt (.inl rfl) [vI 0] rfl (fun bs w hS => (⟨?_, hS.kp⟩))))))))))))))
     simp only [retOf, den, List.map_cons, List.map_nil]
     rw [hI, firstF_end (by omega)]

theorem ref_LogFault {B : Nat → Prop} (x : CLog) (w : World) (hx : Rds.sub B w x) : Calls Try.prog 39 #[.agg #[.int .i64 x.base, .slice x.entries.A x.entries.n x.entries.c]] w fun e w' => e = .returned (.int .i64 (mLog x.abs)) ∧ Kp [] w w' := by
 have okx := Rds.okof hx
 have ncx := Sl.ok.nc okx
 have hnx : x.entries.n = x.entries.xs.length := rfl
 have q1 : x.abs.base = x.base := rfl
 have q2 : x.abs.entries = x.entries.xs := rfl
 have hat : ∀ q, x.entries.xs.getD q default = x.entries.at q := fun _ => rfl
 refine calls_J0 33 Try.func39 rfl rfl [.agg #[.int .i64 x.base, .slice x.entries.A x.entries.n x.entries.c]] rfl ?_
 refine Cs (Cg (Jq 2 [1] 1 ⟨[(1, .p 0 0)], [⟨24, x.cs⟩]⟩ (Ln (Qn (Cs (Cs (Cg (Jq 2 [7, 1] 1 ⟨[(7, vI x.base), (1, .p 0 0)], [⟨24, x.cs⟩]⟩ (Lp 41 [] [vI x.base, vI 0, vI 1073741424] (.bool (inB x.base 0 1073741424)) Try.call41 rfl rfl rfl rfl (fun bs w hS => ref_In _ _ _ w) (Jq 1 [9, 1] 1 ⟨[(9, vB (!(inB x.base 0 1073741424))), (1, .p 0 0)], [⟨24, x.cs⟩]⟩ (Ln (Qn ?_))))))))))))
 cases h1 : inB x.base 0 1073741424 with
 | true =>
  simp only [inB, Bool.and_eq_true, Bool.and_eq_false_iff, decide_eq_true_eq, decide_eq_false_iff_not] at h1
  refine Ci false rfl (Ck (Qn (Cs (Cs (Cg (Jq 4 [13, 1] 1 ⟨[(13, vB (decide ((400 : Int) < (x.entries.n : Int)))), (1, .p 0 0)], [⟨24, x.cs⟩]⟩ (Ln (Qn ?_))))))))
  cases h2 : decide ((400 : Int) < (x.entries.n : Int)) with
  | true =>
   have h2 := of_decide_eq_true h2
   refine Ci true rfl (Cs (Cg (Jq 1 [2] 0 ⟨[(2, vI 1)], []⟩ (Ln (Qn (Cr (Qr (Rt (.inl rfl) [vI 1] rfl (fun bs w hS => (⟨?_, hS.kp⟩))))))))))
   simp only [retOf, den, List.map_cons, List.map_nil]
   have hm : mLog x.abs = 1 := by
    unfold mLog; rw [q1, q2]
    first | rw [if_pos (by omega)] | rw [if_neg (by omega), if_pos (by omega)]
   rw [hm]
  | false =>
   have h2 := of_decide_eq_false h2
   refine Ci false rfl (Ck (Qn (Cs (Cs (Cg (Jq 1 [3, 1] 1 ⟨[(3, vI 0), (1, .p 0 0)], [⟨24, x.cs⟩]⟩ (Ln (Qn (Cb (Cl (σ := Nat) (fun i => i ≤ x.entries.n ∧ mLog x.abs = firstF (logF x.entries.xs) (x.entries.n - i) i) (fun i => x.entries.n - i) (fun i => []) (fun i => ⟨[(3, vI (i : Int)), (1, .p 0 0)], [⟨24, x.cs⟩]⟩) 0 ⟨Nat.zero_le _, by unfold mLog; rw [q1, q2, if_neg (by omega), if_neg (by omega)]⟩ (Ss [3, 1] 1 (by kernel_rfl) rfl) ?_))))))))))
   rintro i ⟨hi, hI⟩
   refine Cs (Cs (Cg (Jq 5 [18, 3, 1] 1 ⟨[(18, vB (decide ((i : Int) < (x.entries.n : Int)))), (3, vI (i : Int)), (1, .p 0 0)], [⟨24, x.cs⟩]⟩ (Ln (Qn ?_)))))
   cases h3 : decide ((i : Int) < (x.entries.n : Int)) with
   | true =>
    have h3 := of_decide_eq_true h3
    refine Ci true rfl (Ck (Qn (Cs (Cb (Cs (Cg (Jr 5 [(3, .idx x.entries.ad i), (4, .ext [.string (x.entries.at i)])] [26, 3, 1] 1 ⟨[(26, vS (x.entries.at i)), (3, vI (i : Int)), (1, .p 0 0)], [⟨24, x.cs⟩]⟩ [x.entries.A = some x.entries.ad, (i : Int) = (i : Int), i < x.entries.n] [(x.entries.ad.add (i * 1), [.string (x.entries.at i)])] (by kernel_rfl) (oc (Sl.ok.own (s := x.entries) (i := i) okx (by omega)) (oc rfl (oc (by omega) on))) (fun w hk hr => ⟨(Sl.rd.all (s := x.entries) (i := i) (Rds.kp hx hk) (by omega) rfl), trivial⟩) (Lp 53 [] [vS (x.entries.at i)] (.tuple #[.agg #[.int .i64 (mDecode (x.entries.at i)).1.kind, .int .i64 (mDecode (x.entries.at i)).1.client, .int .i64 (mDecode (x.entries.at i)).1.session, .int .i64 (mDecode (x.entries.at i)).1.seq, .int .i64 (mDecode (x.entries.at i)).1.acked, .int .i64 (mDecode (x.entries.at i)).1.op.kind, .string (mDecode (x.entries.at i)).1.op.a, .string (mDecode (x.entries.at i)).1.op.b, .int .i64 (mDecode (x.entries.at i)).1.op.n], .int .i64 (mDecode (x.entries.at i)).2]) Try.call53 rfl rfl rfl rfl (fun bs w hS => ref_CommandOf (x.entries.at i) w (Sl.ok.at (s := x.entries) (i := i) okx (by omega))) (Jq 6 [5, 3, 1] 1 ⟨[(5, vI (mDecode (x.entries.at i)).2), (3, vI (i : Int)), (1, .p 0 0)], [⟨24, x.cs⟩]⟩ (Ln (Qn (Cs (Cg (Jq 2 [31, 5, 3, 1] 1 ⟨[(31, vB (!(decide ((mDecode (x.entries.at i)).2 = 0)))), (5, vI (mDecode (x.entries.at i)).2), (3, vI (i : Int)), (1, .p 0 0)], [⟨24, x.cs⟩]⟩ (Ln (Qn ?_))))))))))))))))
    cases h4 : decide ((mDecode (x.entries.at i)).2 = 0) with
    | true =>
     have h4 := of_decide_eq_true h4
     refine Ci false rfl (Ck (q_block_normal (Qn (Cg (Jr 3 [] [3, 1] 1 ⟨[(3, vI ((i : Int) + 1)), (1, .p 0 0)], [⟨24, x.cs⟩]⟩ [inR ((i : Int) + 1)] [] (by kernel_rfl) (oc (by unfold inR; omega) on) wn ?_)))))
     have hf0 : logF x.entries.xs i = 0 := by unfold logF; rw [hat]; assumption
     refine Ln (Ql (x := (i : Nat)) ((i + 1) : Nat) ⟨by omega, by rw [hI]; exact firstF_step (by omega) hf0⟩ (by omega) (Ss [3, 1] 1 (by kernel_rfl) rfl))
    | false =>
     have h4 := of_decide_eq_false h4
     refine Ci true rfl (Cs (Cg (Jq 2 [2] 0 ⟨[(2, vI (mDecode (x.entries.at i)).2)], []⟩ (Ln (Qn (Cr (Qb (Qr (Qr (Qb (Qr (Rt (.inl rfl) [vI (mDecode (x.entries.at i)).2] rfl (fun bs w hS => (⟨?_, hS.kp⟩))))))))))))))
     simp only [retOf, den, List.map_cons, List.map_nil]
     have hf : logF x.entries.xs i = (mDecode (x.entries.at i)).2 := by unfold logF; rw [hat]
     rw [hI, firstF_here (by omega) hf (by assumption)]
   | false =>
    have h3 := of_decide_eq_false h3
    refine Ci false rfl (c_exit (Qe (Qe (Qh (Qn (Cs (Cg (Jq 1 [2] 0 ⟨[(2, vI 0)], []⟩ (Ln (Qn (Cr (Rt (.inl rfl) [vI 0] rfl (fun bs w hS => (⟨?_, hS.kp⟩))))))))))))))
    simp only [retOf, den, List.map_cons, List.map_nil]
    rw [hI, firstF_end (by omega)]
 | false =>
  simp only [inB, Bool.and_eq_true, Bool.and_eq_false_iff, decide_eq_true_eq, decide_eq_false_iff_not] at h1
  refine Ci true rfl (Cs (Cg (Jq 1 [2] 0 ⟨[(2, vI 2)], []⟩ (Ln (Qn (Cr (Qr (Rt (.inl rfl) [vI 2] rfl (fun bs w hS => (⟨?_, hS.kp⟩))))))))))
  simp only [retOf, den, List.map_cons, List.map_nil]
  have hm : mLog x.abs = 2 := by
   unfold mLog; rw [q1, q2]
   first | rw [if_pos (by omega)] | rw [if_neg (by omega), if_pos (by omega)]
  rw [hm]

theorem log_Last {B : Nat → Prop} (x : CLog) (w : World) (hx : Rds.sub B w x) (hb : 0 ≤ x.base ∧ x.base ≤ 1073741424 ∧ x.entries.n ≤ 1048576) : Calls Try.prog 18 #[.agg #[.int .i64 x.base, .slice x.entries.A x.entries.n x.entries.c]] w fun e w' => e = .returned (.int .i64 (x.base + (x.entries.n : Int))) ∧ Kp [] w w' := by
 have okx := Rds.okof hx
 have ncx := Sl.ok.nc okx
 have hnx : x.entries.n = x.entries.xs.length := rfl
 have q1 : x.abs.base = x.base := rfl
 have q2 : x.abs.entries = x.entries.xs := rfl
 have hat : ∀ q, x.entries.xs.getD q default = x.entries.at q := fun _ => rfl
 refine calls_J0 9 Try.func18 rfl rfl [.agg #[.int .i64 x.base, .slice x.entries.A x.entries.n x.entries.c]] rfl ?_
 refine Cs (Cg (Jq 2 [1] 1 ⟨[(1, .p 0 0)], [⟨24, x.cs⟩]⟩ (Ln (Qn (Cs (Cg (Jr 7 [] [2] 0 ⟨[(2, vI (x.base + (x.entries.n : Int)))], []⟩ [inR (x.base + (x.entries.n : Int))] [] (by kernel_rfl) (oc (by unfold inR; omega) on) wn (Ln (Qn (Cr (Rt (.inl rfl) [vI (x.base + (x.entries.n : Int))] rfl (fun bs w hS => ?_))))))))))))
 exact ⟨rfl, hS.kp⟩

theorem ref_LastOf {B : Nat → Prop} (x : CLog) (w : World) (hx : Rds.sub B w x) (hb : 0 ≤ x.base ∧ x.base ≤ 1073741424 ∧ x.entries.n ≤ 1048576) : Calls Try.prog 22 #[.agg #[.int .i64 x.base, .slice x.entries.A x.entries.n x.entries.c]] w fun e w' => e = .returned (.int .i64 (x.base + (x.entries.n : Int))) ∧ Kp [] w w' := by
 have okx := Rds.okof hx
 have ncx := Sl.ok.nc okx
 have hnx : x.entries.n = x.entries.xs.length := rfl
 have q1 : x.abs.base = x.base := rfl
 have q2 : x.abs.entries = x.entries.xs := rfl
 have hat : ∀ q, x.entries.xs.getD q default = x.entries.at q := fun _ => rfl
 refine calls_J0 9 Try.func22 rfl rfl [.agg #[.int .i64 x.base, .slice x.entries.A x.entries.n x.entries.c]] rfl ?_
 refine Cs (Cg (Jq 2 [1] 1 ⟨[(1, .p 0 0)], [⟨24, x.cs⟩]⟩ (Ln (Qn (Cs (Cg (Jr 7 [] [2] 0 ⟨[(2, vI (x.base + (x.entries.n : Int)))], []⟩ [inR (x.base + (x.entries.n : Int))] [] (by kernel_rfl) (oc (by unfold inR; omega) on) wn (Ln (Qn (Cr (Rt (.inl rfl) [vI (x.base + (x.entries.n : Int))] rfl (fun bs w hS => ?_))))))))))))
 exact ⟨rfl, hS.kp⟩

theorem same_texts {B B' : Nat → Prop} (a b : Sl ByteArray) (w : World) (ha : a.rd B w) (hb : b.rd B' w) (he : a.xs = b.xs) : Calls Try.prog 46 #[.slice a.A a.n a.c, .slice b.A b.n b.c] w fun e w' => e = .returned (.bool true) ∧ Kp [] w w' := by
 have oka := Sl.rd.ok ha
 have okb := Sl.rd.ok hb
 have hn := xs_n he
 have nca := Sl.ok.nc oka
 refine calls_J0 26 Try.func46 rfl rfl [.slice a.A a.n a.c, .slice b.A b.n b.c] rfl ?_
 refine Cs (Cg (Jq 1 [0, 1] 0 ⟨[(0, .v a.val), (1, .v b.val)], []⟩ (Ln (Qn (Cs (Cs (Cg (Jq 5 [10, 0, 1] 0 ⟨[(10, vB (!(decide ((a.n : Int) = (b.n : Int))))), (0, .v a.val), (1, .v b.val)], []⟩ (Ln (Qn ?_))))))))))
 cases h1 : decide ((a.n : Int) = (b.n : Int)) with
 | true =>
  have h1 := of_decide_eq_true h1
  refine Ci false rfl (Ck (Qn (Cs (Cs (Cg (Jq 1 [5, 0, 1] 0 ⟨[(5, vI 0), (0, .v a.val), (1, .v b.val)], []⟩ (Ln (Qn (Cb (Cl (σ := Nat) (fun i => True) (fun i => a.n - i) (fun i => []) (fun i => ⟨[(5, vI (i : Int)), (0, .v a.val), (1, .v b.val)], []⟩) 0 trivial (Ss [5, 0, 1] 0 (by kernel_rfl) rfl) ?_))))))))))
  rintro i _
  have hat := xs_at he i
  refine Cs (Cs (Cg (Jq 4 [14, 5, 0, 1] 0 ⟨[(14, vB (decide ((i : Int) < (a.n : Int)))), (5, vI (i : Int)), (0, .v a.val), (1, .v b.val)], []⟩ (Ln (Qn ?_)))))
  cases h2 : decide ((i : Int) < (a.n : Int)) with
  | true =>
   have h2 := of_decide_eq_true h2
   refine Ci true rfl (Ck (Qn (Cs (Cb (Cs (Cd 9 [] (.p 0 (.p 1 (.p 2 (.q 3 (.p 4 (.p 5 (.p 6 (.q 7 (.p 8 .nil))))))))) [] [] Try_mixed (by kernel_rfl) (pq_then (pq_block (pq_then (pq_then (pq_block (pq_then pq_body)))))) .slnil (Hq [(2, .idx a.ad i), (3, .ext [.string (a.at i)]), (6, .idx b.ad i), (7, .ext [.string (b.at i)])] [(0, true), (1, true), (2, true), (3, false), (4, true), (5, true), (6, true), (7, false), (8, true)] [(25, vB (!(decide ((a.at i) = (b.at i))))), (24, vS (b.at i)), (23, .v (.pointer (some (b.ad.add (i * 1))))), (22, vI (i : Int)), (21, .v b.val), (20, vS (a.at i)), (19, .v (.pointer (some (a.ad.add (i * 1))))), (18, vI (i : Int)), (17, .v a.val), (14, vB true), (5, vI (i : Int)), (0, .v a.val), (1, .v b.val)] [a.A = some a.ad, (i : Int) = (i : Int), i < a.n, b.A = some b.ad, (i : Int) = (i : Int), i < b.n] [(a.ad.add (i * 1), [.string (a.at i)]), (b.ad.add (i * 1), [.string (b.at i)])] rfl (by kernel_rfl) (oc (Sl.ok.own (s := a) (i := i) oka (by omega)) (oc rfl (oc (by omega) (oc (Sl.ok.own (s := b) (i := i) okb (by omega)) (oc rfl (oc (by omega) on)))))) (fun w hk hr => ⟨(Sl.rd.all (s := a) (i := i) (Sl.rd.kp ha hk) (by omega) rfl), ⟨(Sl.rd.all (s := b) (i := i) (Sl.rd.kp hb hk) (by omega) rfl), trivial⟩⟩) (Hn (Ln (Qn ?_))))))))))
   cases h3 : decide ((a.at i) = (b.at i)) with
   | true =>
    have h3 := of_decide_eq_true h3
    refine Ci false rfl (Ck (q_block_normal (Qn (Cg (Jr 3 [] [5, 0, 1] 0 ⟨[(5, vI ((i : Int) + 1)), (0, .v a.val), (1, .v b.val)], []⟩ [inR ((i : Int) + 1)] [] (by kernel_rfl) (oc (by unfold inR; omega) on) wn (Ln (Ql (x := (i : Nat)) ((i + 1) : Nat) trivial (by omega) (Ss [5, 0, 1] 0 (by kernel_rfl) rfl))))))))
   | false =>
    have h3 := of_decide_eq_false h3
    exfalso; first | omega | exact h3 (xs_at he i)
  | false =>
   have h2 := of_decide_eq_false h2
   refine Ci false rfl (c_exit (Qe (Qe (Qh (Qn (Cs (Cg (Jq 1 [4] 0 ⟨[(4, vB true)], []⟩ (Ln (Qn (Cr (Rt (.inl rfl) [vB true] rfl (fun bs w hS => ?_)))))))))))))
   exact ⟨rfl, hS.kp⟩
 | false =>
  have h1 := of_decide_eq_false h1
  exfalso; first | omega | exact h1 (xs_at he i)

theorem cloneS_ByteArray (A : Option Addr) (n c : Nat) (L : List ByteArray) (w : World) (hl : L.length = n) (hsrc : SrcAt w A n (L.flatMap Lay.cells)) (hb : n ≤ 1048576) : Calls Try.prog 38 #[.slice A n c] w fun e w' => ∃ y : Sl ByteArray, e = .returned y.val ∧ y.xs = L ∧ Kp [] w w' ∧ Fresh w w' (rowA 9 y.A y.c y.xs) := by
 refine calls_J0 8 Try.func38 rfl rfl [.slice A n c] rfl ?_
 refine Cs (Cg (Jq 1 [0] 0 ⟨[(0, .v (.slice A n c))], []⟩ (Ln (Qn (Cs (Cs (Cg (Jr 2 [(1, .val (.bool A.isNone))] [4, 0] 0 ⟨[(4, vB A.isNone), (0, .v (.slice A n c))], []⟩ [∀ w, (do eqGuard .eql 22 (.tmp 3) (.const (.slice none 0 0)) (.slice A n c) (.slice none 0 0); binOp .eql 22 (.slice A n c) (.slice none 0 0) : Sem Value).run Try.prog w = .ok (.bool A.isNone) w] [] (by kernel_rfl) (oc (eq_nil Try.underlying22) on) wn (Ln (Qn ?_))))))))))
 cases h1 : A.isNone with
 | true =>
  refine Ci true rfl (Cs (Cg (Jq 1 [2] 0 ⟨[(2, .v (.slice none 0 0))], []⟩ (Ln (Qn (Cr (Qr (Rt (.inl rfl) [.v (.slice none 0 0)] rfl (fun bs w hS => ?_)))))))))
  have hnil : L = [] := by cases hA : A with | none => rw [hA] at hsrc; have h0 : n = 0 := hsrc; exact List.eq_nil_of_length_eq_zero (by omega) | some a => rw [hA] at h1; cases h1
  exact ⟨Sl.nil, rfl, hnil.symm, hS.kp, rowA_nil 9 w⟩
 | false =>
  refine Ci false rfl (Ck (Qn (Cs (Cg (l_row0A (α := ByteArray) 9 Try.underlying22 (by kernel_rfl) (by kernel_rfl) (by kernel_rfl) rfl ?_)))))
  intro A1
  refine Jq 1 [6, 5] 0 ⟨[(6, .v (.slice A n c)), (5, .v (.slice A1 ([] : List ByteArray).length 0))], []⟩ (La (α := ByteArray) 9 16 A1 0 ([]) (.v (.slice A n c)) (L) Try.underlying22 (by kernel_rfl) rfl rfl rfl (fun bs w hS => ⟨_, _, by rw [hl]; rfl, by rw [hl]; exact (SrcAt.kp hsrc hS.kp)⟩) (by simp only [List.length_nil]; omega) (by simp only [List.length_nil]; omega) ?_)
  intro A2 c2
  refine Jq 1 [2] 0 ⟨[(2, .v (.slice A2 ([] ++ L).length c2))], []⟩ (Ln (Qn (Cr (Rt (.inl rfl) [.v (.slice A2 ([] ++ L).length c2)] rfl (fun bs w hS => ?_)))))
  exact ⟨⟨A2, c2, [] ++ L⟩, rfl, by simp, hS.kp, hS.out1⟩
theorem clone_ByteArray {B : Nat → Prop} (s : Sl ByteArray) (w : World) (hs : s.rd B w) (hb : s.n ≤ 1048576) : Calls Try.prog 38 #[.slice s.A s.n s.c] w fun e w' => ∃ y : Sl ByteArray, e = .returned y.val ∧ y.xs = s.xs ∧ Kp [] w w' ∧ Fresh w w' (rowA 9 y.A y.c y.xs) := cloneS_ByteArray s.A s.n s.c s.xs w rfl hs.src hb

theorem same_log {B B' : Nat → Prop} (a b : CLog) (w : World) (ha : Rds.sub B w a) (hb : Rds.sub B' w b) (he : a.abs = b.abs) : Calls Try.prog 23 #[.agg #[.int .i64 a.base, .slice a.entries.A a.entries.n a.entries.c], .agg #[.int .i64 b.base, .slice b.entries.A b.entries.n b.entries.c]] w fun e w' => e = .returned (.bool true) ∧ Kp [] w w' := by
 have oka := Rds.okof ha
 have okb := Rds.okof hb
 refine calls_J0 17 Try.func23 rfl rfl [.agg #[.int .i64 a.base, .slice a.entries.A a.entries.n a.entries.c], .agg #[.int .i64 b.base, .slice b.entries.A b.entries.n b.entries.c]] rfl ?_
 refine Cs (Cg (Jq 3 [3, 2] 2 ⟨[(3, .p 1 0), (2, .p 0 0)], [⟨24, a.cs⟩, ⟨24, b.cs⟩]⟩ (Ln (Qn (Cs (Cg (Jq 6 [10, 3, 2] 2 ⟨[(10, vB (decide (a.base = b.base))), (3, .p 1 0), (2, .p 0 0)], [⟨24, a.cs⟩, ⟨24, b.cs⟩]⟩ ?_)))))))
 cases h1 : decide (a.base = b.base) with
 | true =>
  have h1 := of_decide_eq_true h1
  refine Jq 4 [14, 12, 10] 0 ⟨[(14, .v b.entries.val), (12, .v a.entries.val), (10, vB true)], []⟩ (Lp 46 [] [.v a.entries.val, .v b.entries.val] (.bool true) Try.call46 rfl rfl rfl rfl (fun bs w hS => same_texts _ _ w (Rds.kp ha hS.kp) (Rds.kp hb hS.kp) (congrArg DLog.entries he)) (Jq 2 [4] 0 ⟨[(4, vB true)], []⟩ (Ln (Qn (Cr (Rt (.inl rfl) [vB true] rfl (fun bs w hS => ?_)))))))
  exact ⟨rfl, hS.kp⟩
 | false =>
  have h1 := of_decide_eq_false h1
  exact absurd (congrArg (fun q => q.base) he) h1

theorem lock_client (n : Int) (w : World) : Calls Try.prog 84 #[.int .i64 n] w fun e w' => e = .returned (.bool (inB n 1 9)) ∧ Kp [] w w' := by
 refine calls_J0 9 Try.func84 rfl rfl [.int .i64 n] rfl ?_
 refine Cs (Cg (Jq 1 [0] 0 ⟨[(0, vI n)], []⟩ (Ln (Qn (Cs (Cg (Jq 3 [5, 0] 0 ⟨[(5, vB (decide ((1 : Int) ≤ n))), (0, vI n)], []⟩ ?_)))))))
 cases h1 : decide ((1 : Int) ≤ n) with
 | true =>
  have h1 := of_decide_eq_true h1
  refine Jq 4 [2] 0 ⟨[(2, vB (decide (n ≤ 9)))], []⟩ (Ln (Qn (Cr (Rt (.inl rfl) [vB (decide (n ≤ 9))] rfl (fun bs w hS => ?_)))))
  exact ⟨by simp [retOf, den, inB, h1], hS.kp⟩
 | false =>
  have h1 := of_decide_eq_false h1
  refine Jq 4 [2] 0 ⟨[(2, vB false)], []⟩ (Ln (Qn (Cr (Rt (.inl rfl) [vB false] rfl (fun bs w hS => ?_)))))
  exact ⟨by simp [retOf, den, inB, h1], hS.kp⟩

end Go.Proofs.Ytececkgjacccmae.W
