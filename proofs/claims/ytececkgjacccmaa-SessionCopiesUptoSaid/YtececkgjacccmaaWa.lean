/-
  The functions of package codec, and the document's own, walked: each returns what its model says.
  Conditions: those that each theorem states.
-/
import Derived.Test.YtececkgjacccmaaMb
import Derived.Test.YtececkgjacccmaaChecked
set_option linter.unusedVariables false
set_option linter.unusedSimpArgs false
namespace Go.Proofs.Ytececkgjacccmaa.W
open Go.Proofs.Ytececkgjacccmaa.Fw Go.RowKit

theorem Try_mixed : Try.prog.follows .mixedOrders = true := by kernel_rfl

theorem laid : laidOutB Try.prog = true := by kernel_rfl

theorem ref_In (n lo hi : Int) (w : World) : Calls Try.prog 38 #[.int .i64 n, .int .i64 lo, .int .i64 hi] w fun e w' => e = .returned (.bool (inB n lo hi)) ∧ Kp [] w w' := by
  refine calls_J0 15 Try.func38 rfl rfl [.int .i64 n, .int .i64 lo, .int .i64 hi] rfl ?_
  refine c_seq ?_
  refine c_region ?_
  refine JL_run 1 [] [0, 1, 2] 0 ⟨[(0, vI n), (1, vI lo), (2, vI hi)], []⟩ [] [] (by kernel_rfl) on wn ?_
  refine l_nil (q_then_normal ?_)
  refine c_seq ?_
  refine c_region ?_
  refine JL_run 4 [] [10, 0, 2] 0 ⟨[(10, vB (decide (lo ≤ n))), (0, vI n), (2, vI hi)], []⟩ [] [] (by kernel_rfl) on wn ?_
  cases h1 : decide (lo ≤ n) with
  | true =>
    have h1 := of_decide_eq_true h1
    refine JL_run 5 [] [6] 0 ⟨[(6, vB (decide (n ≤ hi)))], []⟩ [] [] (by kernel_rfl) on wn ?_
    refine l_nil (q_then_normal ?_)
    refine c_ret ?_
    refine q_ret (.inl rfl) [vB (decide (n ≤ hi))] rfl (fun bs w hS => ?_)
    exact ⟨by simp [retOf, den, inB, h1], hS.kp⟩
  | false =>
    have h1 := of_decide_eq_false h1
    refine JL_run 5 [] [6] 0 ⟨[(6, vB false)], []⟩ [] [] (by kernel_rfl) on wn ?_
    refine l_nil (q_then_normal ?_)
    refine c_ret ?_
    refine q_ret (.inl rfl) [vB false] rfl (fun bs w hS => ?_)
    exact ⟨by simp [retOf, den, inB, h1], hS.kp⟩

theorem codec_Seal (s : ByteArray) (w : World) (hs : s.size ≤ 9223372036854775807) : Calls Try.prog 21 #[.string s] w fun e w' => e = .returned (.string (mSeal s)) ∧ Kp [] w w' := by
  refine calls_J0 35 Try.func21 rfl rfl [.string s] rfl ?_
  refine c_seq ?_
  refine c_region ?_
  refine JL_run 1 [] [0] 0 ⟨[(0, vS s)], []⟩ [] [] (by kernel_rfl) on wn ?_
  refine l_nil (q_then_normal ?_)
  refine c_seq ?_
  refine c_region ?_
  refine JL_run 2 [] [4, 3, 0] 0 ⟨[(4, vI 0), (3, vI 1), (0, vS s)], []⟩ [] [] (by kernel_rfl) on wn ?_
  refine l_nil (q_then_normal ?_)
  refine c_seq ?_
  refine c_seq ?_
  refine c_region ?_
  refine JL_run 3 [] [8, 7, 4, 3, 0] 0 ⟨[(8, vI 0), (7, vI (s.size : Int)), (4, vI 0), (3, vI 1), (0, vS s)], []⟩ [] [] (by kernel_rfl) on wn ?_
  refine l_nil (q_then_normal ?_)
  refine c_block ?_
  refine c_loop (σ := Nat) (fun k => k ≤ s.size) (fun k => s.size - k) (fun k => []) (fun k => ⟨[(8, vI ((k : Nat) : Int)), (7, vI (s.size : Int)), (4, vI ((sealTo s k).2)), (3, vI ((sealTo s k).1)), (0, vS s)], []⟩) 0 (Nat.zero_le _) (s_start [8, 7, 4, 3, 0] 0 (by kernel_rfl) rfl) ?_
  rintro k hk
  have hb := sealTo_bd s k
  have hu := (s.data.getD k 0).toNat_lt
  refine c_seq ?_
  refine c_region ?_
  refine JL_run 1 [] [9, 8, 7, 4, 3, 0] 0 ⟨[(9, vB (decide (((k : Nat) : Int) < (s.size : Int)))), (8, vI ((k : Nat) : Int)), (7, vI (s.size : Int)), (4, vI ((sealTo s k).2)), (3, vI ((sealTo s k).1)), (0, vS s)], []⟩ [] [] (by kernel_rfl) on wn ?_
  refine l_nil (q_then_normal ?_)
  refine c_seq ?_
  cases h1 : decide (((k : Nat) : Int) < (s.size : Int)) with
  | true =>
    have h1 := of_decide_eq_true h1
    refine c_if true rfl ?_
    refine c_skip ?_
    refine q_then_normal ?_
    refine c_seq ?_
    refine c_block ?_
    refine c_seq ?_
    refine c_region ?_
    refine JL_run 2 [] [5, 8, 7, 4, 3, 0] 0 ⟨[(5, vI ((k : Nat) : Int)), (8, vI ((k : Nat) : Int)), (7, vI (s.size : Int)), (4, vI ((sealTo s k).2)), (3, vI ((sealTo s k).1)), (0, vS s)], []⟩ [] [] (by kernel_rfl) on wn ?_
    refine l_nil (q_then_normal ?_)
    refine c_seq ?_
    refine c_region ?_
    refine JL_run 8 [(3, .sidx k)] [3, 8, 7, 4, 0] 0 ⟨[(3, vI ((((sealTo s k).1) + ((s.data.getD k 0).toNat : Int)) % 65521)), (8, vI ((k : Nat) : Int)), (7, vI (s.size : Int)), (4, vI ((sealTo s k).2)), (0, vS s)], []⟩ [((k : Nat) : Int) = ((k : Nat) : Int), k < s.size, 0 ≤ ((s.data.getD k 0).toNat : Int), ((s.data.getD k 0).toNat : Int) ≤ 255, inR (((sealTo s k).1) + ((s.data.getD k 0).toNat : Int)), 0 ≤ ((sealTo s k).1) + ((s.data.getD k 0).toNat : Int), (0 : Int) < 65521] [] (by kernel_rfl) (oc rfl (oc (by omega) (oc (by omega) (oc (by omega) (oc (by unfold inR; omega) (oc (by omega) (oc (by omega) on))))))) wn ?_
    refine l_nil (q_then_normal ?_)
    refine c_region ?_
    refine JL_run 5 [] [4, 3, 8, 7, 0] 0 ⟨[(4, vI ((((sealTo s k).2) + ((((sealTo s k).1) + ((s.data.getD k 0).toNat : Int)) % 65521)) % 65521)), (3, vI ((((sealTo s k).1) + ((s.data.getD k 0).toNat : Int)) % 65521)), (8, vI ((k : Nat) : Int)), (7, vI (s.size : Int)), (0, vS s)], []⟩ [inR (((sealTo s k).2) + ((((sealTo s k).1) + ((s.data.getD k 0).toNat : Int)) % 65521)), 0 ≤ ((sealTo s k).2) + ((((sealTo s k).1) + ((s.data.getD k 0).toNat : Int)) % 65521), (0 : Int) < 65521] [] (by kernel_rfl) (oc (by unfold inR; omega) (oc (by omega) (oc (by omega) on))) wn ?_
    refine l_nil (q_block_normal (q_then_normal ?_))
    refine c_region ?_
    refine JL_run 2 [] [8, 4, 3, 7, 0] 0 ⟨[(8, vI (((k : Nat) : Int) + 1)), (4, vI ((((sealTo s k).2) + ((((sealTo s k).1) + ((s.data.getD k 0).toNat : Int)) % 65521)) % 65521)), (3, vI ((((sealTo s k).1) + ((s.data.getD k 0).toNat : Int)) % 65521)), (7, vI (s.size : Int)), (0, vS s)], []⟩ [inR (((k : Nat) : Int) + 1)] [] (by kernel_rfl) (oc (by unfold inR; omega) on) wn ?_
    refine l_nil (q_loop (x := (k : Nat)) ((k + 1) : Nat) (by omega) (by omega) (s_start [8, 7, 4, 3, 0] 0 (by kernel_rfl) rfl))
  | false =>
    have h1 := of_decide_eq_false h1
    refine c_if false rfl ?_
    refine c_exit ?_
    refine q_then_exit (q_then_exit (q_block_hit (q_then_normal ?_)))
    refine c_seq ?_
    refine c_region ?_
    refine JL_run 11 [] [33] 1 ⟨[(33, .s 0 0 4 4)], [⟨5, [.v (.int .u8 ((((sealTo s k).2) / 2 ^ (8 : Int).toNat) % 256)), .v (.int .u8 (((sealTo s k).2) % 256)), .v (.int .u8 ((((sealTo s k).1) / 2 ^ (8 : Int).toNat) % 256)), .v (.int .u8 (((sealTo s k).1) % 256))]⟩]⟩ [(0 : Int) ≤ 8, 8 ≤ (64 : Int), (0 : Int) ≤ 8, 8 ≤ (64 : Int)] [] (by kernel_rfl) (oc (by omega) (oc (by omega) (oc (by omega) (oc (by omega) on)))) wn ?_
    refine l_bytes 5 (.s 0 0 4 4) [(((sealTo s k).2) / 2 ^ (8 : Int).toNat) % 256, ((sealTo s k).2) % 256, (((sealTo s k).1) / 2 ^ (8 : Int).toNat) % 256, ((sealTo s k).1) % 256] Try.underlying68 Try.underlying5 Try.underlying9 rfl rfl (fun bs w hS => src_loc (q := 4) hS rfl rfl) ?_
    refine JL_run 1 [] [2] 0 ⟨[(2, vS (bstr ([(((sealTo s k).2) / 2 ^ (8 : Int).toNat) % 256, ((sealTo s k).2) % 256, (((sealTo s k).1) / 2 ^ (8 : Int).toNat) % 256, ((sealTo s k).1) % 256])))], []⟩ [] [] (by kernel_rfl) on wn ?_
    refine l_nil (q_then_normal ?_)
    refine c_ret ?_
    refine q_ret (.inl rfl) [vS (bstr ([(((sealTo s k).2) / 2 ^ (8 : Int).toNat) % 256, ((sealTo s k).2) % 256, (((sealTo s k).1) / 2 ^ (8 : Int).toNat) % 256, ((sealTo s k).1) % 256]))] rfl (fun bs w hS => ?_)
    refine ⟨?_, hS.kp⟩
    have e : k = s.size := by omega
    subst e
    simp [retOf, den, mSeal]

theorem ref_SealOf (s : ByteArray) (w : World) (hs : s.size ≤ 9223372036854775807) : Calls Try.prog 22 #[.string s] w fun e w' => e = .returned (.string (mSeal s)) ∧ Kp [] w w' := by
  refine calls_J0 37 Try.func22 rfl rfl [.string s] rfl ?_
  refine c_seq ?_
  refine c_region ?_
  refine JL_run 1 [] [0] 0 ⟨[(0, vS s)], []⟩ [] [] (by kernel_rfl) on wn ?_
  refine l_nil (q_then_normal ?_)
  refine c_seq ?_
  refine c_region ?_
  refine JL_run 1 [] [3, 0] 0 ⟨[(3, vI 1), (0, vS s)], []⟩ [] [] (by kernel_rfl) on wn ?_
  refine l_nil (q_then_normal ?_)
  refine c_seq ?_
  refine c_region ?_
  refine JL_run 1 [] [4, 3, 0] 0 ⟨[(4, vI 0), (3, vI 1), (0, vS s)], []⟩ [] [] (by kernel_rfl) on wn ?_
  refine l_nil (q_then_normal ?_)
  refine c_seq ?_
  refine c_seq ?_
  refine c_region ?_
  refine JL_run 1 [] [5, 4, 3, 0] 0 ⟨[(5, vI 0), (4, vI 0), (3, vI 1), (0, vS s)], []⟩ [] [] (by kernel_rfl) on wn ?_
  refine l_nil (q_then_normal ?_)
  refine c_block ?_
  refine c_loop (σ := Nat) (fun k => k ≤ s.size) (fun k => s.size - k) (fun k => []) (fun k => ⟨[(5, vI ((k : Nat) : Int)), (4, vI ((sealTo s k).2)), (3, vI ((sealTo s k).1)), (0, vS s)], []⟩) 0 (Nat.zero_le _) (s_start [5, 4, 3, 0] 0 (by kernel_rfl) rfl) ?_
  rintro k hk
  have hb := sealTo_bd s k
  have hu := (s.data.getD k 0).toNat_lt
  refine c_seq ?_
  refine c_seq ?_
  refine c_region ?_
  refine JL_run 4 [] [9, 5, 4, 3, 0] 0 ⟨[(9, vB (decide (((k : Nat) : Int) < (s.size : Int)))), (5, vI ((k : Nat) : Int)), (4, vI ((sealTo s k).2)), (3, vI ((sealTo s k).1)), (0, vS s)], []⟩ [] [] (by kernel_rfl) on wn ?_
  refine l_nil (q_then_normal ?_)
  cases h1 : decide (((k : Nat) : Int) < (s.size : Int)) with
  | true =>
    have h1 := of_decide_eq_true h1
    refine c_if true rfl ?_
    refine c_skip ?_
    refine q_then_normal ?_
    refine c_seq ?_
    refine c_block ?_
    refine c_seq ?_
    refine c_region ?_
    refine JL_run 8 [(3, .sidx k)] [3, 5, 4, 0] 0 ⟨[(3, vI ((((sealTo s k).1) + ((s.data.getD k 0).toNat : Int)) % 65521)), (5, vI ((k : Nat) : Int)), (4, vI ((sealTo s k).2)), (0, vS s)], []⟩ [((k : Nat) : Int) = ((k : Nat) : Int), k < s.size, 0 ≤ ((s.data.getD k 0).toNat : Int), ((s.data.getD k 0).toNat : Int) ≤ 255, inR (((sealTo s k).1) + ((s.data.getD k 0).toNat : Int)), 0 ≤ ((sealTo s k).1) + ((s.data.getD k 0).toNat : Int), (0 : Int) < 65521] [] (by kernel_rfl) (oc rfl (oc (by omega) (oc (by omega) (oc (by omega) (oc (by unfold inR; omega) (oc (by omega) (oc (by omega) on))))))) wn ?_
    refine l_nil (q_then_normal ?_)
    refine c_region ?_
    refine JL_run 5 [] [4, 3, 5, 0] 0 ⟨[(4, vI ((((sealTo s k).2) + ((((sealTo s k).1) + ((s.data.getD k 0).toNat : Int)) % 65521)) % 65521)), (3, vI ((((sealTo s k).1) + ((s.data.getD k 0).toNat : Int)) % 65521)), (5, vI ((k : Nat) : Int)), (0, vS s)], []⟩ [inR (((sealTo s k).2) + ((((sealTo s k).1) + ((s.data.getD k 0).toNat : Int)) % 65521)), 0 ≤ ((sealTo s k).2) + ((((sealTo s k).1) + ((s.data.getD k 0).toNat : Int)) % 65521), (0 : Int) < 65521] [] (by kernel_rfl) (oc (by unfold inR; omega) (oc (by omega) (oc (by omega) on))) wn ?_
    refine l_nil (q_block_normal (q_then_normal ?_))
    refine c_region ?_
    refine JL_run 3 [] [5, 4, 3, 0] 0 ⟨[(5, vI (((k : Nat) : Int) + 1)), (4, vI ((((sealTo s k).2) + ((((sealTo s k).1) + ((s.data.getD k 0).toNat : Int)) % 65521)) % 65521)), (3, vI ((((sealTo s k).1) + ((s.data.getD k 0).toNat : Int)) % 65521)), (0, vS s)], []⟩ [inR (((k : Nat) : Int) + 1)] [] (by kernel_rfl) (oc (by unfold inR; omega) on) wn ?_
    refine l_nil (q_loop (x := (k : Nat)) ((k + 1) : Nat) (by omega) (by omega) (s_start [5, 4, 3, 0] 0 (by kernel_rfl) rfl))
  | false =>
    have h1 := of_decide_eq_false h1
    refine c_if false rfl ?_
    refine c_exit ?_
    refine q_then_exit (q_then_exit (q_block_hit (q_then_normal ?_)))
    refine c_seq ?_
    refine c_region ?_
    refine JL_run 13 [] [35] 1 ⟨[(35, .s 0 0 4 4)], [⟨5, [.v (.int .u8 ((((sealTo s k).2) / 256) % 256)), .v (.int .u8 ((((sealTo s k).2) % 256) % 256)), .v (.int .u8 ((((sealTo s k).1) / 256) % 256)), .v (.int .u8 ((((sealTo s k).1) % 256) % 256))]⟩]⟩ [0 ≤ (sealTo s k).2, (sealTo s k).2 ≤ 9223372036854775807, (0 : Int) < 256, 0 ≤ (sealTo s k).2, (0 : Int) < 256, 0 ≤ (sealTo s k).1, (sealTo s k).1 ≤ 9223372036854775807, (0 : Int) < 256, 0 ≤ (sealTo s k).1, (0 : Int) < 256] [] (by kernel_rfl) (oc (by omega) (oc (by omega) (oc (by omega) (oc (by omega) (oc (by omega) (oc (by omega) (oc (by omega) (oc (by omega) (oc (by omega) (oc (by omega) on)))))))))) wn ?_
    refine l_bytes 5 (.s 0 0 4 4) [(((sealTo s k).2) / 256) % 256, (((sealTo s k).2) % 256) % 256, (((sealTo s k).1) / 256) % 256, (((sealTo s k).1) % 256) % 256] Try.underlying68 Try.underlying5 Try.underlying9 rfl rfl (fun bs w hS => src_loc (q := 4) hS rfl rfl) ?_
    refine JL_run 1 [] [2] 0 ⟨[(2, vS (bstr ([(((sealTo s k).2) / 256) % 256, (((sealTo s k).2) % 256) % 256, (((sealTo s k).1) / 256) % 256, (((sealTo s k).1) % 256) % 256])))], []⟩ [] [] (by kernel_rfl) on wn ?_
    refine l_nil (q_then_normal ?_)
    refine c_ret ?_
    refine q_ret (.inl rfl) [vS (bstr ([(((sealTo s k).2) / 256) % 256, (((sealTo s k).2) % 256) % 256, (((sealTo s k).1) / 256) % 256, (((sealTo s k).1) % 256) % 256]))] rfl (fun bs w hS => ?_)
    refine ⟨?_, hS.kp⟩
    have e : k = s.size := by omega
    subst e
    simp [retOf, den, mSeal]

theorem codec_Number (n : Int) (w : World) : Calls Try.prog 25 #[.int .i64 n] w fun e w' => e = .returned (.tuple #[.string (mNumber n).1, .int .i64 (mNumber n).2]) ∧ Kp [] w w' := by
  refine calls_J0 28 Try.func25 rfl rfl [.int .i64 n] rfl ?_
  refine c_seq ?_
  refine c_region ?_
  refine JL_run 2 [] [0] 0 ⟨[(0, vI n)], []⟩ [] [] (by kernel_rfl) on wn ?_
  refine l_nil (q_then_normal ?_)
  refine c_seq ?_
  refine c_seq ?_
  refine c_region ?_
  refine JL_run 3 [] [7, 0] 0 ⟨[(7, vB (decide (n < 0))), (0, vI n)], []⟩ [] [] (by kernel_rfl) on wn ?_
  cases h1 : decide (n < 0) with
  | true =>
    have h1 := of_decide_eq_true h1
    refine JL_run 3 [] [10, 0] 0 ⟨[(10, vB true), (0, vI n)], []⟩ [] [] (by kernel_rfl) on wn ?_
    refine l_nil (q_then_normal ?_)
    refine c_if true rfl ?_
    refine c_seq ?_
    refine c_region ?_
    refine JL_run 2 [] [3, 2] 0 ⟨[(3, vI 2), (2, vS emp)], []⟩ [] [] (by kernel_rfl) on wn ?_
    refine l_nil (q_then_normal ?_)
    refine c_ret ?_
    refine q_then_ret (q_ret (.inl rfl) [vS emp, vI 2] rfl (fun bs w hS => ?_))
    exact ⟨by simp [retOf, den, mNumber, h1], hS.kp⟩
  | false =>
    have h1 := of_decide_eq_false h1
    refine JL_run 3 [] [10, 0] 0 ⟨[(10, vB (decide ((1099511627776 : Int) < n))), (0, vI n)], []⟩ [] [] (by kernel_rfl) on wn ?_
    refine l_nil (q_then_normal ?_)
    cases h2 : decide ((1099511627776 : Int) < n) with
    | true =>
      have h2 := of_decide_eq_true h2
      refine c_if true rfl ?_
      refine c_seq ?_
      refine c_region ?_
      refine JL_run 2 [] [3, 2] 0 ⟨[(3, vI 2), (2, vS emp)], []⟩ [] [] (by kernel_rfl) on wn ?_
      refine l_nil (q_then_normal ?_)
      refine c_ret ?_
      refine q_then_ret (q_ret (.inl rfl) [vS emp, vI 2] rfl (fun bs w hS => ?_))
      exact ⟨by simp [retOf, den, mNumber, h1, h2], hS.kp⟩
    | false =>
      have h2 := of_decide_eq_false h2
      refine c_if false rfl ?_
      refine c_skip ?_
      refine q_then_normal ?_
      refine c_seq ?_
      refine c_region ?_
      refine JL_run 1 [] [4, 0] 0 ⟨[(4, .v (.slice none 0 0)), (0, vI n)], []⟩ [] [] (by kernel_rfl) on wn ?_
      refine l_nil (q_then_normal ?_)
      refine c_seq ?_
      refine c_block ?_
      refine c_row 5 1 ?_
      refine c_loop (σ := List Int × Int × Nat × Option Addr × Nat) (fun ⟨done, m, f, A, c⟩ => NumIn n done m f) (fun ⟨done, m, f, A, c⟩ => f) (fun ⟨done, m, f, A, c⟩ => [rowR 5 1 A done.length c (done.map (Value.int .u8))]) (fun ⟨done, m, f, A, c⟩ => ⟨[(4, .v (.slice A done.length c)), (0, vI m)], []⟩) ⟨[], n, 5, none, 0⟩ (NumIn.start (by omega) (by omega)) (s_start [4, 0] 0 (by kernel_rfl) rfl) ?_
      rintro ⟨done, m, f, A, c⟩ hI
      have hlo := hI.lo
      have hhi := hI.hi
      have hlen := hI.len
      refine c_seq ?_
      refine c_seq ?_
      refine c_region ?_
      refine JL_run 2 [] [12, 4, 0] 0 ⟨[(12, vB (decide ((128 : Int) ≤ m))), (4, .v (.slice A done.length c)), (0, vI m)], []⟩ [] [] (by kernel_rfl) on wn ?_
      refine l_nil (q_then_normal ?_)
      cases h3 : decide ((128 : Int) ≤ m) with
      | true =>
        have h3 := of_decide_eq_true h3
        refine c_if true rfl ?_
        refine c_skip ?_
        refine q_then_normal ?_
        refine c_block ?_
        refine c_seq ?_
        refine c_region ?_
        refine JL_run 6 [] [18, 13, 0] 1 ⟨[(18, .s 0 0 1 1), (13, .v (.slice A done.length c)), (0, vI m)], [⟨5, [.v (.int .u8 ((bits .or .i64 (bits .and .i64 m 127) 128) % 256))]⟩]⟩ [] [] (by kernel_rfl) on wn ?_
        refine l_append 5 1 1 A done.length c (done.map (Value.int .u8)) (.s 0 0 1 1) 1 [.int .u8 ((bits .or .i64 (bits .and .i64 m 127) 128) % 256)] Try.underlying68 (by kernel_rfl) (by omega) rfl rfl rfl (fun bs w hS => src_loc (q := 1) hS rfl rfl) rfl rfl (by unfold maxLen; omega) (by omega) ?_
        intro A1 c1
        refine JL_run 1 [] [4, 0] 0 ⟨[(4, .v (.slice A1 (done.length + 1) c1)), (0, vI m)], []⟩ [] [] (by kernel_rfl) on wn ?_
        refine l_nil (q_then_normal ?_)
        refine c_region ?_
        refine JL_run 3 [] [0, 4] 0 ⟨[(0, vI (m / 2 ^ (7 : Int).toNat)), (4, .v (.slice A1 (done.length + 1) c1))], []⟩ [(0 : Int) ≤ 7, 7 ≤ (64 : Int)] [] (by kernel_rfl) (oc (by omega) (oc (by omega) on)) wn ?_
        have hst := hI.step h3
        refine l_nil (q_block_normal (q_loop (x := (⟨done, m, f, A, c⟩ : List Int × Int × Nat × Option Addr × Nat)) (⟨done ++ [128 + m % 128], m / 128, f - 1, A1, c1⟩ : List Int × Int × Nat × Option Addr × Nat) hst.2 (by have := hst.1; show f - 1 < f; omega) (s_start [4, 0] 0 (by simp only [List.length_append, List.length_cons, List.length_nil]; kernel_rfl) (by rw [byte_or m hlo hhi]; simp))))
      | false =>
        have h3 := of_decide_eq_false h3
        refine c_if false rfl ?_
        refine c_exit ?_
        refine q_then_exit (q_then_exit (q_block_hit (q_then_normal ?_)))
        refine c_seq ?_
        refine c_region ?_
        refine JL_run 4 [] [25, 22] 1 ⟨[(25, .s 0 0 1 1), (22, .v (.slice A done.length c))], [⟨5, [.v (.int .u8 (m % 256))]⟩]⟩ [] [] (by kernel_rfl) on wn ?_
        refine l_append 5 1 1 A done.length c (done.map (Value.int .u8)) (.s 0 0 1 1) 1 [.int .u8 (m % 256)] Try.underlying68 (by kernel_rfl) (by omega) rfl rfl rfl (fun bs w hS => src_loc (q := 1) hS rfl rfl) rfl rfl (by unfold maxLen; omega) (by omega) ?_
        intro A2 c2
        refine l_bytes 5 (.v (.slice A2 (done.length + 1) c2)) (done ++ [m % 256]) Try.underlying68 Try.underlying5 Try.underlying9 rfl rfl (fun bs w hS => ?_) ?_
        · obtain ⟨g, hg, hc⟩ := row_cells (e := 5) (size := 1) (A := A2) (n := done.length + 1) (c := c2) (xs := done.map (Value.int .u8) ++ [.int .u8 (m % 256)]) hS (by simp) (by omega)
          subst hg
          exact ⟨⟨g, 0, none⟩, c2, by simp [den], by simpa using hc⟩
        refine JL_run 2 [] [3, 2] 0 ⟨[(3, vI 0), (2, vS (bstr (done ++ [m % 256])))], []⟩ [] [] (by kernel_rfl) on wn ?_
        refine l_nil (q_then_normal ?_)
        refine c_ret ?_
        refine q_ret (.inl rfl) [vS (bstr (done ++ [m % 256])), vI 0] rfl (fun bs w hS => ?_)
        have e1 : m % 256 = m := by omega
        have e2 := hI.done (by omega)
        refine ⟨?_, hS.kp⟩
        simp only [retOf, den, List.map_cons, List.map_nil, mNumber, e1, e2]
        rw [if_neg (by omega)]

theorem ref_NumberBytes (n : Int) (w : World) : Calls Try.prog 26 #[.int .i64 n] w fun e w' => e = .returned (.tuple #[.string (mNumber n).1, .int .i64 (mNumber n).2]) ∧ Kp [] w w' := by
  refine calls_J0 26 Try.func26 rfl rfl [.int .i64 n] rfl ?_
  refine c_seq ?_
  refine c_region ?_
  refine JL_run 2 [] [0] 0 ⟨[(0, vI n)], []⟩ [] [] (by kernel_rfl) on wn ?_
  refine l_nil (q_then_normal ?_)
  refine c_seq ?_
  refine c_seq ?_
  refine c_region ?_
  refine JL_run 1 [] [5, 0] 0 ⟨[(5, vI n), (0, vI n)], []⟩ [] [] (by kernel_rfl) on wn ?_
  refine l_pure 38 [] [vI n, vI 0, vI 1099511627776] (.bool (inB n 0 1099511627776)) Try.call38 rfl rfl rfl rfl (fun bs w hS => ref_In _ _ _ w) ?_
  refine JL_run 1 [] [7, 0] 0 ⟨[(7, vB (!(inB n 0 1099511627776))), (0, vI n)], []⟩ [] [] (by kernel_rfl) on wn ?_
  refine l_nil (q_then_normal ?_)
  cases h1 : inB n 0 1099511627776 with
  | true =>
    refine c_if false rfl ?_
    refine c_skip ?_
    refine q_then_normal ?_
    refine c_seq ?_
    refine c_region ?_
    refine JL_run 1 [] [4, 0] 0 ⟨[(4, vS emp), (0, vI n)], []⟩ [] [] (by kernel_rfl) on wn ?_
    refine l_nil (q_then_normal ?_)
    refine c_seq ?_
    refine c_block ?_
    refine c_loop (σ := List Int × Int × Nat) (fun ⟨done, m, f⟩ => NumIn n done m f) (fun ⟨done, m, f⟩ => f) (fun ⟨done, m, f⟩ => []) (fun ⟨done, m, f⟩ => ⟨[(4, vS (bstr done)), (0, vI m)], []⟩) ⟨[], n, 5⟩ (NumIn.start (by simp [inB] at h1; omega) (by simp [inB] at h1; omega)) (s_start [4, 0] 0 (by kernel_rfl) rfl) ?_
    rintro ⟨done, m, f⟩ hI
    have hlo := hI.lo
    have hhi := hI.hi
    have hlen := hI.len
    refine c_seq ?_
    refine c_seq ?_
    refine c_region ?_
    refine JL_run 2 [] [9, 4, 0] 0 ⟨[(9, vB (decide ((128 : Int) ≤ m))), (4, vS (bstr done)), (0, vI m)], []⟩ [] [] (by kernel_rfl) on wn ?_
    refine l_nil (q_then_normal ?_)
    cases h2 : decide ((128 : Int) ≤ m) with
    | true =>
      have h2 := of_decide_eq_true h2
      refine c_if true rfl ?_
      refine c_skip ?_
      refine q_then_normal ?_
      refine c_block ?_
      refine c_seq ?_
      refine c_region ?_
      refine JL_run 6 [] [15, 10, 0] 1 ⟨[(15, .s 0 0 1 1), (10, vS (bstr done)), (0, vI m)], [⟨5, [.v (.int .u8 (((128 : Int) + (m % 128)) % 256))]⟩]⟩ [0 ≤ m, (0 : Int) < 128, inR ((128 : Int) + (m % 128))] [] (by kernel_rfl) (oc (by omega) (oc (by omega) (oc (by unfold inR; omega) on))) wn ?_
      refine l_bytes 5 (.s 0 0 1 1) [((128 : Int) + (m % 128)) % 256] Try.underlying68 Try.underlying5 Try.underlying9 rfl rfl (fun bs w hS => src_loc (q := 1) hS rfl rfl) ?_
      refine JL_run 2 [] [4, 0] 0 ⟨[(4, vS ((bstr done) ++ (bstr ([((128 : Int) + (m % 128)) % 256])))), (0, vI m)], []⟩ [(bstr done).size + (bstr ([((128 : Int) + (m % 128)) % 256])).size ≤ 9223372036854775807] [] (by kernel_rfl) (oc (by simp only [bstr_size, List.length_cons, List.length_nil]; omega) on) wn ?_
      refine l_nil (q_then_normal ?_)
      refine c_region ?_
      refine JL_run 3 [] [0, 4] 0 ⟨[(0, vI (m / 128)), (4, vS ((bstr done) ++ (bstr ([((128 : Int) + (m % 128)) % 256]))))], []⟩ [0 ≤ m, m ≤ 9223372036854775807, (0 : Int) < 128] [] (by kernel_rfl) (oc (by omega) (oc (by omega) (oc (by omega) on))) wn ?_
      have hst := hI.step h2
      refine l_nil (q_block_normal (q_loop (x := (⟨done, m, f⟩ : List Int × Int × Nat)) (⟨done ++ [128 + m % 128], m / 128, f - 1⟩ : List Int × Int × Nat) hst.2 (by have := hst.1; show f - 1 < f; omega) (s_start [4, 0] 0 (by rw [bstr_append, show (128 + m % 128) % 256 = 128 + m % 128 by omega]; kernel_rfl) rfl)))
    | false =>
      have h2 := of_decide_eq_false h2
      refine c_if false rfl ?_
      refine c_exit ?_
      refine q_then_exit (q_then_exit (q_block_hit (q_then_normal ?_)))
      refine c_seq ?_
      refine c_region ?_
      refine JL_run 4 [] [23, 20] 1 ⟨[(23, .s 0 0 1 1), (20, vS (bstr done))], [⟨5, [.v (.int .u8 (m % 256))]⟩]⟩ [] [] (by kernel_rfl) on wn ?_
      refine l_bytes 5 (.s 0 0 1 1) [m % 256] Try.underlying68 Try.underlying5 Try.underlying9 rfl rfl (fun bs w hS => src_loc (q := 1) hS rfl rfl) ?_
      refine JL_run 3 [] [3, 2] 0 ⟨[(3, vI 0), (2, vS ((bstr done) ++ (bstr ([m % 256]))))], []⟩ [(bstr done).size + (bstr ([m % 256])).size ≤ 9223372036854775807] [] (by kernel_rfl) (oc (by simp only [bstr_size, List.length_cons, List.length_nil]; omega) on) wn ?_
      refine l_nil (q_then_normal ?_)
      refine c_ret ?_
      refine q_ret (.inl rfl) [vS ((bstr done) ++ (bstr ([m % 256]))), vI 0] rfl (fun bs w hS => ?_)
      have e1 : m % 256 = m := by omega
      have e2 := hI.done (by omega)
      simp [inB] at h1
      refine ⟨?_, hS.kp⟩
      simp only [retOf, den, List.map_cons, List.map_nil, mNumber, e1, bstr_append, e2]
      rw [if_neg (by omega)]
  | false =>
    refine c_if true rfl ?_
    refine c_seq ?_
    refine c_region ?_
    refine JL_run 2 [] [3, 2] 0 ⟨[(3, vI 2), (2, vS emp)], []⟩ [] [] (by kernel_rfl) on wn ?_
    refine l_nil (q_then_normal ?_)
    refine c_ret ?_
    refine q_then_ret (q_ret (.inl rfl) [vS emp, vI 2] rfl (fun bs w hS => ?_))
    simp [inB] at h1
    exact ⟨by simp only [retOf, den, List.map_cons, List.map_nil, mNumber]; rw [if_pos (by omega)], hS.kp⟩

theorem codec_Text (s : ByteArray) (w : World) (hs : s.size ≤ 9223372036854775807) : Calls Try.prog 36 #[.string s] w fun e w' => e = .returned (.tuple #[.string (mText s).1, .int .i64 (mText s).2]) ∧ Kp [] w w' := by
  refine calls_J0 18 Try.func36 rfl rfl [.string s] rfl ?_
  refine c_seq ?_
  refine c_region ?_
  refine JL_run 2 [] [0] 0 ⟨[(0, vS s)], []⟩ [] [] (by kernel_rfl) on wn ?_
  refine l_nil (q_then_normal ?_)
  refine c_seq ?_
  refine c_seq ?_
  refine c_region ?_
  refine JL_run 3 [] [8, 0] 0 ⟨[(8, vB (decide ((5000 : Int) < (s.size : Int)))), (0, vS s)], []⟩ [] [] (by kernel_rfl) on wn ?_
  refine l_nil (q_then_normal ?_)
  cases h1 : decide ((5000 : Int) < (s.size : Int)) with
  | true =>
    have h1 := of_decide_eq_true h1
    refine c_if true rfl ?_
    refine c_seq ?_
    refine c_region ?_
    refine JL_run 2 [] [3, 2] 0 ⟨[(3, vI 1), (2, vS emp)], []⟩ [] [] (by kernel_rfl) on wn ?_
    refine l_nil (q_then_normal ?_)
    refine c_ret ?_
    refine q_then_ret (q_ret (.inl rfl) [vS emp, vI 1] rfl (fun bs w hS => ?_))
    refine ⟨?_, hS.kp⟩
    simp only [retOf, den, List.map_cons, List.map_nil, mText]
    first | rw [if_pos (by omega)] | rw [if_neg (by omega)]
  | false =>
    have h1 := of_decide_eq_false h1
    refine c_if false rfl ?_
    refine c_skip ?_
    refine q_then_normal ?_
    refine c_seq ?_
    refine c_region ?_
    refine JL_run 2 [] [11, 0] 0 ⟨[(11, vI (s.size : Int)), (0, vS s)], []⟩ [] [] (by kernel_rfl) on wn ?_
    refine l_pure 25 [] [vI (s.size : Int)] (.tuple #[.string ((mNumber (s.size : Int)).1), .int .i64 ((mNumber (s.size : Int)).2)]) Try.call25 rfl rfl rfl rfl (fun bs w hS => codec_Number _ w) ?_
    refine JL_run 5 [] [4, 0] 0 ⟨[(4, vS ((mNumber (s.size : Int)).1)), (0, vS s)], []⟩ [] [] (by kernel_rfl) on wn ?_
    refine l_nil (q_then_normal ?_)
    refine c_seq ?_
    refine c_region ?_
    refine JL_run 5 [] [3, 2] 0 ⟨[(3, vI 0), (2, vS (((mNumber (s.size : Int)).1) ++ s))], []⟩ [((mNumber (s.size : Int)).1).size + s.size ≤ 9223372036854775807] [] (by kernel_rfl) (oc (by have := mNumber_size (s.size : Int); omega) on) wn ?_
    refine l_nil (q_then_normal ?_)
    refine c_ret ?_
    refine q_ret (.inl rfl) [vS (((mNumber (s.size : Int)).1) ++ s), vI 0] rfl (fun bs w hS => ?_)
    refine ⟨?_, hS.kp⟩
    simp only [retOf, den, List.map_cons, List.map_nil, mText]
    first | rw [if_pos (by omega)] | rw [if_neg (by omega)]

theorem ref_TextBytes (s : ByteArray) (w : World) (hs : s.size ≤ 9223372036854775807) : Calls Try.prog 37 #[.string s] w fun e w' => e = .returned (.tuple #[.string (mText s).1, .int .i64 (mText s).2]) ∧ Kp [] w w' := by
  refine calls_J0 18 Try.func37 rfl rfl [.string s] rfl ?_
  refine c_seq ?_
  refine c_region ?_
  refine JL_run 2 [] [0] 0 ⟨[(0, vS s)], []⟩ [] [] (by kernel_rfl) on wn ?_
  refine l_nil (q_then_normal ?_)
  refine c_seq ?_
  refine c_seq ?_
  refine c_region ?_
  refine JL_run 3 [] [8, 0] 0 ⟨[(8, vB (decide ((5000 : Int) < (s.size : Int)))), (0, vS s)], []⟩ [] [] (by kernel_rfl) on wn ?_
  refine l_nil (q_then_normal ?_)
  cases h1 : decide ((5000 : Int) < (s.size : Int)) with
  | true =>
    have h1 := of_decide_eq_true h1
    refine c_if true rfl ?_
    refine c_seq ?_
    refine c_region ?_
    refine JL_run 2 [] [3, 2] 0 ⟨[(3, vI 1), (2, vS emp)], []⟩ [] [] (by kernel_rfl) on wn ?_
    refine l_nil (q_then_normal ?_)
    refine c_ret ?_
    refine q_then_ret (q_ret (.inl rfl) [vS emp, vI 1] rfl (fun bs w hS => ?_))
    refine ⟨?_, hS.kp⟩
    simp only [retOf, den, List.map_cons, List.map_nil, mText]
    first | rw [if_pos (by omega)] | rw [if_neg (by omega)]
  | false =>
    have h1 := of_decide_eq_false h1
    refine c_if false rfl ?_
    refine c_skip ?_
    refine q_then_normal ?_
    refine c_seq ?_
    refine c_region ?_
    refine JL_run 2 [] [11, 0] 0 ⟨[(11, vI (s.size : Int)), (0, vS s)], []⟩ [] [] (by kernel_rfl) on wn ?_
    refine l_pure 26 [] [vI (s.size : Int)] (.tuple #[.string ((mNumber (s.size : Int)).1), .int .i64 ((mNumber (s.size : Int)).2)]) Try.call26 rfl rfl rfl rfl (fun bs w hS => ref_NumberBytes _ w) ?_
    refine JL_run 5 [] [4, 0] 0 ⟨[(4, vS ((mNumber (s.size : Int)).1)), (0, vS s)], []⟩ [] [] (by kernel_rfl) on wn ?_
    refine l_nil (q_then_normal ?_)
    refine c_seq ?_
    refine c_region ?_
    refine JL_run 5 [] [3, 2] 0 ⟨[(3, vI 0), (2, vS (((mNumber (s.size : Int)).1) ++ s))], []⟩ [((mNumber (s.size : Int)).1).size + s.size ≤ 9223372036854775807] [] (by kernel_rfl) (oc (by have := mNumber_size (s.size : Int); omega) on) wn ?_
    refine l_nil (q_then_normal ?_)
    refine c_ret ?_
    refine q_ret (.inl rfl) [vS (((mNumber (s.size : Int)).1) ++ s), vI 0] rfl (fun bs w hS => ?_)
    refine ⟨?_, hS.kp⟩
    simp only [retOf, den, List.map_cons, List.map_nil, mText]
    first | rw [if_pos (by omega)] | rw [if_neg (by omega)]

theorem codec_ReadNumber (s : ByteArray) (w : World) (hs : s.size ≤ 9223372036854775807) : Calls Try.prog 30 #[.string s] w fun e w' => e = .returned (.tuple #[.int .i64 (mRead s).1, .string (mRead s).2.1, .int .i64 (mRead s).2.2]) ∧ Kp [] w w' := by
  refine calls_J0 46 Try.func30 rfl rfl [.string s] rfl ?_
  refine c_seq ?_
  refine c_region ?_
  refine JL_run 3 [] [0] 0 ⟨[(0, vS s)], []⟩ [] [] (by kernel_rfl) on wn ?_
  refine l_nil (q_then_normal ?_)
  refine c_seq ?_
  refine c_region ?_
  refine JL_run 1 [] [5, 0] 0 ⟨[(5, vI 0), (0, vS s)], []⟩ [] [] (by kernel_rfl) on wn ?_
  refine l_nil (q_then_normal ?_)
  refine c_seq ?_
  refine c_seq ?_
  refine c_region ?_
  refine JL_run 1 [] [6, 5, 0] 0 ⟨[(6, vI 0), (5, vI 0), (0, vS s)], []⟩ [] [] (by kernel_rfl) on wn ?_
  refine l_nil (q_then_normal ?_)
  refine c_block ?_
  refine c_loop (σ := Nat × Int) (fun ⟨i, n⟩ => RdIn s i n) (fun ⟨i, n⟩ => 6 - i) (fun ⟨i, n⟩ => []) (fun ⟨i, n⟩ => ⟨[(6, vI ((i : Nat) : Int)), (5, vI n), (0, vS s)], []⟩) ⟨0, 0⟩ (RdIn.start s) (s_start [6, 5, 0] 0 (by kernel_rfl) rfl) ?_
  rintro ⟨i, n⟩ hI
  have hle := hI.le
  have hsz := hI.sz
  have hlo := hI.lo
  have hhi := hI.hi
  have hu := (s.data.getD i 0).toNat_lt
  have hbt := and127_bd (s.data.getD i 0)
  refine c_seq ?_
  refine c_seq ?_
  refine c_region ?_
  refine JL_run 2 [] [8, 6, 5, 0] 0 ⟨[(8, vB (decide (((i : Nat) : Int) < 6))), (6, vI ((i : Nat) : Int)), (5, vI n), (0, vS s)], []⟩ [] [] (by kernel_rfl) on wn ?_
  refine l_nil (q_then_normal ?_)
  cases h1 : decide (((i : Nat) : Int) < 6) with
  | true =>
    have h1 := of_decide_eq_true h1
    refine c_if true rfl ?_
    refine c_skip ?_
    refine q_then_normal ?_
    refine c_seq ?_
    refine c_block ?_
    refine c_seq ?_
    refine c_seq ?_
    refine c_region ?_
    refine JL_run 4 [] [14, 6, 5, 0] 0 ⟨[(14, vB (decide (((i : Nat) : Int) = (s.size : Int)))), (6, vI ((i : Nat) : Int)), (5, vI n), (0, vS s)], []⟩ [] [] (by kernel_rfl) on wn ?_
    refine l_nil (q_then_normal ?_)
    cases h2 : decide (((i : Nat) : Int) = (s.size : Int)) with
    | true =>
      have h2 := of_decide_eq_true h2
      refine c_if true rfl ?_
      refine c_seq ?_
      refine c_region ?_
      refine JL_run 3 [] [4, 3, 2] 0 ⟨[(4, vI 5), (3, vS emp), (2, vI 0)], []⟩ [] [] (by kernel_rfl) on wn ?_
      refine l_nil (q_then_normal ?_)
      refine c_ret ?_
      refine q_then_ret (q_block_ret (q_then_ret (q_then_ret (q_block_ret (q_then_ret (q_ret (.inl rfl) [vI 0, vS emp, vI 5] rfl (fun bs w hS => ?_)))))))
      refine ⟨?_, hS.kp⟩
      rw [hI.short (by omega) (by omega)]
      simp only [retOf, den, List.map_cons, List.map_nil]
    | false =>
      have h2 := of_decide_eq_false h2
      refine c_if false rfl ?_
      refine c_skip ?_
      refine q_then_normal ?_
      refine c_seq ?_
      refine c_region ?_
      refine JL_run 11 [(3, .sidx i)] [5, 6, 0] 0 ⟨[(5, vI (bits .or .i64 n (IntKind.i64.wrap ((bits .and .u8 ((s.data.getD i 0).toNat : Int) 127) * 2 ^ ((7 : Int) * ((i : Nat) : Int) : Int).toNat)))), (6, vI ((i : Nat) : Int)), (0, vS s)], []⟩ [((i : Nat) : Int) = ((i : Nat) : Int), i < s.size, 0 ≤ (bits .and .u8 ((s.data.getD i 0).toNat : Int) 127), (bits .and .u8 ((s.data.getD i 0).toNat : Int) 127) ≤ 255, inR ((7 : Int) * ((i : Nat) : Int)), (0 : Int) ≤ (7 : Int) * ((i : Nat) : Int), (7 : Int) * ((i : Nat) : Int) ≤ (64 : Int)] [] (by kernel_rfl) (oc rfl (oc (by omega) (oc (by omega) (oc (by omega) (oc (by unfold inR; omega) (oc (by omega) (oc (by omega) on))))))) wn ?_
      refine l_nil (q_then_normal ?_)
      refine c_seq ?_
      refine c_seq ?_
      refine c_region ?_
      refine JL_run 4 [(2, .sidx i)] [28, 5, 6, 0] 0 ⟨[(28, vB (decide ((128 : Int) ≤ ((s.data.getD i 0).toNat : Int)))), (5, vI (bits .or .i64 n (IntKind.i64.wrap ((bits .and .u8 ((s.data.getD i 0).toNat : Int) 127) * 2 ^ ((7 : Int) * ((i : Nat) : Int) : Int).toNat)))), (6, vI ((i : Nat) : Int)), (0, vS s)], []⟩ [((i : Nat) : Int) = ((i : Nat) : Int), i < s.size] [] (by kernel_rfl) (oc rfl (oc (by omega) on)) wn ?_
      refine l_nil (q_then_normal ?_)
      cases h3 : decide ((128 : Int) ≤ ((s.data.getD i 0).toNat : Int)) with
      | true =>
        have h3 := of_decide_eq_true h3
        refine c_if true rfl ?_
        refine c_exit ?_
        refine q_then_exit (q_block_hit (q_then_normal ?_))
        refine c_region ?_
        refine JL_run 3 [] [6, 5, 0] 0 ⟨[(6, vI (((i : Nat) : Int) + 1)), (5, vI (bits .or .i64 n (IntKind.i64.wrap ((bits .and .u8 ((s.data.getD i 0).toNat : Int) 127) * 2 ^ ((7 : Int) * ((i : Nat) : Int) : Int).toNat)))), (0, vS s)], []⟩ [inR (((i : Nat) : Int) + 1)] [] (by kernel_rfl) (oc (by unfold inR; omega) on) wn ?_
        refine l_nil (q_loop (x := (⟨i, n⟩ : Nat × Int)) (⟨i + 1, bits .or .i64 n (IntKind.i64.wrap ((bits .and .u8 ((s.data.getD i 0).toNat : Int) 127) * 2 ^ ((7 : Int) * ((i : Nat) : Int) : Int).toNat))⟩ : Nat × Int) (by show RdIn s (i + 1) _; rw [or_shift s i n hI.lo hI.hi (by omega)]; exact hI.step (by omega) (by omega) (by omega)) (by show 6 - (i + 1) < 6 - i; omega) (s_start [6, 5, 0] 0 (by kernel_rfl) rfl))
      | false =>
        have h3 := of_decide_eq_false h3
        refine c_if false rfl ?_
        refine c_skip ?_
        refine q_then_normal ?_
        refine c_seq ?_
        refine c_seq ?_
        refine c_region ?_
        refine JL_run 5 [(2, .sidx i)] [33, 5, 6, 0] 0 ⟨[(33, vB (decide (((s.data.getD i 0).toNat : Int) = 0))), (5, vI (bits .or .i64 n (IntKind.i64.wrap ((bits .and .u8 ((s.data.getD i 0).toNat : Int) 127) * 2 ^ ((7 : Int) * ((i : Nat) : Int) : Int).toNat)))), (6, vI ((i : Nat) : Int)), (0, vS s)], []⟩ [((i : Nat) : Int) = ((i : Nat) : Int), i < s.size] [] (by kernel_rfl) (oc rfl (oc (by omega) on)) wn ?_
        cases h4 : decide (((s.data.getD i 0).toNat : Int) = 0) with
        | true =>
          have h4 := of_decide_eq_true h4
          refine JL_run 4 [] [37, 5, 6, 0] 0 ⟨[(37, vB (decide ((0 : Int) < ((i : Nat) : Int)))), (5, vI (bits .or .i64 n (IntKind.i64.wrap ((bits .and .u8 ((s.data.getD i 0).toNat : Int) 127) * 2 ^ ((7 : Int) * ((i : Nat) : Int) : Int).toNat)))), (6, vI ((i : Nat) : Int)), (0, vS s)], []⟩ [] [] (by kernel_rfl) on wn ?_
          cases h5 : decide ((0 : Int) < ((i : Nat) : Int)) with
          | true =>
            have h5 := of_decide_eq_true h5
            refine JL_run 3 [] [40, 5, 6, 0] 0 ⟨[(40, vB true), (5, vI (bits .or .i64 n (IntKind.i64.wrap ((bits .and .u8 ((s.data.getD i 0).toNat : Int) 127) * 2 ^ ((7 : Int) * ((i : Nat) : Int) : Int).toNat)))), (6, vI ((i : Nat) : Int)), (0, vS s)], []⟩ [] [] (by kernel_rfl) on wn ?_
            refine l_nil (q_then_normal ?_)
            refine c_if true rfl ?_
            refine c_seq ?_
            refine c_region ?_
            refine JL_run 3 [] [4, 3, 2] 0 ⟨[(4, vI 4), (3, vS emp), (2, vI 0)], []⟩ [] [] (by kernel_rfl) on wn ?_
            refine l_nil (q_then_normal ?_)
            refine c_ret ?_
            refine q_then_ret (q_block_ret (q_then_ret (q_then_ret (q_block_ret (q_then_ret (q_ret (.inl rfl) [vI 0, vS emp, vI 4] rfl (fun bs w hS => ?_)))))))
            refine ⟨?_, hS.kp⟩
            have hor := or_shift s i n hI.lo hI.hi (by omega)
            try rw [hor] at h5
            try rw [hor]
            rw [hI.last (by omega) (by omega) (by omega), if_pos (by omega)]
            simp only [retOf, den, List.map_cons, List.map_nil]
          | false =>
            have h5 := of_decide_eq_false h5
            refine JL_run 3 [] [40, 5, 6, 0] 0 ⟨[(40, vB (decide ((1099511627776 : Int) < bits .or .i64 n (IntKind.i64.wrap ((bits .and .u8 ((s.data.getD i 0).toNat : Int) 127) * 2 ^ ((7 : Int) * ((i : Nat) : Int) : Int).toNat))))), (5, vI (bits .or .i64 n (IntKind.i64.wrap ((bits .and .u8 ((s.data.getD i 0).toNat : Int) 127) * 2 ^ ((7 : Int) * ((i : Nat) : Int) : Int).toNat)))), (6, vI ((i : Nat) : Int)), (0, vS s)], []⟩ [] [] (by kernel_rfl) on wn ?_
            refine l_nil (q_then_normal ?_)
            cases h6 : decide ((1099511627776 : Int) < bits .or .i64 n (IntKind.i64.wrap ((bits .and .u8 ((s.data.getD i 0).toNat : Int) 127) * 2 ^ ((7 : Int) * ((i : Nat) : Int) : Int).toNat))) with
            | true =>
              have h6 := of_decide_eq_true h6
              refine c_if true rfl ?_
              refine c_seq ?_
              refine c_region ?_
              refine JL_run 3 [] [4, 3, 2] 0 ⟨[(4, vI 4), (3, vS emp), (2, vI 0)], []⟩ [] [] (by kernel_rfl) on wn ?_
              refine l_nil (q_then_normal ?_)
              refine c_ret ?_
              refine q_then_ret (q_block_ret (q_then_ret (q_then_ret (q_block_ret (q_then_ret (q_ret (.inl rfl) [vI 0, vS emp, vI 4] rfl (fun bs w hS => ?_)))))))
              refine ⟨?_, hS.kp⟩
              have hor := or_shift s i n hI.lo hI.hi (by omega)
              try rw [hor] at h6
              try rw [hor]
              rw [hI.last (by omega) (by omega) (by omega), if_pos (by omega)]
              simp only [retOf, den, List.map_cons, List.map_nil]
            | false =>
              have h6 := of_decide_eq_false h6
              refine c_if false rfl ?_
              refine c_skip ?_
              refine q_then_normal ?_
              refine c_seq ?_
              refine c_draw 8 [(0, false), (1, false), (2, false), (3, false), (4, false), (5, false), (6, false), (7, false)] [] [] Try_mixed (by kernel_rfl) (pq_then (pq_block (pq_then (pq_then (pq_block (pq_then pq_body)))))) (List.Sublist.refl _) ?_
              refine h_quiet [(4, .sl (i + 1) s.size)] 8 [(4, vI 0), (3, vS (s.extract (i + 1) s.size)), (2, vI (bits .or .i64 n (IntKind.i64.wrap ((bits .and .u8 ((s.data.getD i 0).toNat : Int) 127) * 2 ^ ((7 : Int) * ((i : Nat) : Int) : Int).toNat)))), (45, vS (s.extract (i + 1) s.size)), (44, vI (((i : Nat) : Int) + 1)), (43, vI ((i : Nat) : Int)), (42, vS s), (41, vI (bits .or .i64 n (IntKind.i64.wrap ((bits .and .u8 ((s.data.getD i 0).toNat : Int) 127) * 2 ^ ((7 : Int) * ((i : Nat) : Int) : Int).toNat)))), (40, vB false), (5, vI (bits .or .i64 n (IntKind.i64.wrap ((bits .and .u8 ((s.data.getD i 0).toNat : Int) 127) * 2 ^ ((7 : Int) * ((i : Nat) : Int) : Int).toNat)))), (6, vI ((i : Nat) : Int)), (0, vS s)] [inR (((i : Nat) : Int) + 1), ((i : Nat) : Int) + 1 = (((i + 1) : Nat) : Int), s.size = s.size, (i + 1) ≤ s.size] [] rfl rfl (by kernel_rfl) (oc (by unfold inR; omega) (oc (by omega) (oc rfl (oc (by omega) on)))) wn ?_
              refine h_nil ?_
              refine l_nil (q_then_normal ?_)
              refine c_ret ?_
              refine q_block_ret (q_then_ret (q_then_ret (q_block_ret (q_then_ret (q_ret (.inl rfl) [vI (bits .or .i64 n (IntKind.i64.wrap ((bits .and .u8 ((s.data.getD i 0).toNat : Int) 127) * 2 ^ ((7 : Int) * ((i : Nat) : Int) : Int).toNat))), vS (s.extract (i + 1) s.size), vI 0] rfl (fun bs w hS => ?_))))))
              refine ⟨?_, hS.kp⟩
              have hor := or_shift s i n hI.lo hI.hi (by omega)
              try rw [hor] at h6
              try rw [hor]
              rw [hI.last (by omega) (by omega) (by omega), if_neg (by omega)]
              simp only [retOf, den, List.map_cons, List.map_nil]
        | false =>
          have h4 := of_decide_eq_false h4
          refine JL_run 7 [] [40, 5, 6, 0] 0 ⟨[(40, vB (decide ((1099511627776 : Int) < bits .or .i64 n (IntKind.i64.wrap ((bits .and .u8 ((s.data.getD i 0).toNat : Int) 127) * 2 ^ ((7 : Int) * ((i : Nat) : Int) : Int).toNat))))), (5, vI (bits .or .i64 n (IntKind.i64.wrap ((bits .and .u8 ((s.data.getD i 0).toNat : Int) 127) * 2 ^ ((7 : Int) * ((i : Nat) : Int) : Int).toNat)))), (6, vI ((i : Nat) : Int)), (0, vS s)], []⟩ [] [] (by kernel_rfl) on wn ?_
          refine l_nil (q_then_normal ?_)
          cases h7 : decide ((1099511627776 : Int) < bits .or .i64 n (IntKind.i64.wrap ((bits .and .u8 ((s.data.getD i 0).toNat : Int) 127) * 2 ^ ((7 : Int) * ((i : Nat) : Int) : Int).toNat))) with
          | true =>
            have h7 := of_decide_eq_true h7
            refine c_if true rfl ?_
            refine c_seq ?_
            refine c_region ?_
            refine JL_run 3 [] [4, 3, 2] 0 ⟨[(4, vI 4), (3, vS emp), (2, vI 0)], []⟩ [] [] (by kernel_rfl) on wn ?_
            refine l_nil (q_then_normal ?_)
            refine c_ret ?_
            refine q_then_ret (q_block_ret (q_then_ret (q_then_ret (q_block_ret (q_then_ret (q_ret (.inl rfl) [vI 0, vS emp, vI 4] rfl (fun bs w hS => ?_)))))))
            refine ⟨?_, hS.kp⟩
            have hor := or_shift s i n hI.lo hI.hi (by omega)
            try rw [hor] at h7
            try rw [hor]
            rw [hI.last (by omega) (by omega) (by omega), if_pos (by omega)]
            simp only [retOf, den, List.map_cons, List.map_nil]
          | false =>
            have h7 := of_decide_eq_false h7
            refine c_if false rfl ?_
            refine c_skip ?_
            refine q_then_normal ?_
            refine c_seq ?_
            refine c_draw 8 [(0, false), (1, false), (2, false), (3, false), (4, false), (5, false), (6, false), (7, false)] [] [] Try_mixed (by kernel_rfl) (pq_then (pq_block (pq_then (pq_then (pq_block (pq_then pq_body)))))) (List.Sublist.refl _) ?_
            refine h_quiet [(4, .sl (i + 1) s.size)] 8 [(4, vI 0), (3, vS (s.extract (i + 1) s.size)), (2, vI (bits .or .i64 n (IntKind.i64.wrap ((bits .and .u8 ((s.data.getD i 0).toNat : Int) 127) * 2 ^ ((7 : Int) * ((i : Nat) : Int) : Int).toNat)))), (45, vS (s.extract (i + 1) s.size)), (44, vI (((i : Nat) : Int) + 1)), (43, vI ((i : Nat) : Int)), (42, vS s), (41, vI (bits .or .i64 n (IntKind.i64.wrap ((bits .and .u8 ((s.data.getD i 0).toNat : Int) 127) * 2 ^ ((7 : Int) * ((i : Nat) : Int) : Int).toNat)))), (40, vB false), (5, vI (bits .or .i64 n (IntKind.i64.wrap ((bits .and .u8 ((s.data.getD i 0).toNat : Int) 127) * 2 ^ ((7 : Int) * ((i : Nat) : Int) : Int).toNat)))), (6, vI ((i : Nat) : Int)), (0, vS s)] [inR (((i : Nat) : Int) + 1), ((i : Nat) : Int) + 1 = (((i + 1) : Nat) : Int), s.size = s.size, (i + 1) ≤ s.size] [] rfl rfl (by kernel_rfl) (oc (by unfold inR; omega) (oc (by omega) (oc rfl (oc (by omega) on)))) wn ?_
            refine h_nil ?_
            refine l_nil (q_then_normal ?_)
            refine c_ret ?_
            refine q_block_ret (q_then_ret (q_then_ret (q_block_ret (q_then_ret (q_ret (.inl rfl) [vI (bits .or .i64 n (IntKind.i64.wrap ((bits .and .u8 ((s.data.getD i 0).toNat : Int) 127) * 2 ^ ((7 : Int) * ((i : Nat) : Int) : Int).toNat))), vS (s.extract (i + 1) s.size), vI 0] rfl (fun bs w hS => ?_))))))
            refine ⟨?_, hS.kp⟩
            have hor := or_shift s i n hI.lo hI.hi (by omega)
            try rw [hor] at h7
            try rw [hor]
            rw [hI.last (by omega) (by omega) (by omega), if_neg (by omega)]
            simp only [retOf, den, List.map_cons, List.map_nil]
  | false =>
    have h1 := of_decide_eq_false h1
    refine c_if false rfl ?_
    refine c_exit ?_
    refine q_then_exit (q_then_exit (q_block_hit (q_then_normal ?_)))
    refine c_seq ?_
    refine c_region ?_
    refine JL_run 3 [] [4, 3, 2] 0 ⟨[(4, vI 4), (3, vS emp), (2, vI 0)], []⟩ [] [] (by kernel_rfl) on wn ?_
    refine l_nil (q_then_normal ?_)
    refine c_ret ?_
    refine q_ret (.inl rfl) [vI 0, vS emp, vI 4] rfl (fun bs w hS => ?_)
    refine ⟨?_, hS.kp⟩
    rw [hI.out (by omega)]
    simp only [retOf, den, List.map_cons, List.map_nil]

theorem ref_NumberOf (s : ByteArray) (w : World) (hs : s.size ≤ 9223372036854775807) : Calls Try.prog 31 #[.string s] w fun e w' => e = .returned (.tuple #[.int .i64 (mRead s).1, .string (mRead s).2.1, .int .i64 (mRead s).2.2]) ∧ Kp [] w w' := by
  refine calls_J0 48 Try.func31 rfl rfl [.string s] rfl ?_
  refine c_seq ?_
  refine c_region ?_
  refine JL_run 3 [] [0] 0 ⟨[(0, vS s)], []⟩ [] [] (by kernel_rfl) on wn ?_
  refine l_nil (q_then_normal ?_)
  refine c_seq ?_
  refine c_region ?_
  refine JL_run 1 [] [5, 0] 0 ⟨[(5, vI 0), (0, vS s)], []⟩ [] [] (by kernel_rfl) on wn ?_
  refine l_nil (q_then_normal ?_)
  refine c_seq ?_
  refine c_region ?_
  refine JL_run 1 [] [6, 5, 0] 0 ⟨[(6, vI 1), (5, vI 0), (0, vS s)], []⟩ [] [] (by kernel_rfl) on wn ?_
  refine l_nil (q_then_normal ?_)
  refine c_seq ?_
  refine c_seq ?_
  refine c_region ?_
  refine JL_run 1 [] [7, 6, 5, 0] 0 ⟨[(7, vI 0), (6, vI 1), (5, vI 0), (0, vS s)], []⟩ [] [] (by kernel_rfl) on wn ?_
  refine l_nil (q_then_normal ?_)
  refine c_block ?_
  refine c_loop (σ := Nat × Int) (fun ⟨i, n⟩ => RdIn s i n) (fun ⟨i, n⟩ => 6 - i) (fun ⟨i, n⟩ => []) (fun ⟨i, n⟩ => ⟨[(7, vI ((i : Nat) : Int)), (6, vI ((128 : Int) ^ i)), (5, vI n), (0, vS s)], []⟩) ⟨0, 0⟩ (RdIn.start s) (s_start [7, 6, 5, 0] 0 (by kernel_rfl) rfl) ?_
  rintro ⟨i, n⟩ hI
  have hle := hI.le
  have hsz := hI.sz
  have hlo := hI.lo
  have hhi := hI.hi
  have hu := (s.data.getD i 0).toNat_lt
  have hbt := unit_bd (s.data.getD i 0) i hle
  refine c_seq ?_
  refine c_seq ?_
  refine c_region ?_
  refine JL_run 2 [] [9, 7, 6, 5, 0] 0 ⟨[(9, vB (decide (((i : Nat) : Int) < 6))), (7, vI ((i : Nat) : Int)), (6, vI ((128 : Int) ^ i)), (5, vI n), (0, vS s)], []⟩ [] [] (by kernel_rfl) on wn ?_
  refine l_nil (q_then_normal ?_)
  cases h1 : decide (((i : Nat) : Int) < 6) with
  | true =>
    have h1 := of_decide_eq_true h1
    refine c_if true rfl ?_
    refine c_skip ?_
    refine q_then_normal ?_
    refine c_seq ?_
    refine c_block ?_
    refine c_seq ?_
    refine c_seq ?_
    refine c_region ?_
    refine JL_run 4 [] [15, 7, 6, 5, 0] 0 ⟨[(15, vB (decide ((s.size : Int) ≤ ((i : Nat) : Int)))), (7, vI ((i : Nat) : Int)), (6, vI ((128 : Int) ^ i)), (5, vI n), (0, vS s)], []⟩ [] [] (by kernel_rfl) on wn ?_
    refine l_nil (q_then_normal ?_)
    cases h2 : decide ((s.size : Int) ≤ ((i : Nat) : Int)) with
    | true =>
      have h2 := of_decide_eq_true h2
      refine c_if true rfl ?_
      refine c_seq ?_
      refine c_region ?_
      refine JL_run 3 [] [4, 3, 2] 0 ⟨[(4, vI 5), (3, vS emp), (2, vI 0)], []⟩ [] [] (by kernel_rfl) on wn ?_
      refine l_nil (q_then_normal ?_)
      refine c_ret ?_
      refine q_then_ret (q_block_ret (q_then_ret (q_then_ret (q_block_ret (q_then_ret (q_ret (.inl rfl) [vI 0, vS emp, vI 5] rfl (fun bs w hS => ?_)))))))
      refine ⟨?_, hS.kp⟩
      rw [hI.short (by omega) (by omega)]
      simp only [retOf, den, List.map_cons, List.map_nil]
    | false =>
      have h2 := of_decide_eq_false h2
      refine c_if false rfl ?_
      refine c_skip ?_
      refine q_then_normal ?_
      refine c_seq ?_
      refine c_region ?_
      refine JL_run 10 [(4, .sidx i)] [5, 7, 6, 0] 0 ⟨[(5, vI (n + (((128 : Int) ^ i) * (((s.data.getD i 0).toNat : Int) % 128)))), (7, vI ((i : Nat) : Int)), (6, vI ((128 : Int) ^ i)), (0, vS s)], []⟩ [((i : Nat) : Int) = ((i : Nat) : Int), i < s.size, 0 ≤ ((s.data.getD i 0).toNat : Int), ((s.data.getD i 0).toNat : Int) ≤ 255, 0 ≤ ((s.data.getD i 0).toNat : Int), (0 : Int) < 128, inR (((128 : Int) ^ i) * (((s.data.getD i 0).toNat : Int) % 128)), inR (n + (((128 : Int) ^ i) * (((s.data.getD i 0).toNat : Int) % 128)))] [] (by kernel_rfl) (oc rfl (oc (by omega) (oc (by omega) (oc (by omega) (oc (by omega) (oc (by omega) (oc (by unfold inR; omega) (oc (by unfold inR; omega) on)))))))) wn ?_
      refine l_nil (q_then_normal ?_)
      refine c_seq ?_
      refine c_region ?_
      refine JL_run 3 [] [6, 5, 7, 0] 0 ⟨[(6, vI (((128 : Int) ^ i) * 128)), (5, vI (n + (((128 : Int) ^ i) * (((s.data.getD i 0).toNat : Int) % 128)))), (7, vI ((i : Nat) : Int)), (0, vS s)], []⟩ [inR (((128 : Int) ^ i) * 128)] [] (by kernel_rfl) (oc (by unfold inR; omega) on) wn ?_
      refine l_nil (q_then_normal ?_)
      refine c_seq ?_
      refine c_region ?_
      refine JL_run 4 [(2, .sidx i)] [30, 6, 5, 7, 0] 0 ⟨[(30, vB (decide (((s.data.getD i 0).toNat : Int) < 128))), (6, vI (((128 : Int) ^ i) * 128)), (5, vI (n + (((128 : Int) ^ i) * (((s.data.getD i 0).toNat : Int) % 128)))), (7, vI ((i : Nat) : Int)), (0, vS s)], []⟩ [((i : Nat) : Int) = ((i : Nat) : Int), i < s.size] [] (by kernel_rfl) (oc rfl (oc (by omega) on)) wn ?_
      refine l_nil (q_then_normal ?_)
      cases h3 : decide (((s.data.getD i 0).toNat : Int) < 128) with
      | true =>
        have h3 := of_decide_eq_true h3
        refine c_if true rfl ?_
        refine c_seq ?_
        refine c_seq ?_
        refine c_region ?_
        refine JL_run 3 [] [33, 5, 7, 0] 0 ⟨[(33, vB (decide ((0 : Int) < ((i : Nat) : Int)))), (5, vI (n + (((128 : Int) ^ i) * (((s.data.getD i 0).toNat : Int) % 128)))), (7, vI ((i : Nat) : Int)), (0, vS s)], []⟩ [] [] (by kernel_rfl) on wn ?_
        cases h4 : decide ((0 : Int) < ((i : Nat) : Int)) with
        | true =>
          have h4 := of_decide_eq_true h4
          refine JL_run 6 [(2, .sidx i)] [39, 5, 7, 0] 0 ⟨[(39, vB (decide (((s.data.getD i 0).toNat : Int) = 0))), (5, vI (n + (((128 : Int) ^ i) * (((s.data.getD i 0).toNat : Int) % 128)))), (7, vI ((i : Nat) : Int)), (0, vS s)], []⟩ [((i : Nat) : Int) = ((i : Nat) : Int), i < s.size] [] (by kernel_rfl) (oc rfl (oc (by omega) on)) wn ?_
          cases h5 : decide (((s.data.getD i 0).toNat : Int) = 0) with
          | true =>
            have h5 := of_decide_eq_true h5
            refine JL_run 3 [] [42, 5, 7, 0] 0 ⟨[(42, vB true), (5, vI (n + (((128 : Int) ^ i) * (((s.data.getD i 0).toNat : Int) % 128)))), (7, vI ((i : Nat) : Int)), (0, vS s)], []⟩ [] [] (by kernel_rfl) on wn ?_
            refine l_nil (q_then_normal ?_)
            refine c_if true rfl ?_
            refine c_seq ?_
            refine c_region ?_
            refine JL_run 3 [] [4, 3, 2] 0 ⟨[(4, vI 4), (3, vS emp), (2, vI 0)], []⟩ [] [] (by kernel_rfl) on wn ?_
            refine l_nil (q_then_normal ?_)
            refine c_ret ?_
            refine q_then_ret (q_block_ret (q_then_ret (q_then_ret (q_block_ret (q_then_ret (q_ret (.inl rfl) [vI 0, vS emp, vI 4] rfl (fun bs w hS => ?_)))))))
            refine ⟨?_, hS.kp⟩
            rw [hI.last (by omega) (by omega) (by omega), if_pos (by omega)]
            simp only [retOf, den, List.map_cons, List.map_nil]
          | false =>
            have h5 := of_decide_eq_false h5
            refine JL_run 3 [] [42, 5, 7, 0] 0 ⟨[(42, vB (decide ((1099511627776 : Int) < n + (((128 : Int) ^ i) * (((s.data.getD i 0).toNat : Int) % 128))))), (5, vI (n + (((128 : Int) ^ i) * (((s.data.getD i 0).toNat : Int) % 128)))), (7, vI ((i : Nat) : Int)), (0, vS s)], []⟩ [] [] (by kernel_rfl) on wn ?_
            refine l_nil (q_then_normal ?_)
            cases h6 : decide ((1099511627776 : Int) < n + (((128 : Int) ^ i) * (((s.data.getD i 0).toNat : Int) % 128))) with
            | true =>
              have h6 := of_decide_eq_true h6
              refine c_if true rfl ?_
              refine c_seq ?_
              refine c_region ?_
              refine JL_run 3 [] [4, 3, 2] 0 ⟨[(4, vI 4), (3, vS emp), (2, vI 0)], []⟩ [] [] (by kernel_rfl) on wn ?_
              refine l_nil (q_then_normal ?_)
              refine c_ret ?_
              refine q_then_ret (q_block_ret (q_then_ret (q_then_ret (q_block_ret (q_then_ret (q_ret (.inl rfl) [vI 0, vS emp, vI 4] rfl (fun bs w hS => ?_)))))))
              refine ⟨?_, hS.kp⟩
              rw [hI.last (by omega) (by omega) (by omega), if_pos (by omega)]
              simp only [retOf, den, List.map_cons, List.map_nil]
            | false =>
              have h6 := of_decide_eq_false h6
              refine c_if false rfl ?_
              refine c_skip ?_
              refine q_then_normal ?_
              refine c_seq ?_
              refine c_draw 8 [(0, false), (1, false), (2, false), (3, false), (4, false), (5, false), (6, false), (7, false)] [] [] Try_mixed (by kernel_rfl) (pq_then (pq_block (pq_then (pq_then (pq_block (pq_then pq_body)))))) (List.Sublist.refl _) ?_
              refine h_quiet [(4, .sl (i + 1) s.size)] 8 [(4, vI 0), (3, vS (s.extract (i + 1) s.size)), (2, vI (n + (((128 : Int) ^ i) * (((s.data.getD i 0).toNat : Int) % 128)))), (47, vS (s.extract (i + 1) s.size)), (46, vI (((i : Nat) : Int) + 1)), (45, vI ((i : Nat) : Int)), (44, vS s), (43, vI (n + (((128 : Int) ^ i) * (((s.data.getD i 0).toNat : Int) % 128)))), (42, vB false), (5, vI (n + (((128 : Int) ^ i) * (((s.data.getD i 0).toNat : Int) % 128)))), (7, vI ((i : Nat) : Int)), (0, vS s)] [inR (((i : Nat) : Int) + 1), ((i : Nat) : Int) + 1 = (((i + 1) : Nat) : Int), s.size = s.size, (i + 1) ≤ s.size] [] rfl rfl (by kernel_rfl) (oc (by unfold inR; omega) (oc (by omega) (oc rfl (oc (by omega) on)))) wn ?_
              refine h_nil ?_
              refine l_nil (q_then_normal ?_)
              refine c_ret ?_
              refine q_block_ret (q_then_ret (q_then_ret (q_block_ret (q_then_ret (q_ret (.inl rfl) [vI (n + (((128 : Int) ^ i) * (((s.data.getD i 0).toNat : Int) % 128))), vS (s.extract (i + 1) s.size), vI 0] rfl (fun bs w hS => ?_))))))
              refine ⟨?_, hS.kp⟩
              rw [hI.last (by omega) (by omega) (by omega), if_neg (by omega)]
              simp only [retOf, den, List.map_cons, List.map_nil]
        | false =>
          have h4 := of_decide_eq_false h4
          refine JL_run 9 [] [42, 5, 7, 0] 0 ⟨[(42, vB (decide ((1099511627776 : Int) < n + (((128 : Int) ^ i) * (((s.data.getD i 0).toNat : Int) % 128))))), (5, vI (n + (((128 : Int) ^ i) * (((s.data.getD i 0).toNat : Int) % 128)))), (7, vI ((i : Nat) : Int)), (0, vS s)], []⟩ [] [] (by kernel_rfl) on wn ?_
          refine l_nil (q_then_normal ?_)
          cases h7 : decide ((1099511627776 : Int) < n + (((128 : Int) ^ i) * (((s.data.getD i 0).toNat : Int) % 128))) with
          | true =>
            have h7 := of_decide_eq_true h7
            refine c_if true rfl ?_
            refine c_seq ?_
            refine c_region ?_
            refine JL_run 3 [] [4, 3, 2] 0 ⟨[(4, vI 4), (3, vS emp), (2, vI 0)], []⟩ [] [] (by kernel_rfl) on wn ?_
            refine l_nil (q_then_normal ?_)
            refine c_ret ?_
            refine q_then_ret (q_block_ret (q_then_ret (q_then_ret (q_block_ret (q_then_ret (q_ret (.inl rfl) [vI 0, vS emp, vI 4] rfl (fun bs w hS => ?_)))))))
            refine ⟨?_, hS.kp⟩
            rw [hI.last (by omega) (by omega) (by omega), if_pos (by omega)]
            simp only [retOf, den, List.map_cons, List.map_nil]
          | false =>
            have h7 := of_decide_eq_false h7
            refine c_if false rfl ?_
            refine c_skip ?_
            refine q_then_normal ?_
            refine c_seq ?_
            refine c_draw 8 [(0, false), (1, false), (2, false), (3, false), (4, false), (5, false), (6, false), (7, false)] [] [] Try_mixed (by kernel_rfl) (pq_then (pq_block (pq_then (pq_then (pq_block (pq_then pq_body)))))) (List.Sublist.refl _) ?_
            refine h_quiet [(4, .sl (i + 1) s.size)] 8 [(4, vI 0), (3, vS (s.extract (i + 1) s.size)), (2, vI (n + (((128 : Int) ^ i) * (((s.data.getD i 0).toNat : Int) % 128)))), (47, vS (s.extract (i + 1) s.size)), (46, vI (((i : Nat) : Int) + 1)), (45, vI ((i : Nat) : Int)), (44, vS s), (43, vI (n + (((128 : Int) ^ i) * (((s.data.getD i 0).toNat : Int) % 128)))), (42, vB false), (5, vI (n + (((128 : Int) ^ i) * (((s.data.getD i 0).toNat : Int) % 128)))), (7, vI ((i : Nat) : Int)), (0, vS s)] [inR (((i : Nat) : Int) + 1), ((i : Nat) : Int) + 1 = (((i + 1) : Nat) : Int), s.size = s.size, (i + 1) ≤ s.size] [] rfl rfl (by kernel_rfl) (oc (by unfold inR; omega) (oc (by omega) (oc rfl (oc (by omega) on)))) wn ?_
            refine h_nil ?_
            refine l_nil (q_then_normal ?_)
            refine c_ret ?_
            refine q_block_ret (q_then_ret (q_then_ret (q_block_ret (q_then_ret (q_ret (.inl rfl) [vI (n + (((128 : Int) ^ i) * (((s.data.getD i 0).toNat : Int) % 128))), vS (s.extract (i + 1) s.size), vI 0] rfl (fun bs w hS => ?_))))))
            refine ⟨?_, hS.kp⟩
            rw [hI.last (by omega) (by omega) (by omega), if_neg (by omega)]
            simp only [retOf, den, List.map_cons, List.map_nil]
      | false =>
        have h3 := of_decide_eq_false h3
        refine c_if false rfl ?_
        refine c_skip ?_
        refine q_block_normal (q_then_normal ?_)
        refine c_region ?_
        refine JL_run 3 [] [7, 6, 5, 0] 0 ⟨[(7, vI (((i : Nat) : Int) + 1)), (6, vI (((128 : Int) ^ i) * 128)), (5, vI (n + (((128 : Int) ^ i) * (((s.data.getD i 0).toNat : Int) % 128)))), (0, vS s)], []⟩ [inR (((i : Nat) : Int) + 1)] [] (by kernel_rfl) (oc (by unfold inR; omega) on) wn ?_
        refine l_nil (q_loop (x := (⟨i, n⟩ : Nat × Int)) (⟨i + 1, n + (((128 : Int) ^ i) * (((s.data.getD i 0).toNat : Int) % 128))⟩ : Nat × Int) (hI.step (by omega) (by omega) (by omega)) (by show 6 - (i + 1) < 6 - i; omega) (s_start [7, 6, 5, 0] 0 (by simp only [Int.pow_succ]; kernel_rfl) rfl))
  | false =>
    have h1 := of_decide_eq_false h1
    refine c_if false rfl ?_
    refine c_exit ?_
    refine q_then_exit (q_then_exit (q_block_hit (q_then_normal ?_)))
    refine c_seq ?_
    refine c_region ?_
    refine JL_run 3 [] [4, 3, 2] 0 ⟨[(4, vI 4), (3, vS emp), (2, vI 0)], []⟩ [] [] (by kernel_rfl) on wn ?_
    refine l_nil (q_then_normal ?_)
    refine c_ret ?_
    refine q_ret (.inl rfl) [vI 0, vS emp, vI 4] rfl (fun bs w hS => ?_)
    refine ⟨?_, hS.kp⟩
    rw [hI.out (by omega)]
    simp only [retOf, den, List.map_cons, List.map_nil]

theorem law_CodecSeals (s : ByteArray) (w : World) (hs : s.size ≤ 9223372036854775807) : Calls Try.prog 6 #[.string s] w fun e w' => e = .returned (.bool true) ∧ Kp [] w w' := by
  refine calls_J0 12 Try.func6 rfl rfl [.string s] rfl ?_
  refine c_seq ?_
  refine c_region ?_
  refine JL_run 1 [] [0] 0 ⟨[(0, vS s)], []⟩ [] [] (by kernel_rfl) on wn ?_
  refine l_nil (q_then_normal ?_)
  refine c_seq ?_
  refine c_region ?_
  refine JL_run 1 [] [5, 0] 0 ⟨[(5, vS s), (0, vS s)], []⟩ [] [] (by kernel_rfl) on wn ?_
  refine l_pure 21 [] [vS s] (.string (mSeal s)) Try.call21 rfl rfl rfl rfl (fun bs w hS => codec_Seal _ w (by first | assumption | omega | (simp only [emp_size]; omega))) ?_
  refine JL_run 1 [] [3, 0] 0 ⟨[(3, vS (mSeal s)), (0, vS s)], []⟩ [] [] (by kernel_rfl) on wn ?_
  refine l_nil (q_then_normal ?_)
  refine c_seq ?_
  refine c_region ?_
  refine JL_run 1 [] [7, 3] 0 ⟨[(7, vS s), (3, vS (mSeal s))], []⟩ [] [] (by kernel_rfl) on wn ?_
  refine l_pure 22 [] [vS s] (.string (mSeal s)) Try.call22 rfl rfl rfl rfl (fun bs w hS => ref_SealOf _ w (by first | assumption | omega | (simp only [emp_size]; omega))) ?_
  refine JL_run 1 [] [4, 3] 0 ⟨[(4, vS (mSeal s)), (3, vS (mSeal s))], []⟩ [] [] (by kernel_rfl) on wn ?_
  refine l_nil (q_then_normal ?_)
  refine c_seq ?_
  refine c_region ?_
  refine JL_run 4 [] [2] 0 ⟨[(2, vB (decide ((mSeal s) = (mSeal s))))], []⟩ [] [] (by kernel_rfl) on wn ?_
  refine l_nil (q_then_normal ?_)
  refine c_ret ?_
  refine q_ret (.inl rfl) [vB (decide ((mSeal s) = (mSeal s)))] rfl (fun bs w hS => ?_)
  refine ⟨?_, hS.kp⟩
  simp [retOf, den]

theorem law_CodecNumbers (n : Int) (w : World) : Calls Try.prog 8 #[.int .i64 n] w fun e w' => e = .returned (.bool true) ∧ Kp [] w w' := by
  refine calls_J0 25 Try.func8 rfl rfl [.int .i64 n] rfl ?_
  refine c_seq ?_
  refine c_region ?_
  refine JL_run 1 [] [0] 0 ⟨[(0, vI n)], []⟩ [] [] (by kernel_rfl) on wn ?_
  refine l_nil (q_then_normal ?_)
  refine c_seq ?_
  refine c_region ?_
  refine JL_run 1 [] [8, 0] 0 ⟨[(8, vI n), (0, vI n)], []⟩ [] [] (by kernel_rfl) on wn ?_
  refine l_pure 25 [] [vI n] (.tuple #[.string ((mNumber n).1), .int .i64 ((mNumber n).2)]) Try.call25 rfl rfl rfl rfl (fun bs w hS => codec_Number _ w) ?_
  refine JL_run 5 [] [4, 3, 0] 0 ⟨[(4, vI ((mNumber n).2)), (3, vS ((mNumber n).1)), (0, vI n)], []⟩ [] [] (by kernel_rfl) on wn ?_
  refine l_nil (q_then_normal ?_)
  refine c_seq ?_
  refine c_region ?_
  refine JL_run 1 [] [13, 4, 3] 0 ⟨[(13, vI n), (4, vI ((mNumber n).2)), (3, vS ((mNumber n).1))], []⟩ [] [] (by kernel_rfl) on wn ?_
  refine l_pure 26 [] [vI n] (.tuple #[.string ((mNumber n).1), .int .i64 ((mNumber n).2)]) Try.call26 rfl rfl rfl rfl (fun bs w hS => ref_NumberBytes _ w) ?_
  refine JL_run 5 [] [6, 5, 4, 3] 0 ⟨[(6, vI ((mNumber n).2)), (5, vS ((mNumber n).1)), (4, vI ((mNumber n).2)), (3, vS ((mNumber n).1))], []⟩ [] [] (by kernel_rfl) on wn ?_
  refine l_nil (q_then_normal ?_)
  refine c_seq ?_
  refine c_region ?_
  refine JL_run 4 [] [20, 6, 4] 0 ⟨[(20, vB (decide (((mNumber n).1) = ((mNumber n).1)))), (6, vI ((mNumber n).2)), (4, vI ((mNumber n).2))], []⟩ [] [] (by kernel_rfl) on wn ?_
  cases h1 : decide (((mNumber n).1) = ((mNumber n).1)) with
  | true =>
    have h1 := of_decide_eq_true h1
    refine JL_run 5 [] [2] 0 ⟨[(2, vB (decide ((mNumber n).2 = (mNumber n).2)))], []⟩ [] [] (by kernel_rfl) on wn ?_
    refine l_nil (q_then_normal ?_)
    refine c_ret ?_
    refine q_ret (.inl rfl) [vB (decide ((mNumber n).2 = (mNumber n).2))] rfl (fun bs w hS => ?_)
    refine ⟨?_, hS.kp⟩
    simp [retOf, den]
  | false =>
    have h1 := of_decide_eq_false h1
    exact absurd rfl h1

theorem law_CodecTexts (s : ByteArray) (w : World) (hs : s.size ≤ 9223372036854775807) : Calls Try.prog 14 #[.string s] w fun e w' => e = .returned (.bool true) ∧ Kp [] w w' := by
  refine calls_J0 25 Try.func14 rfl rfl [.string s] rfl ?_
  refine c_seq ?_
  refine c_region ?_
  refine JL_run 1 [] [0] 0 ⟨[(0, vS s)], []⟩ [] [] (by kernel_rfl) on wn ?_
  refine l_nil (q_then_normal ?_)
  refine c_seq ?_
  refine c_region ?_
  refine JL_run 1 [] [8, 0] 0 ⟨[(8, vS s), (0, vS s)], []⟩ [] [] (by kernel_rfl) on wn ?_
  refine l_pure 36 [] [vS s] (.tuple #[.string ((mText s).1), .int .i64 ((mText s).2)]) Try.call36 rfl rfl rfl rfl (fun bs w hS => codec_Text _ w (by first | assumption | (simp only [emp_size]; omega) | omega)) ?_
  refine JL_run 5 [] [4, 3, 0] 0 ⟨[(4, vI ((mText s).2)), (3, vS ((mText s).1)), (0, vS s)], []⟩ [] [] (by kernel_rfl) on wn ?_
  refine l_nil (q_then_normal ?_)
  refine c_seq ?_
  refine c_region ?_
  refine JL_run 1 [] [13, 4, 3] 0 ⟨[(13, vS s), (4, vI ((mText s).2)), (3, vS ((mText s).1))], []⟩ [] [] (by kernel_rfl) on wn ?_
  refine l_pure 37 [] [vS s] (.tuple #[.string ((mText s).1), .int .i64 ((mText s).2)]) Try.call37 rfl rfl rfl rfl (fun bs w hS => ref_TextBytes _ w (by first | assumption | (simp only [emp_size]; omega) | omega)) ?_
  refine JL_run 5 [] [6, 5, 4, 3] 0 ⟨[(6, vI ((mText s).2)), (5, vS ((mText s).1)), (4, vI ((mText s).2)), (3, vS ((mText s).1))], []⟩ [] [] (by kernel_rfl) on wn ?_
  refine l_nil (q_then_normal ?_)
  refine c_seq ?_
  refine c_region ?_
  refine JL_run 4 [] [20, 6, 4] 0 ⟨[(20, vB (decide (((mText s).1) = ((mText s).1)))), (6, vI ((mText s).2)), (4, vI ((mText s).2))], []⟩ [] [] (by kernel_rfl) on wn ?_
  cases h1 : decide (((mText s).1) = ((mText s).1)) with
  | true =>
    have h1 := of_decide_eq_true h1
    refine JL_run 5 [] [2] 0 ⟨[(2, vB (decide ((mText s).2 = (mText s).2)))], []⟩ [] [] (by kernel_rfl) on wn ?_
    refine l_nil (q_then_normal ?_)
    refine c_ret ?_
    refine q_ret (.inl rfl) [vB (decide ((mText s).2 = (mText s).2))] rfl (fun bs w hS => ?_)
    refine ⟨?_, hS.kp⟩
    simp [retOf, den]
  | false =>
    have h1 := of_decide_eq_false h1
    exact absurd rfl h1

theorem law_CodecReads (s : ByteArray) (w : World) (hs : s.size ≤ 9223372036854775807) : Calls Try.prog 11 #[.string s] w fun e w' => e = .returned (.bool true) ∧ Kp [] w w' := by
  refine calls_J0 34 Try.func11 rfl rfl [.string s] rfl ?_
  refine c_seq ?_
  refine c_region ?_
  refine JL_run 1 [] [0] 0 ⟨[(0, vS s)], []⟩ [] [] (by kernel_rfl) on wn ?_
  refine l_nil (q_then_normal ?_)
  refine c_seq ?_
  refine c_region ?_
  refine JL_run 1 [] [10, 0] 0 ⟨[(10, vS s), (0, vS s)], []⟩ [] [] (by kernel_rfl) on wn ?_
  refine l_pure 30 [] [vS s] (.tuple #[.int .i64 ((mRead s).1), .string ((mRead s).2.1), .int .i64 ((mRead s).2.2)]) Try.call30 rfl rfl rfl rfl (fun bs w hS => codec_ReadNumber _ w (by first | assumption | omega | (simp only [emp_size]; omega))) ?_
  refine JL_run 7 [] [5, 4, 3, 0] 0 ⟨[(5, vI ((mRead s).2.2)), (4, vS ((mRead s).2.1)), (3, vI ((mRead s).1)), (0, vS s)], []⟩ [] [] (by kernel_rfl) on wn ?_
  refine l_nil (q_then_normal ?_)
  refine c_seq ?_
  refine c_region ?_
  refine JL_run 1 [] [16, 5, 4, 3] 0 ⟨[(16, vS s), (5, vI ((mRead s).2.2)), (4, vS ((mRead s).2.1)), (3, vI ((mRead s).1))], []⟩ [] [] (by kernel_rfl) on wn ?_
  refine l_pure 31 [] [vS s] (.tuple #[.int .i64 ((mRead s).1), .string ((mRead s).2.1), .int .i64 ((mRead s).2.2)]) Try.call31 rfl rfl rfl rfl (fun bs w hS => ref_NumberOf _ w (by first | assumption | omega | (simp only [emp_size]; omega))) ?_
  refine JL_run 7 [] [8, 7, 6, 5, 4, 3] 0 ⟨[(8, vI ((mRead s).2.2)), (7, vS ((mRead s).2.1)), (6, vI ((mRead s).1)), (5, vI ((mRead s).2.2)), (4, vS ((mRead s).2.1)), (3, vI ((mRead s).1))], []⟩ [] [] (by kernel_rfl) on wn ?_
  refine l_nil (q_then_normal ?_)
  refine c_seq ?_
  refine c_region ?_
  refine JL_run 4 [] [24, 8, 7, 5, 4] 0 ⟨[(24, vB (decide ((mRead s).1 = (mRead s).1))), (8, vI ((mRead s).2.2)), (7, vS ((mRead s).2.1)), (5, vI ((mRead s).2.2)), (4, vS ((mRead s).2.1))], []⟩ [] [] (by kernel_rfl) on wn ?_
  cases h1 : decide ((mRead s).1 = (mRead s).1) with
  | true =>
    have h1 := of_decide_eq_true h1
    refine JL_run 5 [] [29, 8, 5] 0 ⟨[(29, vB (decide (((mRead s).2.1) = ((mRead s).2.1)))), (8, vI ((mRead s).2.2)), (5, vI ((mRead s).2.2))], []⟩ [] [] (by kernel_rfl) on wn ?_
    cases h2 : decide (((mRead s).2.1) = ((mRead s).2.1)) with
    | true =>
      have h2 := of_decide_eq_true h2
      refine JL_run 5 [] [2] 0 ⟨[(2, vB (decide ((mRead s).2.2 = (mRead s).2.2)))], []⟩ [] [] (by kernel_rfl) on wn ?_
      refine l_nil (q_then_normal ?_)
      refine c_ret ?_
      refine q_ret (.inl rfl) [vB (decide ((mRead s).2.2 = (mRead s).2.2))] rfl (fun bs w hS => ?_)
      refine ⟨?_, hS.kp⟩
      simp [retOf, den]
    | false =>
      have h2 := of_decide_eq_false h2
      exact absurd rfl h2
  | false =>
    have h1 := of_decide_eq_false h1
    exact absurd rfl h1

end Go.Proofs.Ytececkgjacccmaa.W
