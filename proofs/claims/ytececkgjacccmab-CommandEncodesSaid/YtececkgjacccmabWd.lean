/-
  Commands as bytes, walked: both return what one model says.
  Conditions: those that each theorem states.
-/
import Derived.Test.YtececkgjacccmabWa
set_option linter.unusedVariables false
set_option linter.unusedSimpArgs false
namespace Go.Proofs.Ytececkgjacccmab.W
open Go.Proofs.Ytececkgjacccmab.Fw Go.RowKit

theorem codec_Number (n : Int) (w : World) : Calls Try.prog 63 #[.int .i64 n] w fun e w' => e = .returned (.tuple #[.string (mNumber n).1, .int .i64 (mNumber n).2]) ∧ Kp [] w w' := by
  refine calls_J0 28 Try.func63 rfl rfl [.int .i64 n] rfl ?_
  refine c_seq ?_
  refine c_region ?_
  refine JL_run 2 [] [0] 0 ⟨[(0, vI n)], []⟩ [] [] (by kernel_rfl) on wn ?_
  refine l_nil (q_then_normal ?_)
  refine c_seq ?_
  refine c_seq ?_
  refine c_region ?_
  refine JL_run 3 [] [7, 0] 0 ⟨[(7, vB (decide (n < 0))), (0, vI n)], []⟩ [] [] (by kernel_rfl) on wn ?_
  cases h1 : decide (n < 0) with
  | true =>
    have h1 := of_decide_eq_true h1
    refine JL_run 3 [] [10, 0] 0 ⟨[(10, vB true), (0, vI n)], []⟩ [] [] (by kernel_rfl) on wn ?_
    refine l_nil (q_then_normal ?_)
    refine c_if true rfl ?_
    refine c_seq ?_
    refine c_region ?_
    refine JL_run 2 [] [3, 2] 0 ⟨[(3, vI 2), (2, vS emp)], []⟩ [] [] (by kernel_rfl) on wn ?_
    refine l_nil (q_then_normal ?_)
    refine c_ret ?_
    refine q_then_ret (q_ret (.inl rfl) [vS emp, vI 2] rfl (fun bs w hS => ?_))
    exact ⟨by simp [retOf, den, mNumber, h1], hS.kp⟩
  | false =>
    have h1 := of_decide_eq_false h1
    refine JL_run 3 [] [10, 0] 0 ⟨[(10, vB (decide ((1099511627776 : Int) < n))), (0, vI n)], []⟩ [] [] (by kernel_rfl) on wn ?_
    refine l_nil (q_then_normal ?_)
    cases h2 : decide ((1099511627776 : Int) < n) with
    | true =>
      have h2 := of_decide_eq_true h2
      refine c_if true rfl ?_
      refine c_seq ?_
      refine c_region ?_
      refine JL_run 2 [] [3, 2] 0 ⟨[(3, vI 2), (2, vS emp)], []⟩ [] [] (by kernel_rfl) on wn ?_
      refine l_nil (q_then_normal ?_)
      refine c_ret ?_
      refine q_then_ret (q_ret (.inl rfl) [vS emp, vI 2] rfl (fun bs w hS => ?_))
      exact ⟨by simp [retOf, den, mNumber, h1, h2], hS.kp⟩
    | false =>
      have h2 := of_decide_eq_false h2
      refine c_if false rfl ?_
      refine c_skip ?_
      refine q_then_normal ?_
      refine c_seq ?_
      refine c_region ?_
      refine JL_run 1 [] [4, 0] 0 ⟨[(4, .v (.slice none 0 0)), (0, vI n)], []⟩ [] [] (by kernel_rfl) on wn ?_
      refine l_nil (q_then_normal ?_)
      refine c_seq ?_
      refine c_block ?_
      refine c_row 5 1 ?_
      refine c_loop (σ := List Int × Int × Nat × Option Addr × Nat) (fun ⟨done, m, f, A, c⟩ => NumIn n done m f) (fun ⟨done, m, f, A, c⟩ => f) (fun ⟨done, m, f, A, c⟩ => [rowR 5 1 A done.length c (done.map (Value.int .u8))]) (fun ⟨done, m, f, A, c⟩ => ⟨[(4, .v (.slice A done.length c)), (0, vI m)], []⟩) ⟨[], n, 5, none, 0⟩ (NumIn.start (by omega) (by omega)) (s_start [4, 0] 0 (by kernel_rfl) rfl) ?_
      rintro ⟨done, m, f, A, c⟩ hI
      have hlo := hI.lo
      have hhi := hI.hi
      have hlen := hI.len
      refine c_seq ?_
      refine c_seq ?_
      refine c_region ?_
      refine JL_run 2 [] [12, 4, 0] 0 ⟨[(12, vB (decide ((128 : Int) ≤ m))), (4, .v (.slice A done.length c)), (0, vI m)], []⟩ [] [] (by kernel_rfl) on wn ?_
      refine l_nil (q_then_normal ?_)
      cases h3 : decide ((128 : Int) ≤ m) with
      | true =>
        have h3 := of_decide_eq_true h3
        refine c_if true rfl ?_
        refine c_skip ?_
        refine q_then_normal ?_
        refine c_block ?_
        refine c_seq ?_
        refine c_region ?_
        refine JL_run 6 [] [18, 13, 0] 1 ⟨[(18, .s 0 0 1 1), (13, .v (.slice A done.length c)), (0, vI m)], [⟨5, [.v (.int .u8 ((bits .or .i64 (bits .and .i64 m 127) 128) % 256))]⟩]⟩ [] [] (by kernel_rfl) on wn ?_
        refine l_append 5 1 1 A done.length c (done.map (Value.int .u8)) (.s 0 0 1 1) 1 [.int .u8 ((bits .or .i64 (bits .and .i64 m 127) 128) % 256)] Try.underlying101 (by kernel_rfl) (by omega) rfl rfl rfl (fun bs w hS => src_loc (q := 1) hS rfl rfl) rfl rfl (by unfold maxLen; omega) (by omega) ?_
        intro A1 c1
        refine JL_run 1 [] [4, 0] 0 ⟨[(4, .v (.slice A1 (done.length + 1) c1)), (0, vI m)], []⟩ [] [] (by kernel_rfl) on wn ?_
        refine l_nil (q_then_normal ?_)
        refine c_region ?_
        refine JL_run 3 [] [0, 4] 0 ⟨[(0, vI (m / 2 ^ (7 : Int).toNat)), (4, .v (.slice A1 (done.length + 1) c1))], []⟩ [(0 : Int) ≤ 7, 7 ≤ (64 : Int)] [] (by kernel_rfl) (oc (by omega) (oc (by omega) on)) wn ?_
        have hst := hI.step h3
        refine l_nil (q_block_normal (q_loop (x := (⟨done, m, f, A, c⟩ : List Int × Int × Nat × Option Addr × Nat)) (⟨done ++ [128 + m % 128], m / 128, f - 1, A1, c1⟩ : List Int × Int × Nat × Option Addr × Nat) hst.2 (by have := hst.1; show f - 1 < f; omega) (s_start [4, 0] 0 (by simp only [List.length_append, List.length_cons, List.length_nil]; kernel_rfl) (by rw [byte_or m hlo hhi]; simp))))
      | false =>
        have h3 := of_decide_eq_false h3
        refine c_if false rfl ?_
        refine c_exit ?_
        refine q_then_exit (q_then_exit (q_block_hit (q_then_normal ?_)))
        refine c_seq ?_
        refine c_region ?_
        refine JL_run 4 [] [25, 22] 1 ⟨[(25, .s 0 0 1 1), (22, .v (.slice A done.length c))], [⟨5, [.v (.int .u8 (m % 256))]⟩]⟩ [] [] (by kernel_rfl) on wn ?_
        refine l_append 5 1 1 A done.length c (done.map (Value.int .u8)) (.s 0 0 1 1) 1 [.int .u8 (m % 256)] Try.underlying101 (by kernel_rfl) (by omega) rfl rfl rfl (fun bs w hS => src_loc (q := 1) hS rfl rfl) rfl rfl (by unfold maxLen; omega) (by omega) ?_
        intro A2 c2
        refine l_bytes 5 (.v (.slice A2 (done.length + 1) c2)) (done ++ [m % 256]) Try.underlying101 Try.underlying5 Try.underlying9 rfl rfl (fun bs w hS => ?_) ?_
        · obtain ⟨g, hg, hc⟩ := row_cells (e := 5) (size := 1) (A := A2) (n := done.length + 1) (c := c2) (xs := done.map (Value.int .u8) ++ [.int .u8 (m % 256)]) hS (by simp) (by omega)
          subst hg
          exact ⟨⟨g, 0, none⟩, c2, by simp [den], by simpa using hc⟩
        refine JL_run 2 [] [3, 2] 0 ⟨[(3, vI 0), (2, vS (bstr (done ++ [m % 256])))], []⟩ [] [] (by kernel_rfl) on wn ?_
        refine l_nil (q_then_normal ?_)
        refine c_ret ?_
        refine q_ret (.inl rfl) [vS (bstr (done ++ [m % 256])), vI 0] rfl (fun bs w hS => ?_)
        have e1 : m % 256 = m := by omega
        have e2 := hI.done (by omega)
        refine ⟨?_, hS.kp⟩
        simp only [retOf, den, List.map_cons, List.map_nil, mNumber, e1, e2]
        rw [if_neg (by omega)]

theorem ref_NumberBytes (n : Int) (w : World) : Calls Try.prog 65 #[.int .i64 n] w fun e w' => e = .returned (.tuple #[.string (mNumber n).1, .int .i64 (mNumber n).2]) ∧ Kp [] w w' := by
  refine calls_J0 26 Try.func65 rfl rfl [.int .i64 n] rfl ?_
  refine c_seq ?_
  refine c_region ?_
  refine JL_run 2 [] [0] 0 ⟨[(0, vI n)], []⟩ [] [] (by kernel_rfl) on wn ?_
  refine l_nil (q_then_normal ?_)
  refine c_seq ?_
  refine c_seq ?_
  refine c_region ?_
  refine JL_run 1 [] [5, 0] 0 ⟨[(5, vI n), (0, vI n)], []⟩ [] [] (by kernel_rfl) on wn ?_
  refine l_pure 47 [] [vI n, vI 0, vI 1099511627776] (.bool (inB n 0 1099511627776)) Try.call47 rfl rfl rfl rfl (fun bs w hS => ref_In _ _ _ w) ?_
  refine JL_run 1 [] [7, 0] 0 ⟨[(7, vB (!(inB n 0 1099511627776))), (0, vI n)], []⟩ [] [] (by kernel_rfl) on wn ?_
  refine l_nil (q_then_normal ?_)
  cases h1 : inB n 0 1099511627776 with
  | true =>
    refine c_if false rfl ?_
    refine c_skip ?_
    refine q_then_normal ?_
    refine c_seq ?_
    refine c_region ?_
    refine JL_run 1 [] [4, 0] 0 ⟨[(4, vS emp), (0, vI n)], []⟩ [] [] (by kernel_rfl) on wn ?_
    refine l_nil (q_then_normal ?_)
    refine c_seq ?_
    refine c_block ?_
    refine c_loop (σ := List Int × Int × Nat) (fun ⟨done, m, f⟩ => NumIn n done m f) (fun ⟨done, m, f⟩ => f) (fun ⟨done, m, f⟩ => []) (fun ⟨done, m, f⟩ => ⟨[(4, vS (bstr done)), (0, vI m)], []⟩) ⟨[], n, 5⟩ (NumIn.start (by simp [inB] at h1; omega) (by simp [inB] at h1; omega)) (s_start [4, 0] 0 (by kernel_rfl) rfl) ?_
    rintro ⟨done, m, f⟩ hI
    have hlo := hI.lo
    have hhi := hI.hi
    have hlen := hI.len
    refine c_seq ?_
    refine c_seq ?_
    refine c_region ?_
    refine JL_run 2 [] [9, 4, 0] 0 ⟨[(9, vB (decide ((128 : Int) ≤ m))), (4, vS (bstr done)), (0, vI m)], []⟩ [] [] (by kernel_rfl) on wn ?_
    refine l_nil (q_then_normal ?_)
    cases h2 : decide ((128 : Int) ≤ m) with
    | true =>
      have h2 := of_decide_eq_true h2
      refine c_if true rfl ?_
      refine c_skip ?_
      refine q_then_normal ?_
      refine c_block ?_
      refine c_seq ?_
      refine c_region ?_
      refine JL_run 6 [] [15, 10, 0] 1 ⟨[(15, .s 0 0 1 1), (10, vS (bstr done)), (0, vI m)], [⟨5, [.v (.int .u8 (((128 : Int) + (m % 128)) % 256))]⟩]⟩ [0 ≤ m, (0 : Int) < 128, inR ((128 : Int) + (m % 128))] [] (by kernel_rfl) (oc (by omega) (oc (by omega) (oc (by unfold inR; omega) on))) wn ?_
      refine l_bytes 5 (.s 0 0 1 1) [((128 : Int) + (m % 128)) % 256] Try.underlying101 Try.underlying5 Try.underlying9 rfl rfl (fun bs w hS => src_loc (q := 1) hS rfl rfl) ?_
      refine JL_run 2 [] [4, 0] 0 ⟨[(4, vS ((bstr done) ++ (bstr ([((128 : Int) + (m % 128)) % 256])))), (0, vI m)], []⟩ [(bstr done).size + (bstr ([((128 : Int) + (m % 128)) % 256])).size ≤ 9223372036854775807] [] (by kernel_rfl) (oc (by simp only [bstr_size, List.length_cons, List.length_nil]; omega) on) wn ?_
      refine l_nil (q_then_normal ?_)
      refine c_region ?_
      refine JL_run 3 [] [0, 4] 0 ⟨[(0, vI (m / 128)), (4, vS ((bstr done) ++ (bstr ([((128 : Int) + (m % 128)) % 256]))))], []⟩ [0 ≤ m, m ≤ 9223372036854775807, (0 : Int) < 128] [] (by kernel_rfl) (oc (by omega) (oc (by omega) (oc (by omega) on))) wn ?_
      have hst := hI.step h2
      refine l_nil (q_block_normal (q_loop (x := (⟨done, m, f⟩ : List Int × Int × Nat)) (⟨done ++ [128 + m % 128], m / 128, f - 1⟩ : List Int × Int × Nat) hst.2 (by have := hst.1; show f - 1 < f; omega) (s_start [4, 0] 0 (by rw [bstr_append, show (128 + m % 128) % 256 = 128 + m % 128 by omega]; kernel_rfl) rfl)))
    | false =>
      have h2 := of_decide_eq_false h2
      refine c_if false rfl ?_
      refine c_exit ?_
      refine q_then_exit (q_then_exit (q_block_hit (q_then_normal ?_)))
      refine c_seq ?_
      refine c_region ?_
      refine JL_run 4 [] [23, 20] 1 ⟨[(23, .s 0 0 1 1), (20, vS (bstr done))], [⟨5, [.v (.int .u8 (m % 256))]⟩]⟩ [] [] (by kernel_rfl) on wn ?_
      refine l_bytes 5 (.s 0 0 1 1) [m % 256] Try.underlying101 Try.underlying5 Try.underlying9 rfl rfl (fun bs w hS => src_loc (q := 1) hS rfl rfl) ?_
      refine JL_run 3 [] [3, 2] 0 ⟨[(3, vI 0), (2, vS ((bstr done) ++ (bstr ([m % 256]))))], []⟩ [(bstr done).size + (bstr ([m % 256])).size ≤ 9223372036854775807] [] (by kernel_rfl) (oc (by simp only [bstr_size, List.length_cons, List.length_nil]; omega) on) wn ?_
      refine l_nil (q_then_normal ?_)
      refine c_ret ?_
      refine q_ret (.inl rfl) [vS ((bstr done) ++ (bstr ([m % 256]))), vI 0] rfl (fun bs w hS => ?_)
      have e1 : m % 256 = m := by omega
      have e2 := hI.done (by omega)
      simp [inB] at h1
      refine ⟨?_, hS.kp⟩
      simp only [retOf, den, List.map_cons, List.map_nil, mNumber, e1, bstr_append, e2]
      rw [if_neg (by omega)]
  | false =>
    refine c_if true rfl ?_
    refine c_seq ?_
    refine c_region ?_
    refine JL_run 2 [] [3, 2] 0 ⟨[(3, vI 2), (2, vS emp)], []⟩ [] [] (by kernel_rfl) on wn ?_
    refine l_nil (q_then_normal ?_)
    refine c_ret ?_
    refine q_then_ret (q_ret (.inl rfl) [vS emp, vI 2] rfl (fun bs w hS => ?_))
    simp [inB] at h1
    exact ⟨by simp only [retOf, den, List.map_cons, List.map_nil, mNumber]; rw [if_pos (by omega)], hS.kp⟩

theorem codec_Text (s : ByteArray) (w : World) (hs : s.size ≤ 9223372036854775807) : Calls Try.prog 64 #[.string s] w fun e w' => e = .returned (.tuple #[.string (mText s).1, .int .i64 (mText s).2]) ∧ Kp [] w w' := by
  refine calls_J0 18 Try.func64 rfl rfl [.string s] rfl ?_
  refine c_seq ?_
  refine c_region ?_
  refine JL_run 2 [] [0] 0 ⟨[(0, vS s)], []⟩ [] [] (by kernel_rfl) on wn ?_
  refine l_nil (q_then_normal ?_)
  refine c_seq ?_
  refine c_seq ?_
  refine c_region ?_
  refine JL_run 3 [] [8, 0] 0 ⟨[(8, vB (decide ((5000 : Int) < (s.size : Int)))), (0, vS s)], []⟩ [] [] (by kernel_rfl) on wn ?_
  refine l_nil (q_then_normal ?_)
  cases h1 : decide ((5000 : Int) < (s.size : Int)) with
  | true =>
    have h1 := of_decide_eq_true h1
    refine c_if true rfl ?_
    refine c_seq ?_
    refine c_region ?_
    refine JL_run 2 [] [3, 2] 0 ⟨[(3, vI 1), (2, vS emp)], []⟩ [] [] (by kernel_rfl) on wn ?_
    refine l_nil (q_then_normal ?_)
    refine c_ret ?_
    refine q_then_ret (q_ret (.inl rfl) [vS emp, vI 1] rfl (fun bs w hS => ?_))
    refine ⟨?_, hS.kp⟩
    simp only [retOf, den, List.map_cons, List.map_nil, mText]
    first | rw [if_pos (by omega)] | rw [if_neg (by omega)]
  | false =>
    have h1 := of_decide_eq_false h1
    refine c_if false rfl ?_
    refine c_skip ?_
    refine q_then_normal ?_
    refine c_seq ?_
    refine c_region ?_
    refine JL_run 2 [] [11, 0] 0 ⟨[(11, vI (s.size : Int)), (0, vS s)], []⟩ [] [] (by kernel_rfl) on wn ?_
    refine l_pure 63 [] [vI (s.size : Int)] (.tuple #[.string ((mNumber (s.size : Int)).1), .int .i64 ((mNumber (s.size : Int)).2)]) Try.call63 rfl rfl rfl rfl (fun bs w hS => codec_Number _ w) ?_
    refine JL_run 5 [] [4, 0] 0 ⟨[(4, vS ((mNumber (s.size : Int)).1)), (0, vS s)], []⟩ [] [] (by kernel_rfl) on wn ?_
    refine l_nil (q_then_normal ?_)
    refine c_seq ?_
    refine c_region ?_
    refine JL_run 5 [] [3, 2] 0 ⟨[(3, vI 0), (2, vS (((mNumber (s.size : Int)).1) ++ s))], []⟩ [((mNumber (s.size : Int)).1).size + s.size ≤ 9223372036854775807] [] (by kernel_rfl) (oc (by have := mNumber_size (s.size : Int); omega) on) wn ?_
    refine l_nil (q_then_normal ?_)
    refine c_ret ?_
    refine q_ret (.inl rfl) [vS (((mNumber (s.size : Int)).1) ++ s), vI 0] rfl (fun bs w hS => ?_)
    refine ⟨?_, hS.kp⟩
    simp only [retOf, den, List.map_cons, List.map_nil, mText]
    first | rw [if_pos (by omega)] | rw [if_neg (by omega)]

theorem ref_TextBytes (s : ByteArray) (w : World) (hs : s.size ≤ 9223372036854775807) : Calls Try.prog 66 #[.string s] w fun e w' => e = .returned (.tuple #[.string (mText s).1, .int .i64 (mText s).2]) ∧ Kp [] w w' := by
  refine calls_J0 18 Try.func66 rfl rfl [.string s] rfl ?_
  refine c_seq ?_
  refine c_region ?_
  refine JL_run 2 [] [0] 0 ⟨[(0, vS s)], []⟩ [] [] (by kernel_rfl) on wn ?_
  refine l_nil (q_then_normal ?_)
  refine c_seq ?_
  refine c_seq ?_
  refine c_region ?_
  refine JL_run 3 [] [8, 0] 0 ⟨[(8, vB (decide ((5000 : Int) < (s.size : Int)))), (0, vS s)], []⟩ [] [] (by kernel_rfl) on wn ?_
  refine l_nil (q_then_normal ?_)
  cases h1 : decide ((5000 : Int) < (s.size : Int)) with
  | true =>
    have h1 := of_decide_eq_true h1
    refine c_if true rfl ?_
    refine c_seq ?_
    refine c_region ?_
    refine JL_run 2 [] [3, 2] 0 ⟨[(3, vI 1), (2, vS emp)], []⟩ [] [] (by kernel_rfl) on wn ?_
    refine l_nil (q_then_normal ?_)
    refine c_ret ?_
    refine q_then_ret (q_ret (.inl rfl) [vS emp, vI 1] rfl (fun bs w hS => ?_))
    refine ⟨?_, hS.kp⟩
    simp only [retOf, den, List.map_cons, List.map_nil, mText]
    first | rw [if_pos (by omega)] | rw [if_neg (by omega)]
  | false =>
    have h1 := of_decide_eq_false h1
    refine c_if false rfl ?_
    refine c_skip ?_
    refine q_then_normal ?_
    refine c_seq ?_
    refine c_region ?_
    refine JL_run 2 [] [11, 0] 0 ⟨[(11, vI (s.size : Int)), (0, vS s)], []⟩ [] [] (by kernel_rfl) on wn ?_
    refine l_pure 65 [] [vI (s.size : Int)] (.tuple #[.string ((mNumber (s.size : Int)).1), .int .i64 ((mNumber (s.size : Int)).2)]) Try.call65 rfl rfl rfl rfl (fun bs w hS => ref_NumberBytes _ w) ?_
    refine JL_run 5 [] [4, 0] 0 ⟨[(4, vS ((mNumber (s.size : Int)).1)), (0, vS s)], []⟩ [] [] (by kernel_rfl) on wn ?_
    refine l_nil (q_then_normal ?_)
    refine c_seq ?_
    refine c_region ?_
    refine JL_run 5 [] [3, 2] 0 ⟨[(3, vI 0), (2, vS (((mNumber (s.size : Int)).1) ++ s))], []⟩ [((mNumber (s.size : Int)).1).size + s.size ≤ 9223372036854775807] [] (by kernel_rfl) (oc (by have := mNumber_size (s.size : Int); omega) on) wn ?_
    refine l_nil (q_then_normal ?_)
    refine c_ret ?_
    refine q_ret (.inl rfl) [vS (((mNumber (s.size : Int)).1) ++ s), vI 0] rfl (fun bs w hS => ?_)
    refine ⟨?_, hS.kp⟩
    simp only [retOf, den, List.map_cons, List.map_nil, mText]
    first | rw [if_pos (by omega)] | rw [if_neg (by omega)]

theorem command_Encode {B : Nat → Prop} (x : DCommand) (w : World) (hx : Rds.sub B w x) : Calls Try.prog 39 #[.agg #[.int .i64 x.kind, .int .i64 x.client, .int .i64 x.session, .int .i64 x.seq, .int .i64 x.acked, .int .i64 x.op.kind, .string x.op.a, .string x.op.b, .int .i64 x.op.n]] w fun e w' => e = .returned (.tuple #[.string (mEnc x).1, .int .i64 (mEnc x).2]) ∧ Kp [] w w' := by
  have okx := Rds.okof hx
  have hta := mText_size x.op.a
  have htb := mText_size x.op.b
  refine calls_J0 80 Try.func39 rfl rfl [.agg #[.int .i64 x.kind, .int .i64 x.client, .int .i64 x.session, .int .i64 x.seq, .int .i64 x.acked, .int .i64 x.op.kind, .string x.op.a, .string x.op.b, .int .i64 x.op.n]] rfl ?_
  refine c_seq ?_
  refine c_region ?_
  refine JL_run 3 [] [1] 1 ⟨[(1, .p 0 0)], [⟨56, [vI x.kind, vI x.client, vI x.session, vI x.seq, vI x.acked, vI x.op.kind, vS x.op.a, vS x.op.b, vI x.op.n]⟩]⟩ [] [] (by kernel_rfl) on wn ?_
  refine l_nil (q_then_normal ?_)
  refine c_seq ?_
  refine c_seq ?_
  refine c_region ?_
  refine JL_run 1 [] [14, 1] 1 ⟨[(14, .v (.agg #[.int .i64 x.kind, .int .i64 x.client, .int .i64 x.session, .int .i64 x.seq, .int .i64 x.acked, .int .i64 x.op.kind, .string x.op.a, .string x.op.b, .int .i64 x.op.n])), (1, .p 0 0)], [⟨56, [vI x.kind, vI x.client, vI x.session, vI x.seq, vI x.acked, vI x.op.kind, vS x.op.a, vS x.op.b, vI x.op.n]⟩]⟩ [] [] (by kernel_rfl) on wn ?_
  refine l_pure 29 [] [.v (.agg #[.int .i64 x.kind, .int .i64 x.client, .int .i64 x.session, .int .i64 x.seq, .int .i64 x.acked, .int .i64 x.op.kind, .string x.op.a, .string x.op.b, .int .i64 x.op.n])] (.int .i64 (mCmd x)) Try.call29 rfl rfl rfl rfl (fun bs w hS => command_Check (B := anyB) x w (Rds.kp hx hS.kp)) ?_
  refine JL_run 1 [] [4, 1] 1 ⟨[(4, vI (mCmd x)), (1, .p 0 0)], [⟨56, [vI x.kind, vI x.client, vI x.session, vI x.seq, vI x.acked, vI x.op.kind, vS x.op.a, vS x.op.b, vI x.op.n]⟩]⟩ [] [] (by kernel_rfl) on wn ?_
  refine l_nil (q_then_normal ?_)
  refine c_seq ?_
  refine c_region ?_
  refine JL_run 2 [] [17, 4, 1] 1 ⟨[(17, vB (!(decide (mCmd x = 0)))), (4, vI (mCmd x)), (1, .p 0 0)], [⟨56, [vI x.kind, vI x.client, vI x.session, vI x.seq, vI x.acked, vI x.op.kind, vS x.op.a, vS x.op.b, vI x.op.n]⟩]⟩ [] [] (by kernel_rfl) on wn ?_
  refine l_nil (q_then_normal ?_)
  cases h1 : decide (mCmd x = 0) with
  | true =>
    have h1 := of_decide_eq_true h1
    refine c_if false rfl ?_
    refine c_skip ?_
    refine q_then_normal ?_
    refine c_seq ?_
    refine c_region ?_
    refine JL_run 7 [] [25, 1] 2 ⟨[(25, .s 1 0 2 2), (1, .p 0 0)], [⟨56, [vI x.kind, vI x.client, vI x.session, vI x.seq, vI x.acked, vI x.op.kind, vS x.op.a, vS x.op.b, vI x.op.n]⟩, ⟨5, [.v (.int .u8 (x.kind % 256)), .v (.int .u8 (x.client % 256))]⟩]⟩ [] [] (by kernel_rfl) on wn ?_
    refine l_bytes 5 (.s 1 0 2 2) [x.kind % 256, x.client % 256] Try.underlying101 Try.underlying5 Try.underlying9 rfl rfl (fun bs w hS => src_loc (q := 2) hS rfl rfl) ?_
    refine JL_run 1 [] [5, 1] 1 ⟨[(5, vS (bstr ([x.kind % 256, x.client % 256]))), (1, .p 0 0)], [⟨56, [vI x.kind, vI x.client, vI x.session, vI x.seq, vI x.acked, vI x.op.kind, vS x.op.a, vS x.op.b, vI x.op.n]⟩]⟩ [] [] (by kernel_rfl) on wn ?_
    refine l_nil (q_then_normal ?_)
    refine c_seq ?_
    refine c_seq ?_
    refine c_region ?_
    refine JL_run 3 [] [29, 5, 1] 1 ⟨[(29, vB (!(decide (x.kind = 2)))), (5, vS (bstr ([x.kind % 256, x.client % 256]))), (1, .p 0 0)], [⟨56, [vI x.kind, vI x.client, vI x.session, vI x.seq, vI x.acked, vI x.op.kind, vS x.op.a, vS x.op.b, vI x.op.n]⟩]⟩ [] [] (by kernel_rfl) on wn ?_
    refine l_nil (q_then_normal ?_)
    cases h2 : decide (x.kind = 2) with
    | true =>
      have h2 := of_decide_eq_true h2
      refine c_if false rfl ?_
      refine c_skip ?_
      refine q_then_normal ?_
      refine c_seq ?_
      refine c_seq ?_
      refine c_region ?_
      refine JL_run 12 [] [42, 39, 36, 34, 32, 5, 1] 1 ⟨[(42, vI x.op.n), (39, vI x.op.kind), (36, vI x.acked), (34, vI x.seq), (32, vI x.session), (5, vS (bstr ([x.kind % 256, x.client % 256]))), (1, .p 0 0)], [⟨56, [vI x.kind, vI x.client, vI x.session, vI x.seq, vI x.acked, vI x.op.kind, vS x.op.a, vS x.op.b, vI x.op.n]⟩]⟩ [] [] (by kernel_rfl) on wn ?_
      have hsub1 : ∀ z, z ∈ ([x.session, x.seq, x.acked, x.op.kind, x.op.n] : List Int) → ∀ w, Rds.sub anyB w z := (fun _ _ _ => trivial)
      refine l_rowlitS (α := Int) 3 [x.session, x.seq, x.acked, x.op.kind, x.op.n] [vI x.session, vI x.seq, vI x.acked, vI x.op.kind, vI x.op.n] hsub1 Try.underlying89 (by kernel_rfl) (by kernel_rfl) (by kernel_rfl) (by kernel_rfl) (by kernel_rfl) rfl (by kernel_rfl) rfl rfl rfl ?_
      intro y1 hx1 hok1
      refine JL_run 2 [] [45, 44, 43, 5, 1] 1 ⟨[(45, vI 0), (44, vI ((y1.n : Nat) : Int)), (43, .v (.slice y1.A y1.n y1.c)), (5, vS (bstr ([x.kind % 256, x.client % 256]))), (1, .p 0 0)], [⟨56, [vI x.kind, vI x.client, vI x.session, vI x.seq, vI x.acked, vI x.op.kind, vS x.op.a, vS x.op.b, vI x.op.n]⟩]⟩ [] [] (by kernel_rfl) on wn ?_
      refine l_nil (q_then_normal ?_)
      refine c_block ?_
      refine c_loop (σ := Nat) (fun i => i ≤ y1.n) (fun i => y1.n - i) (fun i => [rowA 3 y1.A y1.c (y1.xs : List Int)]) (fun i => ⟨[(45, vI ((i : Nat) : Int)), (44, vI ((y1.n : Nat) : Int)), (43, .v (.slice y1.A y1.n y1.c)), (5, vS (encN (bstr ([x.kind % 256, x.client % 256])) (y1.xs.take i))), (1, .p 0 0)], [⟨56, [vI x.kind, vI x.client, vI x.session, vI x.seq, vI x.acked, vI x.op.kind, vS x.op.a, vS x.op.b, vI x.op.n]⟩]⟩) 0 (Nat.zero_le _) (s_start [45, 44, 43, 5, 1] 1 (by simp only [List.take_zero]; kernel_rfl) rfl) ?_
      rintro i hi
      have hn1 : y1.n = 5 := by rw [Sl.n, hx1]; rfl
      have hz := encN_size (bstr ([x.kind % 256, x.client % 256])) (y1.xs.take i)
      have hz2 := mNumber_size (y1.at i)
      have hz3 : (y1.xs.take i).length ≤ 5 := by rw [List.length_take]; unfold Sl.n at hn1; omega
      have hz4 : (bstr ([x.kind % 256, x.client % 256])).size = 2 := rfl
      refine c_seq ?_
      refine c_region ?_
      refine JL_run 1 [] [46, 45, 44, 43, 5, 1] 1 ⟨[(46, vB (decide (((i : Nat) : Int) < ((y1.n : Nat) : Int)))), (45, vI ((i : Nat) : Int)), (44, vI ((y1.n : Nat) : Int)), (43, .v (.slice y1.A y1.n y1.c)), (5, vS (encN (bstr ([x.kind % 256, x.client % 256])) (y1.xs.take i))), (1, .p 0 0)], [⟨56, [vI x.kind, vI x.client, vI x.session, vI x.seq, vI x.acked, vI x.op.kind, vS x.op.a, vS x.op.b, vI x.op.n]⟩]⟩ [] [] (by kernel_rfl) on wn ?_
      refine l_nil (q_then_normal ?_)
      refine c_seq ?_
      cases h3 : decide (((i : Nat) : Int) < ((y1.n : Nat) : Int)) with
      | true =>
        have h3 := of_decide_eq_true h3
        refine c_if true rfl ?_
        refine c_skip ?_
        refine q_then_normal ?_
        refine c_seq ?_
        refine c_block ?_
        refine c_seq ?_
        refine c_region ?_
        refine JL_run 3 [(0, .idx y1.ad i), (1, .ext [.int .i64 (y1.at i)])] [7, 45, 44, 43, 5, 1] 1 ⟨[(7, vI (y1.at i)), (45, vI ((i : Nat) : Int)), (44, vI ((y1.n : Nat) : Int)), (43, .v (.slice y1.A y1.n y1.c)), (5, vS (encN (bstr ([x.kind % 256, x.client % 256])) (y1.xs.take i))), (1, .p 0 0)], [⟨56, [vI x.kind, vI x.client, vI x.session, vI x.seq, vI x.acked, vI x.op.kind, vS x.op.a, vS x.op.b, vI x.op.n]⟩]⟩ [y1.A = some y1.ad, ((i : Nat) : Int) = ((i : Nat) : Int), i < y1.n] [(y1.ad.add (i * 1), [.int .i64 (y1.at i)])] (by kernel_rfl) (oc (Sl.ok.own (s := y1) (i := i) hok1 (by omega)) (oc rfl (oc (by omega) on))) (fun w hk hr => ⟨(Sl.rd.all (s := y1) (i := i) (rowA_rd (B := anyB) (hr _ (.head _)) (fun _ _ => trivial) (fun z hz => hsub1 z (hx1 ▸ hz) _)) (by omega) rfl), trivial⟩) ?_
        refine l_nil (q_then_normal ?_)
        refine c_seq ?_
        refine c_region ?_
        refine JL_run 1 [] [50, 45, 44, 43, 5, 1] 1 ⟨[(50, vI (y1.at i)), (45, vI ((i : Nat) : Int)), (44, vI ((y1.n : Nat) : Int)), (43, .v (.slice y1.A y1.n y1.c)), (5, vS (encN (bstr ([x.kind % 256, x.client % 256])) (y1.xs.take i))), (1, .p 0 0)], [⟨56, [vI x.kind, vI x.client, vI x.session, vI x.seq, vI x.acked, vI x.op.kind, vS x.op.a, vS x.op.b, vI x.op.n]⟩]⟩ [] [] (by kernel_rfl) on wn ?_
        refine l_pure 63 [] [vI (y1.at i)] (.tuple #[.string ((mNumber (y1.at i)).1), .int .i64 ((mNumber (y1.at i)).2)]) Try.call63 rfl rfl rfl rfl (fun bs w hS => codec_Number _ w) ?_
        refine JL_run 5 [] [8, 45, 44, 43, 5, 1] 1 ⟨[(8, vS ((mNumber (y1.at i)).1)), (45, vI ((i : Nat) : Int)), (44, vI ((y1.n : Nat) : Int)), (43, .v (.slice y1.A y1.n y1.c)), (5, vS (encN (bstr ([x.kind % 256, x.client % 256])) (y1.xs.take i))), (1, .p 0 0)], [⟨56, [vI x.kind, vI x.client, vI x.session, vI x.seq, vI x.acked, vI x.op.kind, vS x.op.a, vS x.op.b, vI x.op.n]⟩]⟩ [] [] (by kernel_rfl) on wn ?_
        refine l_nil (q_then_normal ?_)
        refine c_region ?_
        refine JL_run 4 [] [5, 45, 44, 43, 1] 1 ⟨[(5, vS ((encN (bstr ([x.kind % 256, x.client % 256])) (y1.xs.take i)) ++ ((mNumber (y1.at i)).1))), (45, vI ((i : Nat) : Int)), (44, vI ((y1.n : Nat) : Int)), (43, .v (.slice y1.A y1.n y1.c)), (1, .p 0 0)], [⟨56, [vI x.kind, vI x.client, vI x.session, vI x.seq, vI x.acked, vI x.op.kind, vS x.op.a, vS x.op.b, vI x.op.n]⟩]⟩ [(encN (bstr ([x.kind % 256, x.client % 256])) (y1.xs.take i)).size + ((mNumber (y1.at i)).1).size ≤ 9223372036854775807] [] (by kernel_rfl) (oc (by (try simp only [app_size]); omega) on) wn ?_
        refine l_nil (q_block_normal (q_then_normal ?_))
        refine c_region ?_
        refine JL_run 2 [] [45, 5, 44, 43, 1] 1 ⟨[(45, vI (((i : Nat) : Int) + 1)), (5, vS ((encN (bstr ([x.kind % 256, x.client % 256])) (y1.xs.take i)) ++ ((mNumber (y1.at i)).1))), (44, vI ((y1.n : Nat) : Int)), (43, .v (.slice y1.A y1.n y1.c)), (1, .p 0 0)], [⟨56, [vI x.kind, vI x.client, vI x.session, vI x.seq, vI x.acked, vI x.op.kind, vS x.op.a, vS x.op.b, vI x.op.n]⟩]⟩ [inR (((i : Nat) : Int) + 1)] [] (by kernel_rfl) (oc (by unfold inR; omega) on) wn ?_
        refine l_nil (q_loop (x := (i : Nat)) ((i + 1) : Nat) (by omega) (by omega) (s_start [45, 44, 43, 5, 1] 1 (by simp only [← take_snoc (s := y1) (i := i) (show i < y1.n by omega), encN_snoc]; kernel_rfl) rfl))
      | false =>
        have h3 := of_decide_eq_false h3
        refine c_if false rfl ?_
        refine c_exit ?_
        refine q_then_exit (q_then_exit (q_block_hit (q_then_normal ?_)))
        refine c_seq ?_
        refine c_seq ?_
        refine c_region ?_
        refine JL_run 6 [] [63, 60, 5] 0 ⟨[(63, vS x.op.b), (60, vS x.op.a), (5, vS (encN (bstr ([x.kind % 256, x.client % 256])) (y1.xs.take i)))], []⟩ [] [] (by kernel_rfl) on wn ?_
        have hsub2 : ∀ z, z ∈ ([x.op.a, x.op.b] : List ByteArray) → ∀ w, Rds.sub anyB w z := (fun z hz w => by simp only [List.mem_cons, List.not_mem_nil, or_false] at hz; rcases hz with rfl | rfl; exact okx.1; exact okx.2)
        refine l_rowlitS (α := ByteArray) 9 [x.op.a, x.op.b] [vS x.op.a, vS x.op.b] hsub2 Try.underlying40 (by kernel_rfl) (by kernel_rfl) (by kernel_rfl) (by kernel_rfl) (by kernel_rfl) rfl (by kernel_rfl) rfl rfl rfl ?_
        intro y2 hx2 hok2
        refine JL_run 2 [] [66, 65, 64, 5] 0 ⟨[(66, vI 0), (65, vI ((y2.n : Nat) : Int)), (64, .v (.slice y2.A y2.n y2.c)), (5, vS (encN (bstr ([x.kind % 256, x.client % 256])) (y1.xs.take i)))], []⟩ [] [] (by kernel_rfl) on wn ?_
        refine l_nil (q_then_normal ?_)
        refine c_block ?_
        refine c_loop (σ := Nat) (fun j => j ≤ y2.n) (fun j => y2.n - j) (fun j => [rowA 9 y2.A y2.c (y2.xs : List ByteArray), rowA 3 y1.A y1.c (y1.xs : List Int)]) (fun j => ⟨[(66, vI ((j : Nat) : Int)), (65, vI ((y2.n : Nat) : Int)), (64, .v (.slice y2.A y2.n y2.c)), (5, vS (encT (encN (bstr ([x.kind % 256, x.client % 256])) y1.xs) (y2.xs.take j)))], []⟩) 0 (Nat.zero_le _) (s_start [66, 65, 64, 5] 0 (by rw [take_all (by omega)]; simp only [List.take_zero]; kernel_rfl) rfl) ?_
        rintro j hj
        have hn2 : y2.n = 2 := by rw [Sl.n, hx2]; rfl
        have hw := encT_size (encN (bstr ([x.kind % 256, x.client % 256])) y1.xs) (y2.xs.take j)
        have hw1 := encN_size (bstr ([x.kind % 256, x.client % 256])) y1.xs
        have hw2 := mText_size (y2.at j)
        have hw3 : (y2.xs.take j).length ≤ 2 := by rw [List.length_take]; unfold Sl.n at hn2; omega
        have hw5 : y1.xs.length = 5 := hn1
        refine c_seq ?_
        refine c_region ?_
        refine JL_run 1 [] [67, 66, 65, 64, 5] 0 ⟨[(67, vB (decide (((j : Nat) : Int) < ((y2.n : Nat) : Int)))), (66, vI ((j : Nat) : Int)), (65, vI ((y2.n : Nat) : Int)), (64, .v (.slice y2.A y2.n y2.c)), (5, vS (encT (encN (bstr ([x.kind % 256, x.client % 256])) y1.xs) (y2.xs.take j)))], []⟩ [] [] (by kernel_rfl) on wn ?_
        refine l_nil (q_then_normal ?_)
        refine c_seq ?_
        cases h4 : decide (((j : Nat) : Int) < ((y2.n : Nat) : Int)) with
        | true =>
          have h4 := of_decide_eq_true h4
          refine c_if true rfl ?_
          refine c_skip ?_
          refine q_then_normal ?_
          refine c_seq ?_
          refine c_block ?_
          refine c_seq ?_
          refine c_region ?_
          refine JL_run 3 [(0, .idx y2.ad j), (1, .ext [.string (y2.at j)])] [11, 66, 65, 64, 5] 0 ⟨[(11, vS (y2.at j)), (66, vI ((j : Nat) : Int)), (65, vI ((y2.n : Nat) : Int)), (64, .v (.slice y2.A y2.n y2.c)), (5, vS (encT (encN (bstr ([x.kind % 256, x.client % 256])) y1.xs) (y2.xs.take j)))], []⟩ [y2.A = some y2.ad, ((j : Nat) : Int) = ((j : Nat) : Int), j < y2.n] [(y2.ad.add (j * 1), [.string (y2.at j)])] (by kernel_rfl) (oc (Sl.ok.own (s := y2) (i := j) hok2 (by omega)) (oc rfl (oc (by omega) on))) (fun w hk hr => ⟨(Sl.rd.all (s := y2) (i := j) (rowA_rd (B := anyB) (hr _ (.head _)) (fun _ _ => trivial) (fun z hz => hsub2 z (hx2 ▸ hz) _)) (by omega) rfl), trivial⟩) ?_
          refine l_nil (q_then_normal ?_)
          refine c_seq ?_
          refine c_region ?_
          refine JL_run 1 [] [71, 66, 65, 64, 5] 0 ⟨[(71, vS (y2.at j)), (66, vI ((j : Nat) : Int)), (65, vI ((y2.n : Nat) : Int)), (64, .v (.slice y2.A y2.n y2.c)), (5, vS (encT (encN (bstr ([x.kind % 256, x.client % 256])) y1.xs) (y2.xs.take j)))], []⟩ [] [] (by kernel_rfl) on wn ?_
          refine l_pure 64 [] [vS (y2.at j)] (.tuple #[.string ((mText (y2.at j)).1), .int .i64 ((mText (y2.at j)).2)]) Try.call64 rfl rfl rfl rfl (fun bs w hS => codec_Text _ w (Sl.ok.at (s := y2) (i := j) hok2 (by omega))) ?_
          refine JL_run 5 [] [12, 66, 65, 64, 5] 0 ⟨[(12, vS ((mText (y2.at j)).1)), (66, vI ((j : Nat) : Int)), (65, vI ((y2.n : Nat) : Int)), (64, .v (.slice y2.A y2.n y2.c)), (5, vS (encT (encN (bstr ([x.kind % 256, x.client % 256])) y1.xs) (y2.xs.take j)))], []⟩ [] [] (by kernel_rfl) on wn ?_
          refine l_nil (q_then_normal ?_)
          refine c_region ?_
          refine JL_run 4 [] [5, 66, 65, 64] 0 ⟨[(5, vS ((encT (encN (bstr ([x.kind % 256, x.client % 256])) y1.xs) (y2.xs.take j)) ++ ((mText (y2.at j)).1))), (66, vI ((j : Nat) : Int)), (65, vI ((y2.n : Nat) : Int)), (64, .v (.slice y2.A y2.n y2.c))], []⟩ [(encT (encN (bstr ([x.kind % 256, x.client % 256])) y1.xs) (y2.xs.take j)).size + ((mText (y2.at j)).1).size ≤ 9223372036854775807] [] (by kernel_rfl) (oc (by (try simp only [app_size]); omega) on) wn ?_
          refine l_nil (q_block_normal (q_then_normal ?_))
          refine c_region ?_
          refine JL_run 2 [] [66, 5, 65, 64] 0 ⟨[(66, vI (((j : Nat) : Int) + 1)), (5, vS ((encT (encN (bstr ([x.kind % 256, x.client % 256])) y1.xs) (y2.xs.take j)) ++ ((mText (y2.at j)).1))), (65, vI ((y2.n : Nat) : Int)), (64, .v (.slice y2.A y2.n y2.c))], []⟩ [inR (((j : Nat) : Int) + 1)] [] (by kernel_rfl) (oc (by unfold inR; omega) on) wn ?_
          refine l_nil (q_loop (x := (j : Nat)) ((j + 1) : Nat) (by omega) (by omega) (s_start [66, 65, 64, 5] 0 (by simp only [← take_snoc (s := y2) (i := j) (show j < y2.n by omega), encT_snoc]; kernel_rfl) rfl))
        | false =>
          have h4 := of_decide_eq_false h4
          refine c_if false rfl ?_
          refine c_exit ?_
          refine q_then_exit (q_then_exit (q_block_hit (q_then_normal ?_)))
          refine c_seq ?_
          refine c_region ?_
          refine JL_run 3 [] [3, 2] 0 ⟨[(3, vI 0), (2, vS (encT (encN (bstr ([x.kind % 256, x.client % 256])) y1.xs) (y2.xs.take j)))], []⟩ [] [] (by kernel_rfl) on wn ?_
          refine l_nil (q_then_normal ?_)
          refine c_ret ?_
          refine q_ret (.inl rfl) [vS (encT (encN (bstr ([x.kind % 256, x.client % 256])) y1.xs) (y2.xs.take j)), vI 0] rfl (fun bs w hS => ?_)
          refine ⟨?_, hS.kp⟩
          simp only [retOf, den, List.map_cons, List.map_nil]
          have hq : encT (encN (bstr ([x.kind % 256, x.client % 256])) y1.xs) (y2.xs.take j) = encT (encN (bstr ([x.kind % 256, x.client % 256])) [x.session, x.seq, x.acked, x.op.kind, x.op.n]) [x.op.a, x.op.b] := by rw [take_all (by omega), hx1, hx2]
          have hm : mEnc x = (encT (encN (bstr ([x.kind % 256, x.client % 256])) [x.session, x.seq, x.acked, x.op.kind, x.op.n]) [x.op.a, x.op.b], 0) := by unfold mEnc; rw [if_pos (by assumption), if_pos (by assumption)]
          rw [hm, hq]
    | false =>
      have h2 := of_decide_eq_false h2
      refine c_if true rfl ?_
      refine c_seq ?_
      refine c_region ?_
      refine JL_run 3 [] [3, 2] 0 ⟨[(3, vI 0), (2, vS (bstr ([x.kind % 256, x.client % 256])))], []⟩ [] [] (by kernel_rfl) on wn ?_
      refine l_nil (q_then_normal ?_)
      refine c_ret ?_
      refine q_then_ret (q_ret (.inl rfl) [vS (bstr ([x.kind % 256, x.client % 256])), vI 0] rfl (fun bs w hS => ?_))
      refine ⟨?_, hS.kp⟩
      simp only [retOf, den, List.map_cons, List.map_nil]
      have hm : mEnc x = (bstr ([x.kind % 256, x.client % 256]), 0) := by unfold mEnc; rw [if_pos (by assumption), if_neg (by assumption)]
      rw [hm]
  | false =>
    have h1 := of_decide_eq_false h1
    refine c_if true rfl ?_
    refine c_seq ?_
    refine c_region ?_
    refine JL_run 3 [] [3, 2] 0 ⟨[(3, vI (mCmd x)), (2, vS emp)], []⟩ [] [] (by kernel_rfl) on wn ?_
    refine l_nil (q_then_normal ?_)
    refine c_ret ?_
    refine q_then_ret (q_ret (.inl rfl) [vS emp, vI (mCmd x)] rfl (fun bs w hS => ?_))
    refine ⟨?_, hS.kp⟩
    simp only [retOf, den, List.map_cons, List.map_nil]
    have hm : mEnc x = (emp, mCmd x) := by unfold mEnc; rw [if_neg (by assumption)]
    rw [hm]

theorem ref_CommandBytes {B : Nat → Prop} (x : DCommand) (w : World) (hx : Rds.sub B w x) : Calls Try.prog 40 #[.agg #[.int .i64 x.kind, .int .i64 x.client, .int .i64 x.session, .int .i64 x.seq, .int .i64 x.acked, .int .i64 x.op.kind, .string x.op.a, .string x.op.b, .int .i64 x.op.n]] w fun e w' => e = .returned (.tuple #[.string (mEnc x).1, .int .i64 (mEnc x).2]) ∧ Kp [] w w' := by
  have okx := Rds.okof hx
  have hta := mText_size x.op.a
  have htb := mText_size x.op.b
  refine calls_J0 80 Try.func40 rfl rfl [.agg #[.int .i64 x.kind, .int .i64 x.client, .int .i64 x.session, .int .i64 x.seq, .int .i64 x.acked, .int .i64 x.op.kind, .string x.op.a, .string x.op.b, .int .i64 x.op.n]] rfl ?_
  refine c_seq ?_
  refine c_region ?_
  refine JL_run 3 [] [1] 1 ⟨[(1, .p 0 0)], [⟨56, [vI x.kind, vI x.client, vI x.session, vI x.seq, vI x.acked, vI x.op.kind, vS x.op.a, vS x.op.b, vI x.op.n]⟩]⟩ [] [] (by kernel_rfl) on wn ?_
  refine l_nil (q_then_normal ?_)
  refine c_seq ?_
  refine c_region ?_
  refine JL_run 1 [] [14, 1] 1 ⟨[(14, .v (.agg #[.int .i64 x.kind, .int .i64 x.client, .int .i64 x.session, .int .i64 x.seq, .int .i64 x.acked, .int .i64 x.op.kind, .string x.op.a, .string x.op.b, .int .i64 x.op.n])), (1, .p 0 0)], [⟨56, [vI x.kind, vI x.client, vI x.session, vI x.seq, vI x.acked, vI x.op.kind, vS x.op.a, vS x.op.b, vI x.op.n]⟩]⟩ [] [] (by kernel_rfl) on wn ?_
  refine l_pure 30 [] [.v (.agg #[.int .i64 x.kind, .int .i64 x.client, .int .i64 x.session, .int .i64 x.seq, .int .i64 x.acked, .int .i64 x.op.kind, .string x.op.a, .string x.op.b, .int .i64 x.op.n])] (.int .i64 (mCmd x)) Try.call30 rfl rfl rfl rfl (fun bs w hS => ref_CommandFault (B := anyB) x w (Rds.kp hx hS.kp)) ?_
  refine JL_run 1 [] [4, 1] 1 ⟨[(4, vI (mCmd x)), (1, .p 0 0)], [⟨56, [vI x.kind, vI x.client, vI x.session, vI x.seq, vI x.acked, vI x.op.kind, vS x.op.a, vS x.op.b, vI x.op.n]⟩]⟩ [] [] (by kernel_rfl) on wn ?_
  refine l_nil (q_then_normal ?_)
  refine c_seq ?_
  refine c_seq ?_
  refine c_region ?_
  refine JL_run 2 [] [17, 4, 1] 1 ⟨[(17, vB (!(decide (mCmd x = 0)))), (4, vI (mCmd x)), (1, .p 0 0)], [⟨56, [vI x.kind, vI x.client, vI x.session, vI x.seq, vI x.acked, vI x.op.kind, vS x.op.a, vS x.op.b, vI x.op.n]⟩]⟩ [] [] (by kernel_rfl) on wn ?_
  refine l_nil (q_then_normal ?_)
  cases h1 : decide (mCmd x = 0) with
  | true =>
    have h1 := of_decide_eq_true h1
    refine c_if false rfl ?_
    refine c_skip ?_
    refine q_then_normal ?_
    refine c_seq ?_
    refine c_region ?_
    refine JL_run 7 [] [25, 1] 2 ⟨[(25, .s 1 0 2 2), (1, .p 0 0)], [⟨56, [vI x.kind, vI x.client, vI x.session, vI x.seq, vI x.acked, vI x.op.kind, vS x.op.a, vS x.op.b, vI x.op.n]⟩, ⟨5, [.v (.int .u8 (x.kind % 256)), .v (.int .u8 (x.client % 256))]⟩]⟩ [] [] (by kernel_rfl) on wn ?_
    refine l_bytes 5 (.s 1 0 2 2) [x.kind % 256, x.client % 256] Try.underlying101 Try.underlying5 Try.underlying9 rfl rfl (fun bs w hS => src_loc (q := 2) hS rfl rfl) ?_
    refine JL_run 1 [] [5, 1] 1 ⟨[(5, vS (bstr ([x.kind % 256, x.client % 256]))), (1, .p 0 0)], [⟨56, [vI x.kind, vI x.client, vI x.session, vI x.seq, vI x.acked, vI x.op.kind, vS x.op.a, vS x.op.b, vI x.op.n]⟩]⟩ [] [] (by kernel_rfl) on wn ?_
    refine l_nil (q_then_normal ?_)
    refine c_seq ?_
    refine c_seq ?_
    refine c_region ?_
    refine JL_run 3 [] [29, 5, 1] 1 ⟨[(29, vB (decide (x.kind = 2))), (5, vS (bstr ([x.kind % 256, x.client % 256]))), (1, .p 0 0)], [⟨56, [vI x.kind, vI x.client, vI x.session, vI x.seq, vI x.acked, vI x.op.kind, vS x.op.a, vS x.op.b, vI x.op.n]⟩]⟩ [] [] (by kernel_rfl) on wn ?_
    refine l_nil (q_then_normal ?_)
    cases h2 : decide (x.kind = 2) with
    | true =>
      have h2 := of_decide_eq_true h2
      refine c_if true rfl ?_
      refine c_seq ?_
      refine c_region ?_
      refine JL_run 12 [] [41, 38, 35, 33, 31, 5, 1] 1 ⟨[(41, vI x.op.n), (38, vI x.op.kind), (35, vI x.acked), (33, vI x.seq), (31, vI x.session), (5, vS (bstr ([x.kind % 256, x.client % 256]))), (1, .p 0 0)], [⟨56, [vI x.kind, vI x.client, vI x.session, vI x.seq, vI x.acked, vI x.op.kind, vS x.op.a, vS x.op.b, vI x.op.n]⟩]⟩ [] [] (by kernel_rfl) on wn ?_
      have hsub1 : ∀ z, z ∈ ([x.session, x.seq, x.acked, x.op.kind, x.op.n] : List Int) → ∀ w, Rds.sub anyB w z := (fun _ _ _ => trivial)
      refine l_rowlitS (α := Int) 3 [x.session, x.seq, x.acked, x.op.kind, x.op.n] [vI x.session, vI x.seq, vI x.acked, vI x.op.kind, vI x.op.n] hsub1 Try.underlying89 (by kernel_rfl) (by kernel_rfl) (by kernel_rfl) (by kernel_rfl) (by kernel_rfl) rfl (by kernel_rfl) rfl rfl rfl ?_
      intro y1 hx1 hok1
      refine JL_run 1 [] [6, 5, 1] 1 ⟨[(6, .v (.slice y1.A y1.n y1.c)), (5, vS (bstr ([x.kind % 256, x.client % 256]))), (1, .p 0 0)], [⟨56, [vI x.kind, vI x.client, vI x.session, vI x.seq, vI x.acked, vI x.op.kind, vS x.op.a, vS x.op.b, vI x.op.n]⟩]⟩ [] [] (by kernel_rfl) on wn ?_
      refine l_nil (q_then_normal ?_)
      refine c_seq ?_
      refine c_seq ?_
      refine c_region ?_
      refine JL_run 1 [] [7, 6, 5, 1] 1 ⟨[(7, vI 0), (6, .v (.slice y1.A y1.n y1.c)), (5, vS (bstr ([x.kind % 256, x.client % 256]))), (1, .p 0 0)], [⟨56, [vI x.kind, vI x.client, vI x.session, vI x.seq, vI x.acked, vI x.op.kind, vS x.op.a, vS x.op.b, vI x.op.n]⟩]⟩ [] [] (by kernel_rfl) on wn ?_
      refine l_nil (q_then_normal ?_)
      refine c_block ?_
      refine c_loop (σ := Nat) (fun i => i ≤ y1.n) (fun i => y1.n - i) (fun i => [rowA 3 y1.A y1.c (y1.xs : List Int)]) (fun i => ⟨[(7, vI ((i : Nat) : Int)), (6, .v (.slice y1.A y1.n y1.c)), (5, vS (encN (bstr ([x.kind % 256, x.client % 256])) (y1.xs.take i))), (1, .p 0 0)], [⟨56, [vI x.kind, vI x.client, vI x.session, vI x.seq, vI x.acked, vI x.op.kind, vS x.op.a, vS x.op.b, vI x.op.n]⟩]⟩) 0 (Nat.zero_le _) (s_start [7, 6, 5, 1] 1 (by simp only [List.take_zero]; kernel_rfl) rfl) ?_
      rintro i hi
      have hn1 : y1.n = 5 := by rw [Sl.n, hx1]; rfl
      have hz := encN_size (bstr ([x.kind % 256, x.client % 256])) (y1.xs.take i)
      have hz2 := mNumber_size (y1.at i)
      have hz3 : (y1.xs.take i).length ≤ 5 := by rw [List.length_take]; unfold Sl.n at hn1; omega
      have hz4 : (bstr ([x.kind % 256, x.client % 256])).size = 2 := rfl
      refine c_seq ?_
      refine c_seq ?_
      refine c_region ?_
      refine JL_run 4 [] [46, 7, 6, 5, 1] 1 ⟨[(46, vB (decide (((i : Nat) : Int) < ((y1.n : Nat) : Int)))), (7, vI ((i : Nat) : Int)), (6, .v (.slice y1.A y1.n y1.c)), (5, vS (encN (bstr ([x.kind % 256, x.client % 256])) (y1.xs.take i))), (1, .p 0 0)], [⟨56, [vI x.kind, vI x.client, vI x.session, vI x.seq, vI x.acked, vI x.op.kind, vS x.op.a, vS x.op.b, vI x.op.n]⟩]⟩ [] [] (by kernel_rfl) on wn ?_
      refine l_nil (q_then_normal ?_)
      cases h3 : decide (((i : Nat) : Int) < ((y1.n : Nat) : Int)) with
      | true =>
        have h3 := of_decide_eq_true h3
        refine c_if true rfl ?_
        refine c_skip ?_
        refine q_then_normal ?_
        refine c_seq ?_
        refine c_block ?_
        refine c_seq ?_
        refine c_region ?_
        refine JL_run 4 [(2, .idx y1.ad i), (3, .ext [.int .i64 (y1.at i)])] [53, 7, 6, 5, 1] 1 ⟨[(53, vI (y1.at i)), (7, vI ((i : Nat) : Int)), (6, .v (.slice y1.A y1.n y1.c)), (5, vS (encN (bstr ([x.kind % 256, x.client % 256])) (y1.xs.take i))), (1, .p 0 0)], [⟨56, [vI x.kind, vI x.client, vI x.session, vI x.seq, vI x.acked, vI x.op.kind, vS x.op.a, vS x.op.b, vI x.op.n]⟩]⟩ [y1.A = some y1.ad, ((i : Nat) : Int) = ((i : Nat) : Int), i < y1.n] [(y1.ad.add (i * 1), [.int .i64 (y1.at i)])] (by kernel_rfl) (oc (Sl.ok.own (s := y1) (i := i) hok1 (by omega)) (oc rfl (oc (by omega) on))) (fun w hk hr => ⟨(Sl.rd.all (s := y1) (i := i) (rowA_rd (B := anyB) (hr _ (.head _)) (fun _ _ => trivial) (fun z hz => hsub1 z (hx1 ▸ hz) _)) (by omega) rfl), trivial⟩) ?_
        refine l_pure 65 [] [vI (y1.at i)] (.tuple #[.string ((mNumber (y1.at i)).1), .int .i64 ((mNumber (y1.at i)).2)]) Try.call65 rfl rfl rfl rfl (fun bs w hS => ref_NumberBytes _ w) ?_
        refine JL_run 5 [] [8, 7, 6, 5, 1] 1 ⟨[(8, vS ((mNumber (y1.at i)).1)), (7, vI ((i : Nat) : Int)), (6, .v (.slice y1.A y1.n y1.c)), (5, vS (encN (bstr ([x.kind % 256, x.client % 256])) (y1.xs.take i))), (1, .p 0 0)], [⟨56, [vI x.kind, vI x.client, vI x.session, vI x.seq, vI x.acked, vI x.op.kind, vS x.op.a, vS x.op.b, vI x.op.n]⟩]⟩ [] [] (by kernel_rfl) on wn ?_
        refine l_nil (q_then_normal ?_)
        refine c_region ?_
        refine JL_run 4 [] [5, 7, 6, 1] 1 ⟨[(5, vS ((encN (bstr ([x.kind % 256, x.client % 256])) (y1.xs.take i)) ++ ((mNumber (y1.at i)).1))), (7, vI ((i : Nat) : Int)), (6, .v (.slice y1.A y1.n y1.c)), (1, .p 0 0)], [⟨56, [vI x.kind, vI x.client, vI x.session, vI x.seq, vI x.acked, vI x.op.kind, vS x.op.a, vS x.op.b, vI x.op.n]⟩]⟩ [(encN (bstr ([x.kind % 256, x.client % 256])) (y1.xs.take i)).size + ((mNumber (y1.at i)).1).size ≤ 9223372036854775807] [] (by kernel_rfl) (oc (by (try simp only [app_size]); omega) on) wn ?_
        refine l_nil (q_block_normal (q_then_normal ?_))
        refine c_region ?_
        refine JL_run 3 [] [7, 5, 6, 1] 1 ⟨[(7, vI (((i : Nat) : Int) + 1)), (5, vS ((encN (bstr ([x.kind % 256, x.client % 256])) (y1.xs.take i)) ++ ((mNumber (y1.at i)).1))), (6, .v (.slice y1.A y1.n y1.c)), (1, .p 0 0)], [⟨56, [vI x.kind, vI x.client, vI x.session, vI x.seq, vI x.acked, vI x.op.kind, vS x.op.a, vS x.op.b, vI x.op.n]⟩]⟩ [inR (((i : Nat) : Int) + 1)] [] (by kernel_rfl) (oc (by unfold inR; omega) on) wn ?_
        refine l_nil (q_loop (x := (i : Nat)) ((i + 1) : Nat) (by omega) (by omega) (s_start [7, 6, 5, 1] 1 (by simp only [← take_snoc (s := y1) (i := i) (show i < y1.n by omega), encN_snoc]; kernel_rfl) rfl))
      | false =>
        have h3 := of_decide_eq_false h3
        refine c_if false rfl ?_
        refine c_exit ?_
        refine q_then_exit (q_then_exit (q_block_hit (q_then_normal ?_)))
        refine c_seq ?_
        refine c_region ?_
        refine JL_run 3 [] [63, 5, 1] 1 ⟨[(63, vS x.op.a), (5, vS (encN (bstr ([x.kind % 256, x.client % 256])) (y1.xs.take i))), (1, .p 0 0)], [⟨56, [vI x.kind, vI x.client, vI x.session, vI x.seq, vI x.acked, vI x.op.kind, vS x.op.a, vS x.op.b, vI x.op.n]⟩]⟩ [] [] (by kernel_rfl) on wn ?_
        refine l_pure 66 [] [vS x.op.a] (.tuple #[.string ((mText x.op.a).1), .int .i64 ((mText x.op.a).2)]) Try.call66 rfl rfl rfl rfl (fun bs w hS => ref_TextBytes _ w (And.left okx)) ?_
        refine JL_run 5 [] [10, 5, 1] 1 ⟨[(10, vS ((mText x.op.a).1)), (5, vS (encN (bstr ([x.kind % 256, x.client % 256])) (y1.xs.take i))), (1, .p 0 0)], [⟨56, [vI x.kind, vI x.client, vI x.session, vI x.seq, vI x.acked, vI x.op.kind, vS x.op.a, vS x.op.b, vI x.op.n]⟩]⟩ [] [] (by kernel_rfl) on wn ?_
        refine l_nil (q_then_normal ?_)
        refine c_seq ?_
        refine c_region ?_
        refine JL_run 3 [] [70, 10, 5] 0 ⟨[(70, vS x.op.b), (10, vS ((mText x.op.a).1)), (5, vS (encN (bstr ([x.kind % 256, x.client % 256])) (y1.xs.take i)))], []⟩ [] [] (by kernel_rfl) on wn ?_
        refine l_pure 66 [] [vS x.op.b] (.tuple #[.string ((mText x.op.b).1), .int .i64 ((mText x.op.b).2)]) Try.call66 rfl rfl rfl rfl (fun bs w hS => ref_TextBytes _ w (And.right okx)) ?_
        refine JL_run 5 [] [12, 10, 5] 0 ⟨[(12, vS ((mText x.op.b).1)), (10, vS ((mText x.op.a).1)), (5, vS (encN (bstr ([x.kind % 256, x.client % 256])) (y1.xs.take i)))], []⟩ [] [] (by kernel_rfl) on wn ?_
        refine l_nil (q_then_normal ?_)
        refine c_region ?_
        refine JL_run 6 [] [5] 0 ⟨[(5, vS (((encN (bstr ([x.kind % 256, x.client % 256])) (y1.xs.take i)) ++ ((mText x.op.a).1)) ++ ((mText x.op.b).1)))], []⟩ [(encN (bstr ([x.kind % 256, x.client % 256])) (y1.xs.take i)).size + ((mText x.op.a).1).size ≤ 9223372036854775807, ((encN (bstr ([x.kind % 256, x.client % 256])) (y1.xs.take i)) ++ ((mText x.op.a).1)).size + ((mText x.op.b).1).size ≤ 9223372036854775807] [] (by kernel_rfl) (oc (by (try simp only [app_size]); omega) (oc (by (try simp only [app_size]); omega) on)) wn ?_
        refine l_nil (q_then_normal ?_)
        refine c_seq ?_
        refine c_region ?_
        refine JL_run 3 [] [3, 2] 0 ⟨[(3, vI 0), (2, vS (((encN (bstr ([x.kind % 256, x.client % 256])) (y1.xs.take i)) ++ ((mText x.op.a).1)) ++ ((mText x.op.b).1)))], []⟩ [] [] (by kernel_rfl) on wn ?_
        refine l_nil (q_then_normal ?_)
        refine c_ret ?_
        refine q_ret (.inl rfl) [vS (((encN (bstr ([x.kind % 256, x.client % 256])) (y1.xs.take i)) ++ ((mText x.op.a).1)) ++ ((mText x.op.b).1)), vI 0] rfl (fun bs w hS => ?_)
        refine ⟨?_, hS.kp⟩
        simp only [retOf, den, List.map_cons, List.map_nil]
        have hq : ((encN (bstr ([x.kind % 256, x.client % 256])) (y1.xs.take i)) ++ ((mText x.op.a).1)) ++ ((mText x.op.b).1) = encT (encN (bstr ([x.kind % 256, x.client % 256])) [x.session, x.seq, x.acked, x.op.kind, x.op.n]) [x.op.a, x.op.b] := by rw [take_all (by omega), hx1]; rfl
        have hm : mEnc x = (encT (encN (bstr ([x.kind % 256, x.client % 256])) [x.session, x.seq, x.acked, x.op.kind, x.op.n]) [x.op.a, x.op.b], 0) := by unfold mEnc; rw [if_pos (by assumption), if_pos (by assumption)]
        rw [hm, hq]
    | false =>
      have h2 := of_decide_eq_false h2
      refine c_if false rfl ?_
      refine c_skip ?_
      refine q_then_normal ?_
      refine c_seq ?_
      refine c_region ?_
      refine JL_run 3 [] [3, 2] 0 ⟨[(3, vI 0), (2, vS (bstr ([x.kind % 256, x.client % 256])))], []⟩ [] [] (by kernel_rfl) on wn ?_
      refine l_nil (q_then_normal ?_)
      refine c_ret ?_
      refine q_ret (.inl rfl) [vS (bstr ([x.kind % 256, x.client % 256])), vI 0] rfl (fun bs w hS => ?_)
      refine ⟨?_, hS.kp⟩
      simp only [retOf, den, List.map_cons, List.map_nil]
      have hm : mEnc x = (bstr ([x.kind % 256, x.client % 256]), 0) := by unfold mEnc; rw [if_pos (by assumption), if_neg (by assumption)]
      rw [hm]
  | false =>
    have h1 := of_decide_eq_false h1
    refine c_if true rfl ?_
    refine c_seq ?_
    refine c_region ?_
    refine JL_run 3 [] [3, 2] 0 ⟨[(3, vI (mCmd x)), (2, vS emp)], []⟩ [] [] (by kernel_rfl) on wn ?_
    refine l_nil (q_then_normal ?_)
    refine c_ret ?_
    refine q_then_ret (q_ret (.inl rfl) [vS emp, vI (mCmd x)] rfl (fun bs w hS => ?_))
    refine ⟨?_, hS.kp⟩
    simp only [retOf, den, List.map_cons, List.map_nil]
    have hm : mEnc x = (emp, mCmd x) := by unfold mEnc; rw [if_neg (by assumption)]
    rw [hm]

theorem law_CommandEncodes {B : Nat → Prop} (x : DCommand) (w : World) (hx : Rds.sub B w x) : Calls Try.prog 14 #[.agg #[.int .i64 x.kind, .int .i64 x.client, .int .i64 x.session, .int .i64 x.seq, .int .i64 x.acked, .int .i64 x.op.kind, .string x.op.a, .string x.op.b, .int .i64 x.op.n]] w fun e w' => e = .returned (.bool true) ∧ Kp [] w w' := by
  have okx := Rds.okof hx
  refine calls_J0 25 Try.func14 rfl rfl [.agg #[.int .i64 x.kind, .int .i64 x.client, .int .i64 x.session, .int .i64 x.seq, .int .i64 x.acked, .int .i64 x.op.kind, .string x.op.a, .string x.op.b, .int .i64 x.op.n]] rfl ?_
  refine c_seq ?_
  refine c_region ?_
  refine JL_run 2 [] [1] 1 ⟨[(1, .p 0 0)], [⟨56, [vI x.kind, vI x.client, vI x.session, vI x.seq, vI x.acked, vI x.op.kind, vS x.op.a, vS x.op.b, vI x.op.n]⟩]⟩ [] [] (by kernel_rfl) on wn ?_
  refine l_nil (q_then_normal ?_)
  refine c_seq ?_
  refine c_region ?_
  refine JL_run 1 [] [8, 1] 1 ⟨[(8, .v (.agg #[.int .i64 x.kind, .int .i64 x.client, .int .i64 x.session, .int .i64 x.seq, .int .i64 x.acked, .int .i64 x.op.kind, .string x.op.a, .string x.op.b, .int .i64 x.op.n])), (1, .p 0 0)], [⟨56, [vI x.kind, vI x.client, vI x.session, vI x.seq, vI x.acked, vI x.op.kind, vS x.op.a, vS x.op.b, vI x.op.n]⟩]⟩ [] [] (by kernel_rfl) on wn ?_
  refine l_pure 39 [] [.v (.agg #[.int .i64 x.kind, .int .i64 x.client, .int .i64 x.session, .int .i64 x.seq, .int .i64 x.acked, .int .i64 x.op.kind, .string x.op.a, .string x.op.b, .int .i64 x.op.n])] (.tuple #[.string ((mEnc x).1), .int .i64 ((mEnc x).2)]) Try.call39 rfl rfl rfl rfl (fun bs w hS => command_Encode (B := anyB) x w (Rds.kp hx hS.kp)) ?_
  refine JL_run 5 [] [4, 3, 1] 1 ⟨[(4, vI ((mEnc x).2)), (3, vS ((mEnc x).1)), (1, .p 0 0)], [⟨56, [vI x.kind, vI x.client, vI x.session, vI x.seq, vI x.acked, vI x.op.kind, vS x.op.a, vS x.op.b, vI x.op.n]⟩]⟩ [] [] (by kernel_rfl) on wn ?_
  refine l_nil (q_then_normal ?_)
  refine c_seq ?_
  refine c_region ?_
  refine JL_run 1 [] [13, 4, 3] 0 ⟨[(13, .v (.agg #[.int .i64 x.kind, .int .i64 x.client, .int .i64 x.session, .int .i64 x.seq, .int .i64 x.acked, .int .i64 x.op.kind, .string x.op.a, .string x.op.b, .int .i64 x.op.n])), (4, vI ((mEnc x).2)), (3, vS ((mEnc x).1))], []⟩ [] [] (by kernel_rfl) on wn ?_
  refine l_pure 40 [] [.v (.agg #[.int .i64 x.kind, .int .i64 x.client, .int .i64 x.session, .int .i64 x.seq, .int .i64 x.acked, .int .i64 x.op.kind, .string x.op.a, .string x.op.b, .int .i64 x.op.n])] (.tuple #[.string ((mEnc x).1), .int .i64 ((mEnc x).2)]) Try.call40 rfl rfl rfl rfl (fun bs w hS => ref_CommandBytes (B := anyB) x w (Rds.kp hx hS.kp)) ?_
  refine JL_run 5 [] [6, 5, 4, 3] 0 ⟨[(6, vI ((mEnc x).2)), (5, vS ((mEnc x).1)), (4, vI ((mEnc x).2)), (3, vS ((mEnc x).1))], []⟩ [] [] (by kernel_rfl) on wn ?_
  refine l_nil (q_then_normal ?_)
  refine c_seq ?_
  refine c_region ?_
  refine JL_run 4 [] [20, 6, 4] 0 ⟨[(20, vB (decide (((mEnc x).1) = ((mEnc x).1)))), (6, vI ((mEnc x).2)), (4, vI ((mEnc x).2))], []⟩ [] [] (by kernel_rfl) on wn ?_
  cases h1 : decide (((mEnc x).1) = ((mEnc x).1)) with
  | true =>
    have h1 := of_decide_eq_true h1
    refine JL_run 5 [] [2] 0 ⟨[(2, vB (decide ((mEnc x).2 = (mEnc x).2)))], []⟩ [] [] (by kernel_rfl) on wn ?_
    refine l_nil (q_then_normal ?_)
    refine c_ret ?_
    refine q_ret (.inl rfl) [vB (decide ((mEnc x).2 = (mEnc x).2))] rfl (fun bs w hS => ?_)
    refine ⟨?_, hS.kp⟩
    simp [retOf, den]
  | false =>
    have h1 := of_decide_eq_false h1
    exact absurd rfl h1

end Go.Proofs.Ytececkgjacccmab.W
