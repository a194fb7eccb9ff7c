/-
  The functions that the law CustomerRequests reaches, walked: each returns what its model says.
  Conditions: those that each theorem states.
-/
import Derived.Test.YtececkgjacccmacWCustomerRequestsa
set_option linter.unusedVariables false
set_option linter.unusedSimpArgs false
set_option maxRecDepth 100000
namespace Go.Proofs.Ytececkgjacccmac.W
open Go.Proofs.Ytececkgjacccmac.Fw Go.RowKit

theorem command_Encode {B : Nat → Prop} (x : DCommand) (w : World) (hx : Rds.sub B w x) : Calls Try.prog 69 #[.agg #[.int .i64 x.kind, .int .i64 x.client, .int .i64 x.session, .int .i64 x.seq, .int .i64 x.acked, .int .i64 x.op.kind, .string x.op.a, .string x.op.b, .int .i64 x.op.n]] w fun e w' => e = .returned (.tuple #[.string (mEnc x).1, .int .i64 (mEnc x).2]) ∧ Kp [] w w' := by
  have okx := Rds.okof hx
  have hta := mText_size x.op.a
  have htb := mText_size x.op.b
  refine calls_J0 80 Try.func69 rfl rfl [.agg #[.int .i64 x.kind, .int .i64 x.client, .int .i64 x.session, .int .i64 x.seq, .int .i64 x.acked, .int .i64 x.op.kind, .string x.op.a, .string x.op.b, .int .i64 x.op.n]] rfl ?_
  refine c_seq ?_
  refine c_region ?_
  refine JL_run 3 [] [1] 1 ⟨[(1, .p 0 0)], [⟨63, [vI x.kind, vI x.client, vI x.session, vI x.seq, vI x.acked, vI x.op.kind, vS x.op.a, vS x.op.b, vI x.op.n]⟩]⟩ [] [] (by kernel_rfl) on wn ?_
  refine l_nil (q_then_normal ?_)
  refine c_seq ?_
  refine c_seq ?_
  refine c_region ?_
  refine JL_run 1 [] [14, 1] 1 ⟨[(14, .v (.agg #[.int .i64 x.kind, .int .i64 x.client, .int .i64 x.session, .int .i64 x.seq, .int .i64 x.acked, .int .i64 x.op.kind, .string x.op.a, .string x.op.b, .int .i64 x.op.n])), (1, .p 0 0)], [⟨63, [vI x.kind, vI x.client, vI x.session, vI x.seq, vI x.acked, vI x.op.kind, vS x.op.a, vS x.op.b, vI x.op.n]⟩]⟩ [] [] (by kernel_rfl) on wn ?_
  refine l_pure 82 [] [.v (.agg #[.int .i64 x.kind, .int .i64 x.client, .int .i64 x.session, .int .i64 x.seq, .int .i64 x.acked, .int .i64 x.op.kind, .string x.op.a, .string x.op.b, .int .i64 x.op.n])] (.int .i64 (mCmd x)) Try.call82 rfl rfl rfl rfl (fun bs w hS => command_Check (B := anyB) x w (Rds.kp hx hS.kp)) ?_
  refine JL_run 1 [] [4, 1] 1 ⟨[(4, vI (mCmd x)), (1, .p 0 0)], [⟨63, [vI x.kind, vI x.client, vI x.session, vI x.seq, vI x.acked, vI x.op.kind, vS x.op.a, vS x.op.b, vI x.op.n]⟩]⟩ [] [] (by kernel_rfl) on wn ?_
  refine l_nil (q_then_normal ?_)
  refine c_seq ?_
  refine c_region ?_
  refine JL_run 2 [] [17, 4, 1] 1 ⟨[(17, vB (!(decide (mCmd x = 0)))), (4, vI (mCmd x)), (1, .p 0 0)], [⟨63, [vI x.kind, vI x.client, vI x.session, vI x.seq, vI x.acked, vI x.op.kind, vS x.op.a, vS x.op.b, vI x.op.n]⟩]⟩ [] [] (by kernel_rfl) on wn ?_
  refine l_nil (q_then_normal ?_)
  cases h1 : decide (mCmd x = 0) with
  | true =>
    have h1 := of_decide_eq_true h1
    refine c_if false rfl ?_
    refine c_skip ?_
    refine q_then_normal ?_
    refine c_seq ?_
    refine c_region ?_
    refine JL_run 7 [] [25, 1] 2 ⟨[(25, .s 1 0 2 2), (1, .p 0 0)], [⟨63, [vI x.kind, vI x.client, vI x.session, vI x.seq, vI x.acked, vI x.op.kind, vS x.op.a, vS x.op.b, vI x.op.n]⟩, ⟨5, [.v (.int .u8 (x.kind % 256)), .v (.int .u8 (x.client % 256))]⟩]⟩ [] [] (by kernel_rfl) on wn ?_
    refine l_bytes 5 (.s 1 0 2 2) [x.kind % 256, x.client % 256] Try.underlying137 Try.underlying5 Try.underlying9 rfl rfl (fun bs w hS => src_loc (q := 2) hS rfl rfl) ?_
    refine JL_run 1 [] [5, 1] 1 ⟨[(5, vS (bstr ([x.kind % 256, x.client % 256]))), (1, .p 0 0)], [⟨63, [vI x.kind, vI x.client, vI x.session, vI x.seq, vI x.acked, vI x.op.kind, vS x.op.a, vS x.op.b, vI x.op.n]⟩]⟩ [] [] (by kernel_rfl) on wn ?_
    refine l_nil (q_then_normal ?_)
    refine c_seq ?_
    refine c_seq ?_
    refine c_region ?_
    refine JL_run 3 [] [29, 5, 1] 1 ⟨[(29, vB (!(decide (x.kind = 2)))), (5, vS (bstr ([x.kind % 256, x.client % 256]))), (1, .p 0 0)], [⟨63, [vI x.kind, vI x.client, vI x.session, vI x.seq, vI x.acked, vI x.op.kind, vS x.op.a, vS x.op.b, vI x.op.n]⟩]⟩ [] [] (by kernel_rfl) on wn ?_
    refine l_nil (q_then_normal ?_)
    cases h2 : decide (x.kind = 2) with
    | true =>
      have h2 := of_decide_eq_true h2
      refine c_if false rfl ?_
      refine c_skip ?_
      refine q_then_normal ?_
      refine c_seq ?_
      refine c_seq ?_
      refine c_region ?_
      refine JL_run 12 [] [42, 39, 36, 34, 32, 5, 1] 1 ⟨[(42, vI x.op.n), (39, vI x.op.kind), (36, vI x.acked), (34, vI x.seq), (32, vI x.session), (5, vS (bstr ([x.kind % 256, x.client % 256]))), (1, .p 0 0)], [⟨63, [vI x.kind, vI x.client, vI x.session, vI x.seq, vI x.acked, vI x.op.kind, vS x.op.a, vS x.op.b, vI x.op.n]⟩]⟩ [] [] (by kernel_rfl) on wn ?_
      have hsub1 : ∀ z, z ∈ ([x.session, x.seq, x.acked, x.op.kind, x.op.n] : List Int) → ∀ w, Rds.sub anyB w z := (fun _ _ _ => trivial)
      refine l_rowlitS (α := Int) 3 [x.session, x.seq, x.acked, x.op.kind, x.op.n] [vI x.session, vI x.seq, vI x.acked, vI x.op.kind, vI x.op.n] hsub1 Try.underlying87 (by kernel_rfl) (by kernel_rfl) (by kernel_rfl) (by kernel_rfl) (by kernel_rfl) rfl (by kernel_rfl) rfl rfl rfl ?_
      intro y1 hx1 hok1
      refine JL_run 2 [] [45, 44, 43, 5, 1] 1 ⟨[(45, vI 0), (44, vI ((y1.n : Nat) : Int)), (43, .v (.slice y1.A y1.n y1.c)), (5, vS (bstr ([x.kind % 256, x.client % 256]))), (1, .p 0 0)], [⟨63, [vI x.kind, vI x.client, vI x.session, vI x.seq, vI x.acked, vI x.op.kind, vS x.op.a, vS x.op.b, vI x.op.n]⟩]⟩ [] [] (by kernel_rfl) on wn ?_
      refine l_nil (q_then_normal ?_)
      refine c_block ?_
      refine c_loop (σ := Nat) (fun i => i ≤ y1.n) (fun i => y1.n - i) (fun i => [rowA 3 y1.A y1.c (y1.xs : List Int)]) (fun i => ⟨[(45, vI ((i : Nat) : Int)), (44, vI ((y1.n : Nat) : Int)), (43, .v (.slice y1.A y1.n y1.c)), (5, vS (encN (bstr ([x.kind % 256, x.client % 256])) (y1.xs.take i))), (1, .p 0 0)], [⟨63, [vI x.kind, vI x.client, vI x.session, vI x.seq, vI x.acked, vI x.op.kind, vS x.op.a, vS x.op.b, vI x.op.n]⟩]⟩) 0 (Nat.zero_le _) (s_start [45, 44, 43, 5, 1] 1 (by simp only [List.take_zero]; kernel_rfl) rfl) ?_
      rintro i hi
      have hn1 : y1.n = 5 := by rw [Sl.n, hx1]; rfl
      have hz := encN_size (bstr ([x.kind % 256, x.client % 256])) (y1.xs.take i)
      have hz2 := mNumber_size (y1.at i)
      have hz3 : (y1.xs.take i).length ≤ 5 := by rw [List.length_take]; unfold Sl.n at hn1; omega
      have hz4 : (bstr ([x.kind % 256, x.client % 256])).size = 2 := rfl
      refine c_seq ?_
      refine c_region ?_
      refine JL_run 1 [] [46, 45, 44, 43, 5, 1] 1 ⟨[(46, vB (decide (((i : Nat) : Int) < ((y1.n : Nat) : Int)))), (45, vI ((i : Nat) : Int)), (44, vI ((y1.n : Nat) : Int)), (43, .v (.slice y1.A y1.n y1.c)), (5, vS (encN (bstr ([x.kind % 256, x.client % 256])) (y1.xs.take i))), (1, .p 0 0)], [⟨63, [vI x.kind, vI x.client, vI x.session, vI x.seq, vI x.acked, vI x.op.kind, vS x.op.a, vS x.op.b, vI x.op.n]⟩]⟩ [] [] (by kernel_rfl) on wn ?_
      refine l_nil (q_then_normal ?_)
      refine c_seq ?_
      cases h3 : decide (((i : Nat) : Int) < ((y1.n : Nat) : Int)) with
      | true =>
        have h3 := of_decide_eq_true h3
        refine c_if true rfl ?_
        refine c_skip ?_
        refine q_then_normal ?_
        refine c_seq ?_
        refine c_block ?_
        refine c_seq ?_
        refine c_region ?_
        refine JL_run 3 [(0, .idx y1.ad i), (1, .ext [.int .i64 (y1.at i)])] [7, 45, 44, 43, 5, 1] 1 ⟨[(7, vI (y1.at i)), (45, vI ((i : Nat) : Int)), (44, vI ((y1.n : Nat) : Int)), (43, .v (.slice y1.A y1.n y1.c)), (5, vS (encN (bstr ([x.kind % 256, x.client % 256])) (y1.xs.take i))), (1, .p 0 0)], [⟨63, [vI x.kind, vI x.client, vI x.session, vI x.seq, vI x.acked, vI x.op.kind, vS x.op.a, vS x.op.b, vI x.op.n]⟩]⟩ [y1.A = some y1.ad, ((i : Nat) : Int) = ((i : Nat) : Int), i < y1.n] [(y1.ad.add (i * 1), [.int .i64 (y1.at i)])] (by kernel_rfl) (oc (Sl.ok.own (s := y1) (i := i) hok1 (by omega)) (oc rfl (oc (by omega) on))) (fun w hk hr => ⟨(Sl.rd.all (s := y1) (i := i) (rowA_rd (B := anyB) (hr _ (.head _)) (fun _ _ => trivial) (fun z hz => hsub1 z (hx1 ▸ hz) _)) (by omega) rfl), trivial⟩) ?_
        refine l_nil (q_then_normal ?_)
        refine c_seq ?_
        refine c_region ?_
        refine JL_run 1 [] [50, 45, 44, 43, 5, 1] 1 ⟨[(50, vI (y1.at i)), (45, vI ((i : Nat) : Int)), (44, vI ((y1.n : Nat) : Int)), (43, .v (.slice y1.A y1.n y1.c)), (5, vS (encN (bstr ([x.kind % 256, x.client % 256])) (y1.xs.take i))), (1, .p 0 0)], [⟨63, [vI x.kind, vI x.client, vI x.session, vI x.seq, vI x.acked, vI x.op.kind, vS x.op.a, vS x.op.b, vI x.op.n]⟩]⟩ [] [] (by kernel_rfl) on wn ?_
        refine l_pure 103 [] [vI (y1.at i)] (.tuple #[.string ((mNumber (y1.at i)).1), .int .i64 ((mNumber (y1.at i)).2)]) Try.call103 rfl rfl rfl rfl (fun bs w hS => codec_Number _ w) ?_
        refine JL_run 5 [] [8, 45, 44, 43, 5, 1] 1 ⟨[(8, vS ((mNumber (y1.at i)).1)), (45, vI ((i : Nat) : Int)), (44, vI ((y1.n : Nat) : Int)), (43, .v (.slice y1.A y1.n y1.c)), (5, vS (encN (bstr ([x.kind % 256, x.client % 256])) (y1.xs.take i))), (1, .p 0 0)], [⟨63, [vI x.kind, vI x.client, vI x.session, vI x.seq, vI x.acked, vI x.op.kind, vS x.op.a, vS x.op.b, vI x.op.n]⟩]⟩ [] [] (by kernel_rfl) on wn ?_
        refine l_nil (q_then_normal ?_)
        refine c_region ?_
        refine JL_run 4 [] [5, 45, 44, 43, 1] 1 ⟨[(5, vS ((encN (bstr ([x.kind % 256, x.client % 256])) (y1.xs.take i)) ++ ((mNumber (y1.at i)).1))), (45, vI ((i : Nat) : Int)), (44, vI ((y1.n : Nat) : Int)), (43, .v (.slice y1.A y1.n y1.c)), (1, .p 0 0)], [⟨63, [vI x.kind, vI x.client, vI x.session, vI x.seq, vI x.acked, vI x.op.kind, vS x.op.a, vS x.op.b, vI x.op.n]⟩]⟩ [(encN (bstr ([x.kind % 256, x.client % 256])) (y1.xs.take i)).size + ((mNumber (y1.at i)).1).size ≤ 9223372036854775807] [] (by kernel_rfl) (oc (by (try simp only [app_size]); omega) on) wn ?_
        refine l_nil (q_block_normal (q_then_normal ?_))
        refine c_region ?_
        refine JL_run 2 [] [45, 5, 44, 43, 1] 1 ⟨[(45, vI (((i : Nat) : Int) + 1)), (5, vS ((encN (bstr ([x.kind % 256, x.client % 256])) (y1.xs.take i)) ++ ((mNumber (y1.at i)).1))), (44, vI ((y1.n : Nat) : Int)), (43, .v (.slice y1.A y1.n y1.c)), (1, .p 0 0)], [⟨63, [vI x.kind, vI x.client, vI x.session, vI x.seq, vI x.acked, vI x.op.kind, vS x.op.a, vS x.op.b, vI x.op.n]⟩]⟩ [inR (((i : Nat) : Int) + 1)] [] (by kernel_rfl) (oc (by unfold inR; omega) on) wn ?_
        refine l_nil (q_loop (x := (i : Nat)) ((i + 1) : Nat) (by omega) (by omega) (s_start [45, 44, 43, 5, 1] 1 (by simp only [← take_snoc (s := y1) (i := i) (show i < y1.n by omega), encN_snoc]; kernel_rfl) rfl))
      | false =>
        have h3 := of_decide_eq_false h3
        refine c_if false rfl ?_
        refine c_exit ?_
        refine q_then_exit (q_then_exit (q_block_hit (q_then_normal ?_)))
        refine c_seq ?_
        refine c_seq ?_
        refine c_region ?_
        refine JL_run 6 [] [63, 60, 5] 0 ⟨[(63, vS x.op.b), (60, vS x.op.a), (5, vS (encN (bstr ([x.kind % 256, x.client % 256])) (y1.xs.take i)))], []⟩ [] [] (by kernel_rfl) on wn ?_
        have hsub2 : ∀ z, z ∈ ([x.op.a, x.op.b] : List ByteArray) → ∀ w, Rds.sub anyB w z := (fun z hz w => by simp only [List.mem_cons, List.not_mem_nil, or_false] at hz; rcases hz with rfl | rfl; exact okx.1; exact okx.2)
        refine l_rowlitS (α := ByteArray) 9 [x.op.a, x.op.b] [vS x.op.a, vS x.op.b] hsub2 Try.underlying72 (by kernel_rfl) (by kernel_rfl) (by kernel_rfl) (by kernel_rfl) (by kernel_rfl) rfl (by kernel_rfl) rfl rfl rfl ?_
        intro y2 hx2 hok2
        refine JL_run 2 [] [66, 65, 64, 5] 0 ⟨[(66, vI 0), (65, vI ((y2.n : Nat) : Int)), (64, .v (.slice y2.A y2.n y2.c)), (5, vS (encN (bstr ([x.kind % 256, x.client % 256])) (y1.xs.take i)))], []⟩ [] [] (by kernel_rfl) on wn ?_
        refine l_nil (q_then_normal ?_)
        refine c_block ?_
        refine c_loop (σ := Nat) (fun j => j ≤ y2.n) (fun j => y2.n - j) (fun j => [rowA 9 y2.A y2.c (y2.xs : List ByteArray), rowA 3 y1.A y1.c (y1.xs : List Int)]) (fun j => ⟨[(66, vI ((j : Nat) : Int)), (65, vI ((y2.n : Nat) : Int)), (64, .v (.slice y2.A y2.n y2.c)), (5, vS (encT (encN (bstr ([x.kind % 256, x.client % 256])) y1.xs) (y2.xs.take j)))], []⟩) 0 (Nat.zero_le _) (s_start [66, 65, 64, 5] 0 (by rw [take_all (by omega)]; simp only [List.take_zero]; kernel_rfl) rfl) ?_
        rintro j hj
        have hn2 : y2.n = 2 := by rw [Sl.n, hx2]; rfl
        have hw := encT_size (encN (bstr ([x.kind % 256, x.client % 256])) y1.xs) (y2.xs.take j)
        have hw1 := encN_size (bstr ([x.kind % 256, x.client % 256])) y1.xs
        have hw2 := mText_size (y2.at j)
        have hw3 : (y2.xs.take j).length ≤ 2 := by rw [List.length_take]; unfold Sl.n at hn2; omega
        have hw5 : y1.xs.length = 5 := hn1
        refine c_seq ?_
        refine c_region ?_
        refine JL_run 1 [] [67, 66, 65, 64, 5] 0 ⟨[(67, vB (decide (((j : Nat) : Int) < ((y2.n : Nat) : Int)))), (66, vI ((j : Nat) : Int)), (65, vI ((y2.n : Nat) : Int)), (64, .v (.slice y2.A y2.n y2.c)), (5, vS (encT (encN (bstr ([x.kind % 256, x.client % 256])) y1.xs) (y2.xs.take j)))], []⟩ [] [] (by kernel_rfl) on wn ?_
        refine l_nil (q_then_normal ?_)
        refine c_seq ?_
        cases h4 : decide (((j : Nat) : Int) < ((y2.n : Nat) : Int)) with
        | true =>
          have h4 := of_decide_eq_true h4
          refine c_if true rfl ?_
          refine c_skip ?_
          refine q_then_normal ?_
          refine c_seq ?_
          refine c_block ?_
          refine c_seq ?_
          refine c_region ?_
          refine JL_run 3 [(0, .idx y2.ad j), (1, .ext [.string (y2.at j)])] [11, 66, 65, 64, 5] 0 ⟨[(11, vS (y2.at j)), (66, vI ((j : Nat) : Int)), (65, vI ((y2.n : Nat) : Int)), (64, .v (.slice y2.A y2.n y2.c)), (5, vS (encT (encN (bstr ([x.kind % 256, x.client % 256])) y1.xs) (y2.xs.take j)))], []⟩ [y2.A = some y2.ad, ((j : Nat) : Int) = ((j : Nat) : Int), j < y2.n] [(y2.ad.add (j * 1), [.string (y2.at j)])] (by kernel_rfl) (oc (Sl.ok.own (s := y2) (i := j) hok2 (by omega)) (oc rfl (oc (by omega) on))) (fun w hk hr => ⟨(Sl.rd.all (s := y2) (i := j) (rowA_rd (B := anyB) (hr _ (.head _)) (fun _ _ => trivial) (fun z hz => hsub2 z (hx2 ▸ hz) _)) (by omega) rfl), trivial⟩) ?_
          refine l_nil (q_then_normal ?_)
          refine c_seq ?_
          refine c_region ?_
          refine JL_run 1 [] [71, 66, 65, 64, 5] 0 ⟨[(71, vS (y2.at j)), (66, vI ((j : Nat) : Int)), (65, vI ((y2.n : Nat) : Int)), (64, .v (.slice y2.A y2.n y2.c)), (5, vS (encT (encN (bstr ([x.kind % 256, x.client % 256])) y1.xs) (y2.xs.take j)))], []⟩ [] [] (by kernel_rfl) on wn ?_
          refine l_pure 104 [] [vS (y2.at j)] (.tuple #[.string ((mText (y2.at j)).1), .int .i64 ((mText (y2.at j)).2)]) Try.call104 rfl rfl rfl rfl (fun bs w hS => codec_Text _ w (Sl.ok.at (s := y2) (i := j) hok2 (by omega))) ?_
          refine JL_run 5 [] [12, 66, 65, 64, 5] 0 ⟨[(12, vS ((mText (y2.at j)).1)), (66, vI ((j : Nat) : Int)), (65, vI ((y2.n : Nat) : Int)), (64, .v (.slice y2.A y2.n y2.c)), (5, vS (encT (encN (bstr ([x.kind % 256, x.client % 256])) y1.xs) (y2.xs.take j)))], []⟩ [] [] (by kernel_rfl) on wn ?_
          refine l_nil (q_then_normal ?_)
          refine c_region ?_
          refine JL_run 4 [] [5, 66, 65, 64] 0 ⟨[(5, vS ((encT (encN (bstr ([x.kind % 256, x.client % 256])) y1.xs) (y2.xs.take j)) ++ ((mText (y2.at j)).1))), (66, vI ((j : Nat) : Int)), (65, vI ((y2.n : Nat) : Int)), (64, .v (.slice y2.A y2.n y2.c))], []⟩ [(encT (encN (bstr ([x.kind % 256, x.client % 256])) y1.xs) (y2.xs.take j)).size + ((mText (y2.at j)).1).size ≤ 9223372036854775807] [] (by kernel_rfl) (oc (by (try simp only [app_size]); omega) on) wn ?_
          refine l_nil (q_block_normal (q_then_normal ?_))
          refine c_region ?_
          refine JL_run 2 [] [66, 5, 65, 64] 0 ⟨[(66, vI (((j : Nat) : Int) + 1)), (5, vS ((encT (encN (bstr ([x.kind % 256, x.client % 256])) y1.xs) (y2.xs.take j)) ++ ((mText (y2.at j)).1))), (65, vI ((y2.n : Nat) : Int)), (64, .v (.slice y2.A y2.n y2.c))], []⟩ [inR (((j : Nat) : Int) + 1)] [] (by kernel_rfl) (oc (by unfold inR; omega) on) wn ?_
          refine l_nil (q_loop (x := (j : Nat)) ((j + 1) : Nat) (by omega) (by omega) (s_start [66, 65, 64, 5] 0 (by simp only [← take_snoc (s := y2) (i := j) (show j < y2.n by omega), encT_snoc]; kernel_rfl) rfl))
        | false =>
          have h4 := of_decide_eq_false h4
          refine c_if false rfl ?_
          refine c_exit ?_
          refine q_then_exit (q_then_exit (q_block_hit (q_then_normal ?_)))
          refine c_seq ?_
          refine c_region ?_
          refine JL_run 3 [] [3, 2] 0 ⟨[(3, vI 0), (2, vS (encT (encN (bstr ([x.kind % 256, x.client % 256])) y1.xs) (y2.xs.take j)))], []⟩ [] [] (by kernel_rfl) on wn ?_
          refine l_nil (q_then_normal ?_)
          refine c_ret ?_
          refine q_ret (.inl rfl) [vS (encT (encN (bstr ([x.kind % 256, x.client % 256])) y1.xs) (y2.xs.take j)), vI 0] rfl (fun bs w hS => ?_)
          refine ⟨?_, hS.kp⟩
          simp only [retOf, den, List.map_cons, List.map_nil]
          have hq : encT (encN (bstr ([x.kind % 256, x.client % 256])) y1.xs) (y2.xs.take j) = encT (encN (bstr ([x.kind % 256, x.client % 256])) [x.session, x.seq, x.acked, x.op.kind, x.op.n]) [x.op.a, x.op.b] := by rw [take_all (by omega), hx1, hx2]
          have hm : mEnc x = (encT (encN (bstr ([x.kind % 256, x.client % 256])) [x.session, x.seq, x.acked, x.op.kind, x.op.n]) [x.op.a, x.op.b], 0) := by unfold mEnc; rw [if_pos (by assumption), if_pos (by assumption)]
          rw [hm, hq]
    | false =>
      have h2 := of_decide_eq_false h2
      refine c_if true rfl ?_
      refine c_seq ?_
      refine c_region ?_
      refine JL_run 3 [] [3, 2] 0 ⟨[(3, vI 0), (2, vS (bstr ([x.kind % 256, x.client % 256])))], []⟩ [] [] (by kernel_rfl) on wn ?_
      refine l_nil (q_then_normal ?_)
      refine c_ret ?_
      refine q_then_ret (q_ret (.inl rfl) [vS (bstr ([x.kind % 256, x.client % 256])), vI 0] rfl (fun bs w hS => ?_))
      refine ⟨?_, hS.kp⟩
      simp only [retOf, den, List.map_cons, List.map_nil]
      have hm : mEnc x = (bstr ([x.kind % 256, x.client % 256]), 0) := by unfold mEnc; rw [if_pos (by assumption), if_neg (by assumption)]
      rw [hm]
  | false =>
    have h1 := of_decide_eq_false h1
    refine c_if true rfl ?_
    refine c_seq ?_
    refine c_region ?_
    refine JL_run 3 [] [3, 2] 0 ⟨[(3, vI (mCmd x)), (2, vS emp)], []⟩ [] [] (by kernel_rfl) on wn ?_
    refine l_nil (q_then_normal ?_)
    refine c_ret ?_
    refine q_then_ret (q_ret (.inl rfl) [vS emp, vI (mCmd x)] rfl (fun bs w hS => ?_))
    refine ⟨?_, hS.kp⟩
    simp only [retOf, den, List.map_cons, List.map_nil]
    have hm : mEnc x = (emp, mCmd x) := by unfold mEnc; rw [if_neg (by assumption)]
    rw [hm]

theorem ref_CommandBytes {B : Nat → Prop} (x : DCommand) (w : World) (hx : Rds.sub B w x) : Calls Try.prog 70 #[.agg #[.int .i64 x.kind, .int .i64 x.client, .int .i64 x.session, .int .i64 x.seq, .int .i64 x.acked, .int .i64 x.op.kind, .string x.op.a, .string x.op.b, .int .i64 x.op.n]] w fun e w' => e = .returned (.tuple #[.string (mEnc x).1, .int .i64 (mEnc x).2]) ∧ Kp [] w w' := by
  have okx := Rds.okof hx
  have hta := mText_size x.op.a
  have htb := mText_size x.op.b
  refine calls_J0 80 Try.func70 rfl rfl [.agg #[.int .i64 x.kind, .int .i64 x.client, .int .i64 x.session, .int .i64 x.seq, .int .i64 x.acked, .int .i64 x.op.kind, .string x.op.a, .string x.op.b, .int .i64 x.op.n]] rfl ?_
  refine c_seq ?_
  refine c_region ?_
  refine JL_run 3 [] [1] 1 ⟨[(1, .p 0 0)], [⟨63, [vI x.kind, vI x.client, vI x.session, vI x.seq, vI x.acked, vI x.op.kind, vS x.op.a, vS x.op.b, vI x.op.n]⟩]⟩ [] [] (by kernel_rfl) on wn ?_
  refine l_nil (q_then_normal ?_)
  refine c_seq ?_
  refine c_region ?_
  refine JL_run 1 [] [14, 1] 1 ⟨[(14, .v (.agg #[.int .i64 x.kind, .int .i64 x.client, .int .i64 x.session, .int .i64 x.seq, .int .i64 x.acked, .int .i64 x.op.kind, .string x.op.a, .string x.op.b, .int .i64 x.op.n])), (1, .p 0 0)], [⟨63, [vI x.kind, vI x.client, vI x.session, vI x.seq, vI x.acked, vI x.op.kind, vS x.op.a, vS x.op.b, vI x.op.n]⟩]⟩ [] [] (by kernel_rfl) on wn ?_
  refine l_pure 85 [] [.v (.agg #[.int .i64 x.kind, .int .i64 x.client, .int .i64 x.session, .int .i64 x.seq, .int .i64 x.acked, .int .i64 x.op.kind, .string x.op.a, .string x.op.b, .int .i64 x.op.n])] (.int .i64 (mCmd x)) Try.call85 rfl rfl rfl rfl (fun bs w hS => ref_CommandFault (B := anyB) x w (Rds.kp hx hS.kp)) ?_
  refine JL_run 1 [] [4, 1] 1 ⟨[(4, vI (mCmd x)), (1, .p 0 0)], [⟨63, [vI x.kind, vI x.client, vI x.session, vI x.seq, vI x.acked, vI x.op.kind, vS x.op.a, vS x.op.b, vI x.op.n]⟩]⟩ [] [] (by kernel_rfl) on wn ?_
  refine l_nil (q_then_normal ?_)
  refine c_seq ?_
  refine c_seq ?_
  refine c_region ?_
  refine JL_run 2 [] [17, 4, 1] 1 ⟨[(17, vB (!(decide (mCmd x = 0)))), (4, vI (mCmd x)), (1, .p 0 0)], [⟨63, [vI x.kind, vI x.client, vI x.session, vI x.seq, vI x.acked, vI x.op.kind, vS x.op.a, vS x.op.b, vI x.op.n]⟩]⟩ [] [] (by kernel_rfl) on wn ?_
  refine l_nil (q_then_normal ?_)
  cases h1 : decide (mCmd x = 0) with
  | true =>
    have h1 := of_decide_eq_true h1
    refine c_if false rfl ?_
    refine c_skip ?_
    refine q_then_normal ?_
    refine c_seq ?_
    refine c_region ?_
    refine JL_run 7 [] [25, 1] 2 ⟨[(25, .s 1 0 2 2), (1, .p 0 0)], [⟨63, [vI x.kind, vI x.client, vI x.session, vI x.seq, vI x.acked, vI x.op.kind, vS x.op.a, vS x.op.b, vI x.op.n]⟩, ⟨5, [.v (.int .u8 (x.kind % 256)), .v (.int .u8 (x.client % 256))]⟩]⟩ [] [] (by kernel_rfl) on wn ?_
    refine l_bytes 5 (.s 1 0 2 2) [x.kind % 256, x.client % 256] Try.underlying137 Try.underlying5 Try.underlying9 rfl rfl (fun bs w hS => src_loc (q := 2) hS rfl rfl) ?_
    refine JL_run 1 [] [5, 1] 1 ⟨[(5, vS (bstr ([x.kind % 256, x.client % 256]))), (1, .p 0 0)], [⟨63, [vI x.kind, vI x.client, vI x.session, vI x.seq, vI x.acked, vI x.op.kind, vS x.op.a, vS x.op.b, vI x.op.n]⟩]⟩ [] [] (by kernel_rfl) on wn ?_
    refine l_nil (q_then_normal ?_)
    refine c_seq ?_
    refine c_seq ?_
    refine c_region ?_
    refine JL_run 3 [] [29, 5, 1] 1 ⟨[(29, vB (decide (x.kind = 2))), (5, vS (bstr ([x.kind % 256, x.client % 256]))), (1, .p 0 0)], [⟨63, [vI x.kind, vI x.client, vI x.session, vI x.seq, vI x.acked, vI x.op.kind, vS x.op.a, vS x.op.b, vI x.op.n]⟩]⟩ [] [] (by kernel_rfl) on wn ?_
    refine l_nil (q_then_normal ?_)
    cases h2 : decide (x.kind = 2) with
    | true =>
      have h2 := of_decide_eq_true h2
      refine c_if true rfl ?_
      refine c_seq ?_
      refine c_region ?_
      refine JL_run 12 [] [41, 38, 35, 33, 31, 5, 1] 1 ⟨[(41, vI x.op.n), (38, vI x.op.kind), (35, vI x.acked), (33, vI x.seq), (31, vI x.session), (5, vS (bstr ([x.kind % 256, x.client % 256]))), (1, .p 0 0)], [⟨63, [vI x.kind, vI x.client, vI x.session, vI x.seq, vI x.acked, vI x.op.kind, vS x.op.a, vS x.op.b, vI x.op.n]⟩]⟩ [] [] (by kernel_rfl) on wn ?_
      have hsub1 : ∀ z, z ∈ ([x.session, x.seq, x.acked, x.op.kind, x.op.n] : List Int) → ∀ w, Rds.sub anyB w z := (fun _ _ _ => trivial)
      refine l_rowlitS (α := Int) 3 [x.session, x.seq, x.acked, x.op.kind, x.op.n] [vI x.session, vI x.seq, vI x.acked, vI x.op.kind, vI x.op.n] hsub1 Try.underlying87 (by kernel_rfl) (by kernel_rfl) (by kernel_rfl) (by kernel_rfl) (by kernel_rfl) rfl (by kernel_rfl) rfl rfl rfl ?_
      intro y1 hx1 hok1
      refine JL_run 1 [] [6, 5, 1] 1 ⟨[(6, .v (.slice y1.A y1.n y1.c)), (5, vS (bstr ([x.kind % 256, x.client % 256]))), (1, .p 0 0)], [⟨63, [vI x.kind, vI x.client, vI x.session, vI x.seq, vI x.acked, vI x.op.kind, vS x.op.a, vS x.op.b, vI x.op.n]⟩]⟩ [] [] (by kernel_rfl) on wn ?_
      refine l_nil (q_then_normal ?_)
      refine c_seq ?_
      refine c_seq ?_
      refine c_region ?_
      refine JL_run 1 [] [7, 6, 5, 1] 1 ⟨[(7, vI 0), (6, .v (.slice y1.A y1.n y1.c)), (5, vS (bstr ([x.kind % 256, x.client % 256]))), (1, .p 0 0)], [⟨63, [vI x.kind, vI x.client, vI x.session, vI x.seq, vI x.acked, vI x.op.kind, vS x.op.a, vS x.op.b, vI x.op.n]⟩]⟩ [] [] (by kernel_rfl) on wn ?_
      refine l_nil (q_then_normal ?_)
      refine c_block ?_
      refine c_loop (σ := Nat) (fun i => i ≤ y1.n) (fun i => y1.n - i) (fun i => [rowA 3 y1.A y1.c (y1.xs : List Int)]) (fun i => ⟨[(7, vI ((i : Nat) : Int)), (6, .v (.slice y1.A y1.n y1.c)), (5, vS (encN (bstr ([x.kind % 256, x.client % 256])) (y1.xs.take i))), (1, .p 0 0)], [⟨63, [vI x.kind, vI x.client, vI x.session, vI x.seq, vI x.acked, vI x.op.kind, vS x.op.a, vS x.op.b, vI x.op.n]⟩]⟩) 0 (Nat.zero_le _) (s_start [7, 6, 5, 1] 1 (by simp only [List.take_zero]; kernel_rfl) rfl) ?_
      rintro i hi
      have hn1 : y1.n = 5 := by rw [Sl.n, hx1]; rfl
      have hz := encN_size (bstr ([x.kind % 256, x.client % 256])) (y1.xs.take i)
      have hz2 := mNumber_size (y1.at i)
      have hz3 : (y1.xs.take i).length ≤ 5 := by rw [List.length_take]; unfold Sl.n at hn1; omega
      have hz4 : (bstr ([x.kind % 256, x.client % 256])).size = 2 := rfl
      refine c_seq ?_
      refine c_seq ?_
      refine c_region ?_
      refine JL_run 4 [] [46, 7, 6, 5, 1] 1 ⟨[(46, vB (decide (((i : Nat) : Int) < ((y1.n : Nat) : Int)))), (7, vI ((i : Nat) : Int)), (6, .v (.slice y1.A y1.n y1.c)), (5, vS (encN (bstr ([x.kind % 256, x.client % 256])) (y1.xs.take i))), (1, .p 0 0)], [⟨63, [vI x.kind, vI x.client, vI x.session, vI x.seq, vI x.acked, vI x.op.kind, vS x.op.a, vS x.op.b, vI x.op.n]⟩]⟩ [] [] (by kernel_rfl) on wn ?_
      refine l_nil (q_then_normal ?_)
      cases h3 : decide (((i : Nat) : Int) < ((y1.n : Nat) : Int)) with
      | true =>
        have h3 := of_decide_eq_true h3
        refine c_if true rfl ?_
        refine c_skip ?_
        refine q_then_normal ?_
        refine c_seq ?_
        refine c_block ?_
        refine c_seq ?_
        refine c_region ?_
        refine JL_run 4 [(2, .idx y1.ad i), (3, .ext [.int .i64 (y1.at i)])] [53, 7, 6, 5, 1] 1 ⟨[(53, vI (y1.at i)), (7, vI ((i : Nat) : Int)), (6, .v (.slice y1.A y1.n y1.c)), (5, vS (encN (bstr ([x.kind % 256, x.client % 256])) (y1.xs.take i))), (1, .p 0 0)], [⟨63, [vI x.kind, vI x.client, vI x.session, vI x.seq, vI x.acked, vI x.op.kind, vS x.op.a, vS x.op.b, vI x.op.n]⟩]⟩ [y1.A = some y1.ad, ((i : Nat) : Int) = ((i : Nat) : Int), i < y1.n] [(y1.ad.add (i * 1), [.int .i64 (y1.at i)])] (by kernel_rfl) (oc (Sl.ok.own (s := y1) (i := i) hok1 (by omega)) (oc rfl (oc (by omega) on))) (fun w hk hr => ⟨(Sl.rd.all (s := y1) (i := i) (rowA_rd (B := anyB) (hr _ (.head _)) (fun _ _ => trivial) (fun z hz => hsub1 z (hx1 ▸ hz) _)) (by omega) rfl), trivial⟩) ?_
        refine l_pure 105 [] [vI (y1.at i)] (.tuple #[.string ((mNumber (y1.at i)).1), .int .i64 ((mNumber (y1.at i)).2)]) Try.call105 rfl rfl rfl rfl (fun bs w hS => ref_NumberBytes _ w) ?_
        refine JL_run 5 [] [8, 7, 6, 5, 1] 1 ⟨[(8, vS ((mNumber (y1.at i)).1)), (7, vI ((i : Nat) : Int)), (6, .v (.slice y1.A y1.n y1.c)), (5, vS (encN (bstr ([x.kind % 256, x.client % 256])) (y1.xs.take i))), (1, .p 0 0)], [⟨63, [vI x.kind, vI x.client, vI x.session, vI x.seq, vI x.acked, vI x.op.kind, vS x.op.a, vS x.op.b, vI x.op.n]⟩]⟩ [] [] (by kernel_rfl) on wn ?_
        refine l_nil (q_then_normal ?_)
        refine c_region ?_
        refine JL_run 4 [] [5, 7, 6, 1] 1 ⟨[(5, vS ((encN (bstr ([x.kind % 256, x.client % 256])) (y1.xs.take i)) ++ ((mNumber (y1.at i)).1))), (7, vI ((i : Nat) : Int)), (6, .v (.slice y1.A y1.n y1.c)), (1, .p 0 0)], [⟨63, [vI x.kind, vI x.client, vI x.session, vI x.seq, vI x.acked, vI x.op.kind, vS x.op.a, vS x.op.b, vI x.op.n]⟩]⟩ [(encN (bstr ([x.kind % 256, x.client % 256])) (y1.xs.take i)).size + ((mNumber (y1.at i)).1).size ≤ 9223372036854775807] [] (by kernel_rfl) (oc (by (try simp only [app_size]); omega) on) wn ?_
        refine l_nil (q_block_normal (q_then_normal ?_))
        refine c_region ?_
        refine JL_run 3 [] [7, 5, 6, 1] 1 ⟨[(7, vI (((i : Nat) : Int) + 1)), (5, vS ((encN (bstr ([x.kind % 256, x.client % 256])) (y1.xs.take i)) ++ ((mNumber (y1.at i)).1))), (6, .v (.slice y1.A y1.n y1.c)), (1, .p 0 0)], [⟨63, [vI x.kind, vI x.client, vI x.session, vI x.seq, vI x.acked, vI x.op.kind, vS x.op.a, vS x.op.b, vI x.op.n]⟩]⟩ [inR (((i : Nat) : Int) + 1)] [] (by kernel_rfl) (oc (by unfold inR; omega) on) wn ?_
        refine l_nil (q_loop (x := (i : Nat)) ((i + 1) : Nat) (by omega) (by omega) (s_start [7, 6, 5, 1] 1 (by simp only [← take_snoc (s := y1) (i := i) (show i < y1.n by omega), encN_snoc]; kernel_rfl) rfl))
      | false =>
        have h3 := of_decide_eq_false h3
        refine c_if false rfl ?_
        refine c_exit ?_
        refine q_then_exit (q_then_exit (q_block_hit (q_then_normal ?_)))
        refine c_seq ?_
        refine c_region ?_
        refine JL_run 3 [] [63, 5, 1] 1 ⟨[(63, vS x.op.a), (5, vS (encN (bstr ([x.kind % 256, x.client % 256])) (y1.xs.take i))), (1, .p 0 0)], [⟨63, [vI x.kind, vI x.client, vI x.session, vI x.seq, vI x.acked, vI x.op.kind, vS x.op.a, vS x.op.b, vI x.op.n]⟩]⟩ [] [] (by kernel_rfl) on wn ?_
        refine l_pure 106 [] [vS x.op.a] (.tuple #[.string ((mText x.op.a).1), .int .i64 ((mText x.op.a).2)]) Try.call106 rfl rfl rfl rfl (fun bs w hS => ref_TextBytes _ w (And.left okx)) ?_
        refine JL_run 5 [] [10, 5, 1] 1 ⟨[(10, vS ((mText x.op.a).1)), (5, vS (encN (bstr ([x.kind % 256, x.client % 256])) (y1.xs.take i))), (1, .p 0 0)], [⟨63, [vI x.kind, vI x.client, vI x.session, vI x.seq, vI x.acked, vI x.op.kind, vS x.op.a, vS x.op.b, vI x.op.n]⟩]⟩ [] [] (by kernel_rfl) on wn ?_
        refine l_nil (q_then_normal ?_)
        refine c_seq ?_
        refine c_region ?_
        refine JL_run 3 [] [70, 10, 5] 0 ⟨[(70, vS x.op.b), (10, vS ((mText x.op.a).1)), (5, vS (encN (bstr ([x.kind % 256, x.client % 256])) (y1.xs.take i)))], []⟩ [] [] (by kernel_rfl) on wn ?_
        refine l_pure 106 [] [vS x.op.b] (.tuple #[.string ((mText x.op.b).1), .int .i64 ((mText x.op.b).2)]) Try.call106 rfl rfl rfl rfl (fun bs w hS => ref_TextBytes _ w (And.right okx)) ?_
        refine JL_run 5 [] [12, 10, 5] 0 ⟨[(12, vS ((mText x.op.b).1)), (10, vS ((mText x.op.a).1)), (5, vS (encN (bstr ([x.kind % 256, x.client % 256])) (y1.xs.take i)))], []⟩ [] [] (by kernel_rfl) on wn ?_
        refine l_nil (q_then_normal ?_)
        refine c_region ?_
        refine JL_run 6 [] [5] 0 ⟨[(5, vS (((encN (bstr ([x.kind % 256, x.client % 256])) (y1.xs.take i)) ++ ((mText x.op.a).1)) ++ ((mText x.op.b).1)))], []⟩ [(encN (bstr ([x.kind % 256, x.client % 256])) (y1.xs.take i)).size + ((mText x.op.a).1).size ≤ 9223372036854775807, ((encN (bstr ([x.kind % 256, x.client % 256])) (y1.xs.take i)) ++ ((mText x.op.a).1)).size + ((mText x.op.b).1).size ≤ 9223372036854775807] [] (by kernel_rfl) (oc (by (try simp only [app_size]); omega) (oc (by (try simp only [app_size]); omega) on)) wn ?_
        refine l_nil (q_then_normal ?_)
        refine c_seq ?_
        refine c_region ?_
        refine JL_run 3 [] [3, 2] 0 ⟨[(3, vI 0), (2, vS (((encN (bstr ([x.kind % 256, x.client % 256])) (y1.xs.take i)) ++ ((mText x.op.a).1)) ++ ((mText x.op.b).1)))], []⟩ [] [] (by kernel_rfl) on wn ?_
        refine l_nil (q_then_normal ?_)
        refine c_ret ?_
        refine q_ret (.inl rfl) [vS (((encN (bstr ([x.kind % 256, x.client % 256])) (y1.xs.take i)) ++ ((mText x.op.a).1)) ++ ((mText x.op.b).1)), vI 0] rfl (fun bs w hS => ?_)
        refine ⟨?_, hS.kp⟩
        simp only [retOf, den, List.map_cons, List.map_nil]
        have hq : ((encN (bstr ([x.kind % 256, x.client % 256])) (y1.xs.take i)) ++ ((mText x.op.a).1)) ++ ((mText x.op.b).1) = encT (encN (bstr ([x.kind % 256, x.client % 256])) [x.session, x.seq, x.acked, x.op.kind, x.op.n]) [x.op.a, x.op.b] := by rw [take_all (by omega), hx1]; rfl
        have hm : mEnc x = (encT (encN (bstr ([x.kind % 256, x.client % 256])) [x.session, x.seq, x.acked, x.op.kind, x.op.n]) [x.op.a, x.op.b], 0) := by unfold mEnc; rw [if_pos (by assumption), if_pos (by assumption)]
        rw [hm, hq]
    | false =>
      have h2 := of_decide_eq_false h2
      refine c_if false rfl ?_
      refine c_skip ?_
      refine q_then_normal ?_
      refine c_seq ?_
      refine c_region ?_
      refine JL_run 3 [] [3, 2] 0 ⟨[(3, vI 0), (2, vS (bstr ([x.kind % 256, x.client % 256])))], []⟩ [] [] (by kernel_rfl) on wn ?_
      refine l_nil (q_then_normal ?_)
      refine c_ret ?_
      refine q_ret (.inl rfl) [vS (bstr ([x.kind % 256, x.client % 256])), vI 0] rfl (fun bs w hS => ?_)
      refine ⟨?_, hS.kp⟩
      simp only [retOf, den, List.map_cons, List.map_nil]
      have hm : mEnc x = (bstr ([x.kind % 256, x.client % 256]), 0) := by unfold mEnc; rw [if_pos (by assumption), if_neg (by assumption)]
      rw [hm]
  | false =>
    have h1 := of_decide_eq_false h1
    refine c_if true rfl ?_
    refine c_seq ?_
    refine c_region ?_
    refine JL_run 3 [] [3, 2] 0 ⟨[(3, vI (mCmd x)), (2, vS emp)], []⟩ [] [] (by kernel_rfl) on wn ?_
    refine l_nil (q_then_normal ?_)
    refine c_ret ?_
    refine q_then_ret (q_ret (.inl rfl) [vS emp, vI (mCmd x)] rfl (fun bs w hS => ?_))
    refine ⟨?_, hS.kp⟩
    simp only [retOf, den, List.map_cons, List.map_nil]
    have hm : mEnc x = (emp, mCmd x) := by unfold mEnc; rw [if_neg (by assumption)]
    rw [hm]

theorem customer_acked {B : Nat → Prop} (x : CCustomer) (w : World) (hx : Rds.sub B w x) (hb : 1 ≤ x.next ∧ x.next ≤ 1048577) (hb2 : 0 < x.waits.n → 1 ≤ (x.waits.at 0).seq ∧ (x.waits.at 0).seq ≤ 1048576) : Calls Try.prog 47 #[.agg #[.int .i64 x.id, .int .i64 x.session, .int .i64 x.next, .slice x.waits.A x.waits.n x.waits.c]] w fun e w' => e = .returned (.int .i64 (mAck x.abs)) ∧ Kp [] w w' := by
  have hat : ∀ q, x.abs.waits.getD q default = x.waits.at q := fun _ => rfl
  have ha1 : x.abs.id = x.id := rfl
  have ha2 : x.abs.session = x.session := rfl
  have ha3 : x.abs.next = x.next := rfl
  have ha4 : x.abs.waits.length = x.waits.n := rfl
  have okx := Rds.okof hx
  have ncx := Sl.ok.nc okx
  have hnx : x.waits.n = x.waits.xs.length := rfl
  refine calls_J0 16 Try.func47 rfl rfl [.agg #[.int .i64 x.id, .int .i64 x.session, .int .i64 x.next, .slice x.waits.A x.waits.n x.waits.c]] rfl ?_
  refine c_seq ?_
  refine c_region ?_
  refine JL_run 2 [] [1] 1 ⟨[(1, .p 0 0)], [⟨24, [vI x.id, vI x.session, vI x.next, .v (.slice x.waits.A x.waits.n x.waits.c)]⟩]⟩ [] [] (by kernel_rfl) on wn ?_
  refine l_nil (q_then_normal ?_)
  refine c_seq ?_
  refine c_seq ?_
  refine c_region ?_
  refine JL_run 4 [] [6, 1] 1 ⟨[(6, vB (decide ((0 : Int) < ((x.waits.n : Nat) : Int)))), (1, .p 0 0)], [⟨24, [vI x.id, vI x.session, vI x.next, .v (.slice x.waits.A x.waits.n x.waits.c)]⟩]⟩ [] [] (by kernel_rfl) on wn ?_
  refine l_nil (q_then_normal ?_)
  cases h1 : decide ((0 : Int) < ((x.waits.n : Nat) : Int)) with
  | true =>
    have h1 := of_decide_eq_true h1
    have hz := hb2 (by omega)
    refine c_if true rfl ?_
    refine c_seq ?_
    refine c_region ?_
    refine JL_run 7 [(2, .idx x.waits.ad 0), (4, .ext [.int .i64 (x.waits.at 0).seq])] [2] 0 ⟨[(2, vI ((x.waits.at 0).seq - 1))], []⟩ [x.waits.A = some x.waits.ad, (0 : Int) = ((0 : Nat) : Int), 0 < x.waits.n, inR ((x.waits.at 0).seq - 1)] [((x.waits.ad.add (0 * 5)).add 0, [.int .i64 (x.waits.at 0).seq])] (by kernel_rfl) (oc (Sl.ok.own (s := x.waits) (i := 0) okx (by omega)) (oc rfl (oc (by omega) (oc (by unfold inR; omega) on)))) (fun w hk hr => ⟨(Sl.rd.fld (s := x.waits) (i := 0) (Rds.kp hx hk) (by omega) 0 1 rfl), trivial⟩) ?_
    refine l_nil (q_then_normal ?_)
    refine c_ret ?_
    refine q_then_ret (q_ret (.inl rfl) [vI ((x.waits.at 0).seq - 1)] rfl (fun bs w hS => ?_))
    refine ⟨?_, hS.kp⟩
    have hm : mAck x.abs = (x.waits.at 0).seq - 1 := by
      unfold mAck; rw [ha4, hat, ha3]; first | rw [if_pos (by omega)] | rw [if_neg (by omega)]
    rw [hm]
    rfl
  | false =>
    have h1 := of_decide_eq_false h1
    refine c_if false rfl ?_
    refine c_skip ?_
    refine q_then_normal ?_
    refine c_seq ?_
    refine c_region ?_
    refine JL_run 4 [] [2] 0 ⟨[(2, vI (x.next - 1))], []⟩ [inR (x.next - 1)] [] (by kernel_rfl) (oc (by unfold inR; omega) on) wn ?_
    refine l_nil (q_then_normal ?_)
    refine c_ret ?_
    refine q_ret (.inl rfl) [vI (x.next - 1)] rfl (fun bs w hS => ?_)
    refine ⟨?_, hS.kp⟩
    have hm : mAck x.abs = x.next - 1 := by
      unfold mAck; rw [ha4, hat, ha3]; first | rw [if_pos (by omega)] | rw [if_neg (by omega)]
    rw [hm]
    rfl

theorem ref_knownOf {B : Nat → Prop} (x : CCustomer) (w : World) (hx : Rds.sub B w x) (hb : 1 ≤ x.next ∧ x.next ≤ 1048577) (hb2 : 0 < x.waits.n → 1 ≤ (x.waits.at 0).seq ∧ (x.waits.at 0).seq ≤ 1048576) : Calls Try.prog 51 #[.agg #[.int .i64 x.id, .int .i64 x.session, .int .i64 x.next, .slice x.waits.A x.waits.n x.waits.c]] w fun e w' => e = .returned (.int .i64 (mAck x.abs)) ∧ Kp [] w w' := by
  have hat : ∀ q, x.abs.waits.getD q default = x.waits.at q := fun _ => rfl
  have ha1 : x.abs.id = x.id := rfl
  have ha2 : x.abs.session = x.session := rfl
  have ha3 : x.abs.next = x.next := rfl
  have ha4 : x.abs.waits.length = x.waits.n := rfl
  have okx := Rds.okof hx
  have ncx := Sl.ok.nc okx
  have hnx : x.waits.n = x.waits.xs.length := rfl
  refine calls_J0 16 Try.func51 rfl rfl [.agg #[.int .i64 x.id, .int .i64 x.session, .int .i64 x.next, .slice x.waits.A x.waits.n x.waits.c]] rfl ?_
  refine c_seq ?_
  refine c_region ?_
  refine JL_run 2 [] [1] 1 ⟨[(1, .p 0 0)], [⟨24, [vI x.id, vI x.session, vI x.next, .v (.slice x.waits.A x.waits.n x.waits.c)]⟩]⟩ [] [] (by kernel_rfl) on wn ?_
  refine l_nil (q_then_normal ?_)
  refine c_seq ?_
  refine c_seq ?_
  refine c_region ?_
  refine JL_run 4 [] [6, 1] 1 ⟨[(6, vB (decide (((x.waits.n : Nat) : Int) = 0))), (1, .p 0 0)], [⟨24, [vI x.id, vI x.session, vI x.next, .v (.slice x.waits.A x.waits.n x.waits.c)]⟩]⟩ [] [] (by kernel_rfl) on wn ?_
  refine l_nil (q_then_normal ?_)
  cases h1 : decide (((x.waits.n : Nat) : Int) = 0) with
  | true =>
    have h1 := of_decide_eq_true h1
    refine c_if true rfl ?_
    refine c_seq ?_
    refine c_region ?_
    refine JL_run 4 [] [2] 0 ⟨[(2, vI (x.next - 1))], []⟩ [inR (x.next - 1)] [] (by kernel_rfl) (oc (by unfold inR; omega) on) wn ?_
    refine l_nil (q_then_normal ?_)
    refine c_ret ?_
    refine q_then_ret (q_ret (.inl rfl) [vI (x.next - 1)] rfl (fun bs w hS => ?_))
    refine ⟨?_, hS.kp⟩
    have hm : mAck x.abs = x.next - 1 := by
      unfold mAck; rw [ha4, hat, ha3]; first | rw [if_pos (by omega)] | rw [if_neg (by omega)]
    rw [hm]
    rfl
  | false =>
    have h1 := of_decide_eq_false h1
    have hz := hb2 (by omega)
    refine c_if false rfl ?_
    refine c_skip ?_
    refine q_then_normal ?_
    refine c_seq ?_
    refine c_region ?_
    refine JL_run 7 [(2, .idx x.waits.ad 0), (4, .ext [.int .i64 (x.waits.at 0).seq])] [2] 0 ⟨[(2, vI ((x.waits.at 0).seq - 1))], []⟩ [x.waits.A = some x.waits.ad, (0 : Int) = ((0 : Nat) : Int), 0 < x.waits.n, inR ((x.waits.at 0).seq - 1)] [((x.waits.ad.add (0 * 5)).add 0, [.int .i64 (x.waits.at 0).seq])] (by kernel_rfl) (oc (Sl.ok.own (s := x.waits) (i := 0) okx (by omega)) (oc rfl (oc (by omega) (oc (by unfold inR; omega) on)))) (fun w hk hr => ⟨(Sl.rd.fld (s := x.waits) (i := 0) (Rds.kp hx hk) (by omega) 0 1 rfl), trivial⟩) ?_
    refine l_nil (q_then_normal ?_)
    refine c_ret ?_
    refine q_ret (.inl rfl) [vI ((x.waits.at 0).seq - 1)] rfl (fun bs w hS => ?_)
    refine ⟨?_, hS.kp⟩
    have hm : mAck x.abs = (x.waits.at 0).seq - 1 := by
      unfold mAck; rw [ha4, hat, ha3]; first | rw [if_pos (by omega)] | rw [if_neg (by omega)]
    rw [hm]
    rfl

theorem customer_Request {B : Nat → Prop} (x : CCustomer) (n : Int) (w : World) (hx : Rds.sub B w x) : Calls Try.prog 37 #[.agg #[.int .i64 x.id, .int .i64 x.session, .int .i64 x.next, .slice x.waits.A x.waits.n x.waits.c], .int .i64 n] w fun e w' => e = .returned (.tuple #[.string (mReq x.abs n).1, .int .i64 (mReq x.abs n).2]) ∧ Kp [] w w' := by
  have hat : ∀ q, x.abs.waits.getD q default = x.waits.at q := fun _ => rfl
  have ha1 : x.abs.id = x.id := rfl
  have ha2 : x.abs.session = x.session := rfl
  have ha3 : x.abs.next = x.next := rfl
  have ha4 : x.abs.waits.length = x.waits.n := rfl
  have okx := Rds.okof hx
  have ncx := Sl.ok.nc okx
  have hnx : x.waits.n = x.waits.xs.length := rfl
  refine calls_J0 41 Try.func37 rfl rfl [.agg #[.int .i64 x.id, .int .i64 x.session, .int .i64 x.next, .slice x.waits.A x.waits.n x.waits.c], .int .i64 n] rfl ?_
  refine c_seq ?_
  refine c_region ?_
  refine JL_run 3 [] [2, 1] 1 ⟨[(2, .p 0 0), (1, vI n)], [⟨24, [vI x.id, vI x.session, vI x.next, .v (.slice x.waits.A x.waits.n x.waits.c)]⟩]⟩ [] [] (by kernel_rfl) on wn ?_
  refine l_nil (q_then_normal ?_)
  refine c_seq ?_
  refine c_seq ?_
  refine c_region ?_
  refine JL_run 1 [] [8, 2, 1] 1 ⟨[(8, .v (.agg #[.int .i64 x.id, .int .i64 x.session, .int .i64 x.next, .slice x.waits.A x.waits.n x.waits.c])), (2, .p 0 0), (1, vI n)], [⟨24, [vI x.id, vI x.session, vI x.next, .v (.slice x.waits.A x.waits.n x.waits.c)]⟩]⟩ [] [] (by kernel_rfl) on wn ?_
  refine l_pure 45 [] [.v (.agg #[.int .i64 x.id, .int .i64 x.session, .int .i64 x.next, .slice x.waits.A x.waits.n x.waits.c])] (.int .i64 (mCust x.abs)) Try.call45 rfl rfl rfl rfl (fun bs w hS => customer_Check x w (Rds.kp hx hS.kp)) ?_
  refine JL_run 1 [] [6, 2, 1] 1 ⟨[(6, vI (mCust x.abs)), (2, .p 0 0), (1, vI n)], [⟨24, [vI x.id, vI x.session, vI x.next, .v (.slice x.waits.A x.waits.n x.waits.c)]⟩]⟩ [] [] (by kernel_rfl) on wn ?_
  refine l_nil (q_then_normal ?_)
  refine c_seq ?_
  refine c_region ?_
  refine JL_run 2 [] [11, 6, 2, 1] 1 ⟨[(11, vB (!(decide (mCust x.abs = 0)))), (6, vI (mCust x.abs)), (2, .p 0 0), (1, vI n)], [⟨24, [vI x.id, vI x.session, vI x.next, .v (.slice x.waits.A x.waits.n x.waits.c)]⟩]⟩ [] [] (by kernel_rfl) on wn ?_
  refine l_nil (q_then_normal ?_)
  cases h1 : decide (mCust x.abs = 0) with
  | true =>
    have h1 := of_decide_eq_true h1
    obtain ⟨hb1, hb2, hb3, hb4, hb5, hb6, hb7, hb8, hb9⟩ := mCust_bd h1
    rw [ha1] at hb1 hb2
    rw [ha2] at hb3 hb4
    rw [ha3] at hb5 hb6
    rw [ha4] at hb7 hb9
    have hseq : ∀ j, j < x.waits.n → 1 ≤ (x.waits.at j).seq ∧ (x.waits.at j).seq ≤ 1048576 := fun j hj => by have hz := custF_bd (hb9 j hj); rw [hat, ha3] at hz; omega
    refine c_if false rfl ?_
    refine c_skip ?_
    refine q_then_normal ?_
    refine c_seq ?_
    refine c_seq ?_
    refine c_region ?_
    refine JL_run 3 [] [15, 2, 1] 1 ⟨[(15, vB (decide (n < 0))), (2, .p 0 0), (1, vI n)], [⟨24, [vI x.id, vI x.session, vI x.next, .v (.slice x.waits.A x.waits.n x.waits.c)]⟩]⟩ [] [] (by kernel_rfl) on wn ?_
    cases h2 : decide (n < 0) with
    | true =>
      have h2 := of_decide_eq_true h2
      refine JL_run 6 [] [21, 2, 1] 1 ⟨[(21, vB true), (2, .p 0 0), (1, vI n)], [⟨24, [vI x.id, vI x.session, vI x.next, .v (.slice x.waits.A x.waits.n x.waits.c)]⟩]⟩ [] [] (by kernel_rfl) on wn ?_
      refine l_nil (q_then_normal ?_)
      refine c_if true rfl ?_
      refine c_seq ?_
      refine c_region ?_
      refine JL_run 2 [] [5, 4] 0 ⟨[(5, vI 6), (4, vS emp)], []⟩ [] [] (by kernel_rfl) on wn ?_
      refine l_nil (q_then_normal ?_)
      refine c_ret ?_
      refine q_then_ret (q_ret (.inl rfl) [vS emp, vI 6] rfl (fun bs w hS => ?_))
      refine ⟨?_, hS.kp⟩
      have hm : mReq x.abs n = (emp, 6) := by
        unfold mReq; rw [if_pos (by assumption), ha4, if_neg (by omega)]
      rw [hm]
      rfl
    | false =>
      have h2 := of_decide_eq_false h2
      refine JL_run 6 [] [21, 2, 1] 1 ⟨[(21, vB (decide (((x.waits.n : Nat) : Int) ≤ n))), (2, .p 0 0), (1, vI n)], [⟨24, [vI x.id, vI x.session, vI x.next, .v (.slice x.waits.A x.waits.n x.waits.c)]⟩]⟩ [] [] (by kernel_rfl) on wn ?_
      refine l_nil (q_then_normal ?_)
      cases h3 : decide (((x.waits.n : Nat) : Int) ≤ n) with
      | true =>
        have h3 := of_decide_eq_true h3
        refine c_if true rfl ?_
        refine c_seq ?_
        refine c_region ?_
        refine JL_run 2 [] [5, 4] 0 ⟨[(5, vI 6), (4, vS emp)], []⟩ [] [] (by kernel_rfl) on wn ?_
        refine l_nil (q_then_normal ?_)
        refine c_ret ?_
        refine q_then_ret (q_ret (.inl rfl) [vS emp, vI 6] rfl (fun bs w hS => ?_))
        refine ⟨?_, hS.kp⟩
        have hm : mReq x.abs n = (emp, 6) := by
          unfold mReq; rw [if_pos (by assumption), ha4, if_neg (by omega)]
        rw [hm]
        rfl
      | false =>
        have h3 := of_decide_eq_false h3
        refine c_if false rfl ?_
        refine c_skip ?_
        refine q_then_normal ?_
        refine c_seq ?_
        refine c_region ?_
        refine JL_run 7 [(3, .idx x.waits.ad (n).toNat), (4, .ext [.int .i64 (x.waits.at (n).toNat).seq, .int .i64 (x.waits.at (n).toNat).op.kind, .string (x.waits.at (n).toNat).op.a, .string (x.waits.at (n).toNat).op.b, .int .i64 (x.waits.at (n).toNat).op.n])] [7, 2] 2 ⟨[(7, .p 1 0), (2, .p 0 0)], [⟨24, [vI x.id, vI x.session, vI x.next, .v (.slice x.waits.A x.waits.n x.waits.c)]⟩, ⟨83, [vI (x.waits.at (n).toNat).seq, vI (x.waits.at (n).toNat).op.kind, vS (x.waits.at (n).toNat).op.a, vS (x.waits.at (n).toNat).op.b, vI (x.waits.at (n).toNat).op.n]⟩]⟩ [x.waits.A = some x.waits.ad, n = (((n).toNat : Nat) : Int), (n).toNat < x.waits.n] [(x.waits.ad.add ((n).toNat * 5), [.int .i64 (x.waits.at (n).toNat).seq, .int .i64 (x.waits.at (n).toNat).op.kind, .string (x.waits.at (n).toNat).op.a, .string (x.waits.at (n).toNat).op.b, .int .i64 (x.waits.at (n).toNat).op.n])] (by kernel_rfl) (oc (Sl.ok.own (s := x.waits) (i := (n).toNat) okx (by omega)) (oc (by omega) (oc (by omega) on))) (fun w hk hr => ⟨(Sl.rd.all (s := x.waits) (i := (n).toNat) (Rds.kp hx hk) (by omega) rfl), trivial⟩) ?_
        refine l_nil (q_then_normal ?_)
        refine c_seq ?_
        refine c_draw 16 [(0, false), (1, false), (2, false), (3, false), (4, false), (5, false), (6, false), (8, false), (9, false), (7, true), (10, false), (11, true), (12, false), (13, false), (14, false), (15, false)] [] [] Try_mixed (by kernel_rfl) (pq_then pq_body) (List.Sublist.refl _) ?_
        refine h_quiet [] 9 [(36, .v (.agg #[.int .i64 (x.waits.at (n).toNat).op.kind, .string (x.waits.at (n).toNat).op.a, .string (x.waits.at (n).toNat).op.b, .int .i64 (x.waits.at (n).toNat).op.n])), (35, .p 1 1), (33, .v (.agg #[.int .i64 x.id, .int .i64 x.session, .int .i64 x.next, .slice x.waits.A x.waits.n x.waits.c])), (32, vI (x.waits.at (n).toNat).seq), (31, .p 1 0), (30, vI x.session), (29, .p 0 1), (28, vI x.id), (27, .p 0 0), (7, .p 1 0), (2, .p 0 0)] [] [] rfl rfl (by kernel_rfl) on wn ?_
        refine h_pure 47 [] [.v (.agg #[.int .i64 x.id, .int .i64 x.session, .int .i64 x.next, .slice x.waits.A x.waits.n x.waits.c])] (.int .i64 (mAck x.abs)) rfl Try.call47 rfl rfl rfl rfl (fun bs w hS => customer_acked x w (Rds.kp hx hS.kp) ⟨by omega, by omega⟩ (fun hz => hseq 0 hz)) (fun bs0 bs w hp hl hS => hS.down hp hl rfl (le_same (le_same le_nil)) (List.Sublist.refl _)) ?_
        refine h_quiet [] 1 [(37, .v (.agg #[.int .i64 2, .int .i64 x.id, .int .i64 x.session, .int .i64 (x.waits.at (n).toNat).seq, .int .i64 (mAck x.abs), .int .i64 (x.waits.at (n).toNat).op.kind, .string (x.waits.at (n).toNat).op.a, .string (x.waits.at (n).toNat).op.b, .int .i64 (x.waits.at (n).toNat).op.n])), (34, vI (mAck x.abs)), (36, .v (.agg #[.int .i64 (x.waits.at (n).toNat).op.kind, .string (x.waits.at (n).toNat).op.a, .string (x.waits.at (n).toNat).op.b, .int .i64 (x.waits.at (n).toNat).op.n])), (35, .p 1 1), (33, .v (.agg #[.int .i64 x.id, .int .i64 x.session, .int .i64 x.next, .slice x.waits.A x.waits.n x.waits.c])), (32, vI (x.waits.at (n).toNat).seq), (31, .p 1 0), (30, vI x.session), (29, .p 0 1), (28, vI x.id), (27, .p 0 0), (7, .p 1 0), (2, .p 0 0)] [] [] rfl rfl (by kernel_rfl) on wn ?_
        refine h_pure 69 [] [.v (.agg #[.int .i64 2, .int .i64 x.id, .int .i64 x.session, .int .i64 (x.waits.at (n).toNat).seq, .int .i64 (mAck x.abs), .int .i64 (x.waits.at (n).toNat).op.kind, .string (x.waits.at (n).toNat).op.a, .string (x.waits.at (n).toNat).op.b, .int .i64 (x.waits.at (n).toNat).op.n])] (.tuple #[.string ((mEnc (⟨2, x.id, x.session, (x.waits.at (n).toNat).seq, mAck x.abs, ⟨(x.waits.at (n).toNat).op.kind, (x.waits.at (n).toNat).op.a, (x.waits.at (n).toNat).op.b, (x.waits.at (n).toNat).op.n⟩⟩ : DCommand)).1), .int .i64 ((mEnc (⟨2, x.id, x.session, (x.waits.at (n).toNat).seq, mAck x.abs, ⟨(x.waits.at (n).toNat).op.kind, (x.waits.at (n).toNat).op.a, (x.waits.at (n).toNat).op.b, (x.waits.at (n).toNat).op.n⟩⟩ : DCommand)).2)]) rfl Try.call69 rfl rfl rfl rfl (fun bs w hS => command_Encode (B := anyB) (⟨2, x.id, x.session, (x.waits.at (n).toNat).seq, mAck x.abs, ⟨(x.waits.at (n).toNat).op.kind, (x.waits.at (n).toNat).op.a, (x.waits.at (n).toNat).op.b, (x.waits.at (n).toNat).op.n⟩⟩ : DCommand) w ⟨(show (x.waits.at (n).toNat).op.a.size ≤ 9223372036854775807 from (And.left (Sl.ok.at (s := x.waits) (i := (n).toNat) okx (by omega)))), (show (x.waits.at (n).toNat).op.b.size ≤ 9223372036854775807 from (And.right (Sl.ok.at (s := x.waits) (i := (n).toNat) okx (by omega))))⟩) (fun bs0 bs w hp hl hS => hS.down hp hl rfl (le_same (le_same le_nil)) (List.Sublist.refl _)) ?_
        refine h_quiet [] 4 [(5, vI ((mEnc (⟨2, x.id, x.session, (x.waits.at (n).toNat).seq, mAck x.abs, ⟨(x.waits.at (n).toNat).op.kind, (x.waits.at (n).toNat).op.a, (x.waits.at (n).toNat).op.b, (x.waits.at (n).toNat).op.n⟩⟩ : DCommand)).2)), (4, vS ((mEnc (⟨2, x.id, x.session, (x.waits.at (n).toNat).seq, mAck x.abs, ⟨(x.waits.at (n).toNat).op.kind, (x.waits.at (n).toNat).op.a, (x.waits.at (n).toNat).op.b, (x.waits.at (n).toNat).op.n⟩⟩ : DCommand)).1)), (40, vI ((mEnc (⟨2, x.id, x.session, (x.waits.at (n).toNat).seq, mAck x.abs, ⟨(x.waits.at (n).toNat).op.kind, (x.waits.at (n).toNat).op.a, (x.waits.at (n).toNat).op.b, (x.waits.at (n).toNat).op.n⟩⟩ : DCommand)).2)), (39, vS ((mEnc (⟨2, x.id, x.session, (x.waits.at (n).toNat).seq, mAck x.abs, ⟨(x.waits.at (n).toNat).op.kind, (x.waits.at (n).toNat).op.a, (x.waits.at (n).toNat).op.b, (x.waits.at (n).toNat).op.n⟩⟩ : DCommand)).1)), (38, .v (.tuple #[.string ((mEnc (⟨2, x.id, x.session, (x.waits.at (n).toNat).seq, mAck x.abs, ⟨(x.waits.at (n).toNat).op.kind, (x.waits.at (n).toNat).op.a, (x.waits.at (n).toNat).op.b, (x.waits.at (n).toNat).op.n⟩⟩ : DCommand)).1), .int .i64 ((mEnc (⟨2, x.id, x.session, (x.waits.at (n).toNat).seq, mAck x.abs, ⟨(x.waits.at (n).toNat).op.kind, (x.waits.at (n).toNat).op.a, (x.waits.at (n).toNat).op.b, (x.waits.at (n).toNat).op.n⟩⟩ : DCommand)).2)])), (37, .v (.agg #[.int .i64 2, .int .i64 x.id, .int .i64 x.session, .int .i64 (x.waits.at (n).toNat).seq, .int .i64 (mAck x.abs), .int .i64 (x.waits.at (n).toNat).op.kind, .string (x.waits.at (n).toNat).op.a, .string (x.waits.at (n).toNat).op.b, .int .i64 (x.waits.at (n).toNat).op.n])), (34, vI (mAck x.abs)), (36, .v (.agg #[.int .i64 (x.waits.at (n).toNat).op.kind, .string (x.waits.at (n).toNat).op.a, .string (x.waits.at (n).toNat).op.b, .int .i64 (x.waits.at (n).toNat).op.n])), (35, .p 1 1), (33, .v (.agg #[.int .i64 x.id, .int .i64 x.session, .int .i64 x.next, .slice x.waits.A x.waits.n x.waits.c])), (32, vI (x.waits.at (n).toNat).seq), (31, .p 1 0), (30, vI x.session), (29, .p 0 1), (28, vI x.id), (27, .p 0 0), (7, .p 1 0), (2, .p 0 0)] [] [] rfl rfl (by kernel_rfl) on wn ?_
        refine h_nil ?_
        refine l_nil (q_then_normal ?_)
        refine c_ret ?_
        refine q_ret (.inl rfl) [vS ((mEnc (⟨2, x.id, x.session, (x.waits.at (n).toNat).seq, mAck x.abs, ⟨(x.waits.at (n).toNat).op.kind, (x.waits.at (n).toNat).op.a, (x.waits.at (n).toNat).op.b, (x.waits.at (n).toNat).op.n⟩⟩ : DCommand)).1), vI ((mEnc (⟨2, x.id, x.session, (x.waits.at (n).toNat).seq, mAck x.abs, ⟨(x.waits.at (n).toNat).op.kind, (x.waits.at (n).toNat).op.a, (x.waits.at (n).toNat).op.b, (x.waits.at (n).toNat).op.n⟩⟩ : DCommand)).2)] rfl (fun bs w hS => ?_)
        refine ⟨?_, hS.kp⟩
        have hm : mReq x.abs n = ((mEnc (⟨2, x.id, x.session, (x.waits.at (n).toNat).seq, mAck x.abs, ⟨(x.waits.at (n).toNat).op.kind, (x.waits.at (n).toNat).op.a, (x.waits.at (n).toNat).op.b, (x.waits.at (n).toNat).op.n⟩⟩ : DCommand)).1, (mEnc (⟨2, x.id, x.session, (x.waits.at (n).toNat).seq, mAck x.abs, ⟨(x.waits.at (n).toNat).op.kind, (x.waits.at (n).toNat).op.a, (x.waits.at (n).toNat).op.b, (x.waits.at (n).toNat).op.n⟩⟩ : DCommand)).2) := by
          unfold mReq; rw [if_pos (by assumption), ha4, if_pos (by omega), hat, ha1, ha2]
        rw [hm]
        rfl
  | false =>
    have h1 := of_decide_eq_false h1
    refine c_if true rfl ?_
    refine c_seq ?_
    refine c_region ?_
    refine JL_run 3 [] [5, 4] 0 ⟨[(5, vI (mCust x.abs)), (4, vS emp)], []⟩ [] [] (by kernel_rfl) on wn ?_
    refine l_nil (q_then_normal ?_)
    refine c_ret ?_
    refine q_then_ret (q_ret (.inl rfl) [vS emp, vI (mCust x.abs)] rfl (fun bs w hS => ?_))
    refine ⟨?_, hS.kp⟩
    have hm : mReq x.abs n = (emp, mCust x.abs) := by
      unfold mReq; rw [if_neg h1]
    rw [hm]
    rfl

theorem ref_RequestOf {B : Nat → Prop} (x : CCustomer) (n : Int) (w : World) (hx : Rds.sub B w x) : Calls Try.prog 38 #[.agg #[.int .i64 x.id, .int .i64 x.session, .int .i64 x.next, .slice x.waits.A x.waits.n x.waits.c], .int .i64 n] w fun e w' => e = .returned (.tuple #[.string (mReq x.abs n).1, .int .i64 (mReq x.abs n).2]) ∧ Kp [] w w' := by
  have hat : ∀ q, x.abs.waits.getD q default = x.waits.at q := fun _ => rfl
  have ha1 : x.abs.id = x.id := rfl
  have ha2 : x.abs.session = x.session := rfl
  have ha3 : x.abs.next = x.next := rfl
  have ha4 : x.abs.waits.length = x.waits.n := rfl
  have okx := Rds.okof hx
  have ncx := Sl.ok.nc okx
  have hnx : x.waits.n = x.waits.xs.length := rfl
  refine calls_J0 45 Try.func38 rfl rfl [.agg #[.int .i64 x.id, .int .i64 x.session, .int .i64 x.next, .slice x.waits.A x.waits.n x.waits.c], .int .i64 n] rfl ?_
  refine c_seq ?_
  refine c_region ?_
  refine JL_run 3 [] [2, 1] 1 ⟨[(2, .p 0 0), (1, vI n)], [⟨24, [vI x.id, vI x.session, vI x.next, .v (.slice x.waits.A x.waits.n x.waits.c)]⟩]⟩ [] [] (by kernel_rfl) on wn ?_
  refine l_nil (q_then_normal ?_)
  refine c_seq ?_
  refine c_region ?_
  refine JL_run 1 [] [7, 2, 1] 1 ⟨[(7, .v (.agg #[.int .i64 x.id, .int .i64 x.session, .int .i64 x.next, .slice x.waits.A x.waits.n x.waits.c])), (2, .p 0 0), (1, vI n)], [⟨24, [vI x.id, vI x.session, vI x.next, .v (.slice x.waits.A x.waits.n x.waits.c)]⟩]⟩ [] [] (by kernel_rfl) on wn ?_
  refine l_pure 49 [] [.v (.agg #[.int .i64 x.id, .int .i64 x.session, .int .i64 x.next, .slice x.waits.A x.waits.n x.waits.c])] (.int .i64 (mCust x.abs)) Try.call49 rfl rfl rfl rfl (fun bs w hS => ref_CustomerFault x w (Rds.kp hx hS.kp)) ?_
  refine JL_run 1 [] [6, 2, 1] 1 ⟨[(6, vI (mCust x.abs)), (2, .p 0 0), (1, vI n)], [⟨24, [vI x.id, vI x.session, vI x.next, .v (.slice x.waits.A x.waits.n x.waits.c)]⟩]⟩ [] [] (by kernel_rfl) on wn ?_
  refine l_nil (q_then_normal ?_)
  refine c_seq ?_
  refine c_seq ?_
  refine c_region ?_
  refine JL_run 3 [] [11, 6, 2, 1] 1 ⟨[(11, vB (decide (mCust x.abs = 0))), (6, vI (mCust x.abs)), (2, .p 0 0), (1, vI n)], [⟨24, [vI x.id, vI x.session, vI x.next, .v (.slice x.waits.A x.waits.n x.waits.c)]⟩]⟩ [] [] (by kernel_rfl) on wn ?_
  cases h1 : decide (mCust x.abs = 0) with
  | true =>
    have h1 := of_decide_eq_true h1
    obtain ⟨hb1, hb2, hb3, hb4, hb5, hb6, hb7, hb8, hb9⟩ := mCust_bd h1
    rw [ha1] at hb1 hb2
    rw [ha2] at hb3 hb4
    rw [ha3] at hb5 hb6
    rw [ha4] at hb7 hb9
    have hseq : ∀ j, j < x.waits.n → 1 ≤ (x.waits.at j).seq ∧ (x.waits.at j).seq ≤ 1048576 := fun j hj => by have hz := custF_bd (hb9 j hj); rw [hat, ha3] at hz; omega
    refine JL_run 5 [] [16, 12, 11, 6, 2, 1] 1 ⟨[(16, vI (((x.waits.n : Nat) : Int) - 1)), (12, vI n), (11, vB true), (6, vI (mCust x.abs)), (2, .p 0 0), (1, vI n)], [⟨24, [vI x.id, vI x.session, vI x.next, .v (.slice x.waits.A x.waits.n x.waits.c)]⟩]⟩ [inR (((x.waits.n : Nat) : Int) - 1)] [] (by kernel_rfl) (oc (by unfold inR; omega) on) wn ?_
    refine l_pure 68 [] [vI n, vI 0, vI (((x.waits.n : Nat) : Int) - 1)] (.bool (inB n 0 (((x.waits.n : Nat) : Int) - 1))) Try.call68 rfl rfl rfl rfl (fun bs w hS => ref_In _ _ _ w) ?_
    refine JL_run 2 [] [19, 6, 2, 1] 1 ⟨[(19, vB (!(inB n 0 (((x.waits.n : Nat) : Int) - 1)))), (6, vI (mCust x.abs)), (2, .p 0 0), (1, vI n)], [⟨24, [vI x.id, vI x.session, vI x.next, .v (.slice x.waits.A x.waits.n x.waits.c)]⟩]⟩ [] [] (by kernel_rfl) on wn ?_
    refine l_nil (q_then_normal ?_)
    cases h2 : inB n 0 (((x.waits.n : Nat) : Int) - 1) with
    | true =>
      simp only [inB, Bool.and_eq_true, Bool.and_eq_false_iff, decide_eq_true_eq, decide_eq_false_iff_not] at h2
      refine c_if false rfl ?_
      refine c_skip ?_
      refine q_then_normal ?_
      refine c_seq ?_
      refine c_seq ?_
      refine c_region ?_
      refine JL_run 2 [] [21, 6, 2, 1] 1 ⟨[(21, vB (!(decide (mCust x.abs = 0)))), (6, vI (mCust x.abs)), (2, .p 0 0), (1, vI n)], [⟨24, [vI x.id, vI x.session, vI x.next, .v (.slice x.waits.A x.waits.n x.waits.c)]⟩]⟩ [] [] (by kernel_rfl) on wn ?_
      refine l_nil (q_then_normal ?_)
      cases h3 : decide (mCust x.abs = 0) with
      | true =>
        have h3 := of_decide_eq_true h3
        obtain ⟨hb1, hb2, hb3, hb4, hb5, hb6, hb7, hb8, hb9⟩ := mCust_bd h3
        rw [ha1] at hb1 hb2
        rw [ha2] at hb3 hb4
        rw [ha3] at hb5 hb6
        rw [ha4] at hb7 hb9
        have hseq : ∀ j, j < x.waits.n → 1 ≤ (x.waits.at j).seq ∧ (x.waits.at j).seq ≤ 1048576 := fun j hj => by have hz := custF_bd (hb9 j hj); rw [hat, ha3] at hz; omega
        refine c_if false rfl ?_
        refine c_skip ?_
        refine q_then_normal ?_
        refine c_seq ?_
        refine c_draw 24 [(0, false), (1, false), (2, false), (3, false), (4, false), (5, false), (6, false), (7, false), (8, false), (9, false), (10, false), (12, false), (13, false), (14, false), (15, false), (16, false), (17, false), (11, true), (18, false), (19, true), (20, false), (21, false), (22, false), (23, false)] [] [] Try_mixed (by kernel_rfl) (pq_then pq_body) (List.Sublist.refl _) ?_
        refine h_quiet [(7, .idx x.waits.ad (n).toNat), (9, .ext [.int .i64 (x.waits.at (n).toNat).seq]), (15, .idx x.waits.ad (n).toNat), (17, .ext [.int .i64 (x.waits.at (n).toNat).op.kind, .string (x.waits.at (n).toNat).op.a, .string (x.waits.at (n).toNat).op.b, .int .i64 (x.waits.at (n).toNat).op.n])] 17 [(40, .v (.agg #[.int .i64 (x.waits.at (n).toNat).op.kind, .string (x.waits.at (n).toNat).op.a, .string (x.waits.at (n).toNat).op.b, .int .i64 (x.waits.at (n).toNat).op.n])), (39, .v (.pointer (some ((x.waits.ad.add ((n).toNat * 5)).add 1)))), (38, .v (.pointer (some (x.waits.ad.add ((n).toNat * 5))))), (37, vI n), (36, .v (.slice x.waits.A x.waits.n x.waits.c)), (35, .p 0 3), (33, .v (.agg #[.int .i64 x.id, .int .i64 x.session, .int .i64 x.next, .slice x.waits.A x.waits.n x.waits.c])), (32, vI (x.waits.at (n).toNat).seq), (31, .v (.pointer (some ((x.waits.ad.add ((n).toNat * 5)).add 0)))), (30, .v (.pointer (some (x.waits.ad.add ((n).toNat * 5))))), (29, vI n), (28, .v (.slice x.waits.A x.waits.n x.waits.c)), (27, .p 0 3), (26, vI x.session), (25, .p 0 1), (24, vI x.id), (23, .p 0 0), (21, vB false), (6, vI (mCust x.abs)), (2, .p 0 0), (1, vI n)] [x.waits.A = some x.waits.ad, n = (((n).toNat : Nat) : Int), (n).toNat < x.waits.n, x.waits.A = some x.waits.ad, n = (((n).toNat : Nat) : Int), (n).toNat < x.waits.n] [((x.waits.ad.add ((n).toNat * 5)).add 0, [.int .i64 (x.waits.at (n).toNat).seq]), ((x.waits.ad.add ((n).toNat * 5)).add 1, [.int .i64 (x.waits.at (n).toNat).op.kind, .string (x.waits.at (n).toNat).op.a, .string (x.waits.at (n).toNat).op.b, .int .i64 (x.waits.at (n).toNat).op.n])] rfl rfl (by kernel_rfl) (oc (Sl.ok.own (s := x.waits) (i := (n).toNat) okx (by omega)) (oc (by omega) (oc (by omega) (oc (Sl.ok.own (s := x.waits) (i := (n).toNat) okx (by omega)) (oc (by omega) (oc (by omega) on)))))) (fun w hk hr => ⟨(Sl.rd.fld (s := x.waits) (i := (n).toNat) (Rds.kp hx hk) (by omega) 0 1 rfl), ⟨(Sl.rd.fld (s := x.waits) (i := (n).toNat) (Rds.kp hx hk) (by omega) 1 4 rfl), trivial⟩⟩) ?_
        refine h_pure 51 [] [.v (.agg #[.int .i64 x.id, .int .i64 x.session, .int .i64 x.next, .slice x.waits.A x.waits.n x.waits.c])] (.int .i64 (mAck x.abs)) rfl Try.call51 rfl rfl rfl rfl (fun bs w hS => ref_knownOf x w (Rds.kp hx hS.kp) ⟨by omega, by omega⟩ (fun hz => hseq 0 hz)) (fun bs0 bs w hp hl hS => hS.down hp hl rfl (le_same le_nil) (List.Sublist.refl _)) ?_
        refine h_quiet [] 1 [(41, .v (.agg #[.int .i64 2, .int .i64 x.id, .int .i64 x.session, .int .i64 (x.waits.at (n).toNat).seq, .int .i64 (mAck x.abs), .int .i64 (x.waits.at (n).toNat).op.kind, .string (x.waits.at (n).toNat).op.a, .string (x.waits.at (n).toNat).op.b, .int .i64 (x.waits.at (n).toNat).op.n])), (34, vI (mAck x.abs)), (40, .v (.agg #[.int .i64 (x.waits.at (n).toNat).op.kind, .string (x.waits.at (n).toNat).op.a, .string (x.waits.at (n).toNat).op.b, .int .i64 (x.waits.at (n).toNat).op.n])), (39, .v (.pointer (some ((x.waits.ad.add ((n).toNat * 5)).add 1)))), (38, .v (.pointer (some (x.waits.ad.add ((n).toNat * 5))))), (37, vI n), (36, .v (.slice x.waits.A x.waits.n x.waits.c)), (35, .p 0 3), (33, .v (.agg #[.int .i64 x.id, .int .i64 x.session, .int .i64 x.next, .slice x.waits.A x.waits.n x.waits.c])), (32, vI (x.waits.at (n).toNat).seq), (31, .v (.pointer (some ((x.waits.ad.add ((n).toNat * 5)).add 0)))), (30, .v (.pointer (some (x.waits.ad.add ((n).toNat * 5))))), (29, vI n), (28, .v (.slice x.waits.A x.waits.n x.waits.c)), (27, .p 0 3), (26, vI x.session), (25, .p 0 1), (24, vI x.id), (23, .p 0 0), (21, vB false), (6, vI (mCust x.abs)), (2, .p 0 0), (1, vI n)] [] [] rfl rfl (by kernel_rfl) on wn ?_
        refine h_pure 70 [] [.v (.agg #[.int .i64 2, .int .i64 x.id, .int .i64 x.session, .int .i64 (x.waits.at (n).toNat).seq, .int .i64 (mAck x.abs), .int .i64 (x.waits.at (n).toNat).op.kind, .string (x.waits.at (n).toNat).op.a, .string (x.waits.at (n).toNat).op.b, .int .i64 (x.waits.at (n).toNat).op.n])] (.tuple #[.string ((mEnc (⟨2, x.id, x.session, (x.waits.at (n).toNat).seq, mAck x.abs, ⟨(x.waits.at (n).toNat).op.kind, (x.waits.at (n).toNat).op.a, (x.waits.at (n).toNat).op.b, (x.waits.at (n).toNat).op.n⟩⟩ : DCommand)).1), .int .i64 ((mEnc (⟨2, x.id, x.session, (x.waits.at (n).toNat).seq, mAck x.abs, ⟨(x.waits.at (n).toNat).op.kind, (x.waits.at (n).toNat).op.a, (x.waits.at (n).toNat).op.b, (x.waits.at (n).toNat).op.n⟩⟩ : DCommand)).2)]) rfl Try.call70 rfl rfl rfl rfl (fun bs w hS => ref_CommandBytes (B := anyB) (⟨2, x.id, x.session, (x.waits.at (n).toNat).seq, mAck x.abs, ⟨(x.waits.at (n).toNat).op.kind, (x.waits.at (n).toNat).op.a, (x.waits.at (n).toNat).op.b, (x.waits.at (n).toNat).op.n⟩⟩ : DCommand) w ⟨(show (x.waits.at (n).toNat).op.a.size ≤ 9223372036854775807 from (And.left (Sl.ok.at (s := x.waits) (i := (n).toNat) okx (by omega)))), (show (x.waits.at (n).toNat).op.b.size ≤ 9223372036854775807 from (And.right (Sl.ok.at (s := x.waits) (i := (n).toNat) okx (by omega))))⟩) (fun bs0 bs w hp hl hS => hS.down hp hl rfl (le_same le_nil) (List.Sublist.refl _)) ?_
        refine h_quiet [] 4 [(5, vI ((mEnc (⟨2, x.id, x.session, (x.waits.at (n).toNat).seq, mAck x.abs, ⟨(x.waits.at (n).toNat).op.kind, (x.waits.at (n).toNat).op.a, (x.waits.at (n).toNat).op.b, (x.waits.at (n).toNat).op.n⟩⟩ : DCommand)).2)), (4, vS ((mEnc (⟨2, x.id, x.session, (x.waits.at (n).toNat).seq, mAck x.abs, ⟨(x.waits.at (n).toNat).op.kind, (x.waits.at (n).toNat).op.a, (x.waits.at (n).toNat).op.b, (x.waits.at (n).toNat).op.n⟩⟩ : DCommand)).1)), (44, vI ((mEnc (⟨2, x.id, x.session, (x.waits.at (n).toNat).seq, mAck x.abs, ⟨(x.waits.at (n).toNat).op.kind, (x.waits.at (n).toNat).op.a, (x.waits.at (n).toNat).op.b, (x.waits.at (n).toNat).op.n⟩⟩ : DCommand)).2)), (43, vS ((mEnc (⟨2, x.id, x.session, (x.waits.at (n).toNat).seq, mAck x.abs, ⟨(x.waits.at (n).toNat).op.kind, (x.waits.at (n).toNat).op.a, (x.waits.at (n).toNat).op.b, (x.waits.at (n).toNat).op.n⟩⟩ : DCommand)).1)), (42, .v (.tuple #[.string ((mEnc (⟨2, x.id, x.session, (x.waits.at (n).toNat).seq, mAck x.abs, ⟨(x.waits.at (n).toNat).op.kind, (x.waits.at (n).toNat).op.a, (x.waits.at (n).toNat).op.b, (x.waits.at (n).toNat).op.n⟩⟩ : DCommand)).1), .int .i64 ((mEnc (⟨2, x.id, x.session, (x.waits.at (n).toNat).seq, mAck x.abs, ⟨(x.waits.at (n).toNat).op.kind, (x.waits.at (n).toNat).op.a, (x.waits.at (n).toNat).op.b, (x.waits.at (n).toNat).op.n⟩⟩ : DCommand)).2)])), (41, .v (.agg #[.int .i64 2, .int .i64 x.id, .int .i64 x.session, .int .i64 (x.waits.at (n).toNat).seq, .int .i64 (mAck x.abs), .int .i64 (x.waits.at (n).toNat).op.kind, .string (x.waits.at (n).toNat).op.a, .string (x.waits.at (n).toNat).op.b, .int .i64 (x.waits.at (n).toNat).op.n])), (34, vI (mAck x.abs)), (40, .v (.agg #[.int .i64 (x.waits.at (n).toNat).op.kind, .string (x.waits.at (n).toNat).op.a, .string (x.waits.at (n).toNat).op.b, .int .i64 (x.waits.at (n).toNat).op.n])), (39, .v (.pointer (some ((x.waits.ad.add ((n).toNat * 5)).add 1)))), (38, .v (.pointer (some (x.waits.ad.add ((n).toNat * 5))))), (37, vI n), (36, .v (.slice x.waits.A x.waits.n x.waits.c)), (35, .p 0 3), (33, .v (.agg #[.int .i64 x.id, .int .i64 x.session, .int .i64 x.next, .slice x.waits.A x.waits.n x.waits.c])), (32, vI (x.waits.at (n).toNat).seq), (31, .v (.pointer (some ((x.waits.ad.add ((n).toNat * 5)).add 0)))), (30, .v (.pointer (some (x.waits.ad.add ((n).toNat * 5))))), (29, vI n), (28, .v (.slice x.waits.A x.waits.n x.waits.c)), (27, .p 0 3), (26, vI x.session), (25, .p 0 1), (24, vI x.id), (23, .p 0 0), (21, vB false), (6, vI (mCust x.abs)), (2, .p 0 0), (1, vI n)] [] [] rfl rfl (by kernel_rfl) on wn ?_
        refine h_nil ?_
        refine l_nil (q_then_normal ?_)
        refine c_ret ?_
        refine q_ret (.inl rfl) [vS ((mEnc (⟨2, x.id, x.session, (x.waits.at (n).toNat).seq, mAck x.abs, ⟨(x.waits.at (n).toNat).op.kind, (x.waits.at (n).toNat).op.a, (x.waits.at (n).toNat).op.b, (x.waits.at (n).toNat).op.n⟩⟩ : DCommand)).1), vI ((mEnc (⟨2, x.id, x.session, (x.waits.at (n).toNat).seq, mAck x.abs, ⟨(x.waits.at (n).toNat).op.kind, (x.waits.at (n).toNat).op.a, (x.waits.at (n).toNat).op.b, (x.waits.at (n).toNat).op.n⟩⟩ : DCommand)).2)] rfl (fun bs w hS => ?_)
        refine ⟨?_, hS.kp⟩
        have hm : mReq x.abs n = ((mEnc (⟨2, x.id, x.session, (x.waits.at (n).toNat).seq, mAck x.abs, ⟨(x.waits.at (n).toNat).op.kind, (x.waits.at (n).toNat).op.a, (x.waits.at (n).toNat).op.b, (x.waits.at (n).toNat).op.n⟩⟩ : DCommand)).1, (mEnc (⟨2, x.id, x.session, (x.waits.at (n).toNat).seq, mAck x.abs, ⟨(x.waits.at (n).toNat).op.kind, (x.waits.at (n).toNat).op.a, (x.waits.at (n).toNat).op.b, (x.waits.at (n).toNat).op.n⟩⟩ : DCommand)).2) := by
          unfold mReq; rw [if_pos (by assumption), ha4, if_pos (by omega), hat, ha1, ha2]
        rw [hm]
        rfl
      | false =>
        have h3 := of_decide_eq_false h3
        exact absurd h1 h3
    | false =>
      simp only [inB, Bool.and_eq_true, Bool.and_eq_false_iff, decide_eq_true_eq, decide_eq_false_iff_not] at h2
      refine c_if true rfl ?_
      refine c_region ?_
      refine JL_run 1 [] [6, 2, 1] 1 ⟨[(6, vI 6), (2, .p 0 0), (1, vI n)], [⟨24, [vI x.id, vI x.session, vI x.next, .v (.slice x.waits.A x.waits.n x.waits.c)]⟩]⟩ [] [] (by kernel_rfl) on wn ?_
      refine l_nil (q_then_normal ?_)
      refine c_seq ?_
      refine c_seq ?_
      refine c_region ?_
      refine JL_run 2 [] [21, 6, 2, 1] 1 ⟨[(21, vB true), (6, vI 6), (2, .p 0 0), (1, vI n)], [⟨24, [vI x.id, vI x.session, vI x.next, .v (.slice x.waits.A x.waits.n x.waits.c)]⟩]⟩ [] [] (by kernel_rfl) on wn ?_
      refine l_nil (q_then_normal ?_)
      refine c_if true rfl ?_
      refine c_seq ?_
      refine c_region ?_
      refine JL_run 3 [] [5, 4] 0 ⟨[(5, vI 6), (4, vS emp)], []⟩ [] [] (by kernel_rfl) on wn ?_
      refine l_nil (q_then_normal ?_)
      refine c_ret ?_
      refine q_then_ret (q_ret (.inl rfl) [vS emp, vI 6] rfl (fun bs w hS => ?_))
      refine ⟨?_, hS.kp⟩
      have hm : mReq x.abs n = (emp, 6) := by
        unfold mReq; rw [if_pos (by assumption), ha4, if_neg (by omega)]
      rw [hm]
      rfl
  | false =>
    have h1 := of_decide_eq_false h1
    refine JL_run 8 [] [19, 6, 2, 1] 1 ⟨[(19, vB false), (6, vI (mCust x.abs)), (2, .p 0 0), (1, vI n)], [⟨24, [vI x.id, vI x.session, vI x.next, .v (.slice x.waits.A x.waits.n x.waits.c)]⟩]⟩ [] [] (by kernel_rfl) on wn ?_
    refine l_nil (q_then_normal ?_)
    refine c_if false rfl ?_
    refine c_skip ?_
    refine q_then_normal ?_
    refine c_seq ?_
    refine c_seq ?_
    refine c_region ?_
    refine JL_run 2 [] [21, 6, 2, 1] 1 ⟨[(21, vB (!(decide (mCust x.abs = 0)))), (6, vI (mCust x.abs)), (2, .p 0 0), (1, vI n)], [⟨24, [vI x.id, vI x.session, vI x.next, .v (.slice x.waits.A x.waits.n x.waits.c)]⟩]⟩ [] [] (by kernel_rfl) on wn ?_
    refine l_nil (q_then_normal ?_)
    cases h4 : decide (mCust x.abs = 0) with
    | true =>
      have h4 := of_decide_eq_true h4
      exact absurd h4 h1
    | false =>
      have h4 := of_decide_eq_false h4
      refine c_if true rfl ?_
      refine c_seq ?_
      refine c_region ?_
      refine JL_run 3 [] [5, 4] 0 ⟨[(5, vI (mCust x.abs)), (4, vS emp)], []⟩ [] [] (by kernel_rfl) on wn ?_
      refine l_nil (q_then_normal ?_)
      refine c_ret ?_
      refine q_then_ret (q_ret (.inl rfl) [vS emp, vI (mCust x.abs)] rfl (fun bs w hS => ?_))
      refine ⟨?_, hS.kp⟩
      have hm : mReq x.abs n = (emp, mCust x.abs) := by
        unfold mReq; rw [if_neg h1]
      rw [hm]
      rfl

theorem law_CustomerRequests {B : Nat → Prop} (x : CCustomer) (n : Int) (w : World) (hx : Rds.sub B w x) : Calls Try.prog 11 #[.agg #[.int .i64 x.id, .int .i64 x.session, .int .i64 x.next, .slice x.waits.A x.waits.n x.waits.c], .int .i64 n] w fun e w' => e = .returned (.bool true) ∧ Kp [] w w' := by
  have okx := Rds.okof hx
  refine calls_J0 29 Try.func11 rfl rfl [.agg #[.int .i64 x.id, .int .i64 x.session, .int .i64 x.next, .slice x.waits.A x.waits.n x.waits.c], .int .i64 n] rfl ?_
  refine c_seq ?_
  refine c_region ?_
  refine JL_run 2 [] [2, 1] 1 ⟨[(2, .p 0 0), (1, vI n)], [⟨24, [vI x.id, vI x.session, vI x.next, .v (.slice x.waits.A x.waits.n x.waits.c)]⟩]⟩ [] [] (by kernel_rfl) on wn ?_
  refine l_nil (q_then_normal ?_)
  refine c_seq ?_
  refine c_region ?_
  refine JL_run 2 [] [11, 10, 2, 1] 1 ⟨[(11, vI n), (10, .v (.agg #[.int .i64 x.id, .int .i64 x.session, .int .i64 x.next, .slice x.waits.A x.waits.n x.waits.c])), (2, .p 0 0), (1, vI n)], [⟨24, [vI x.id, vI x.session, vI x.next, .v (.slice x.waits.A x.waits.n x.waits.c)]⟩]⟩ [] [] (by kernel_rfl) on wn ?_
  refine l_pure 37 [] [.v (.agg #[.int .i64 x.id, .int .i64 x.session, .int .i64 x.next, .slice x.waits.A x.waits.n x.waits.c]), vI n] (.tuple #[.string ((mReq x.abs n).1), .int .i64 ((mReq x.abs n).2)]) Try.call37 rfl rfl rfl rfl (fun bs w hS => customer_Request x n w (Rds.kp hx hS.kp)) ?_
  refine JL_run 5 [] [6, 5, 2, 1] 1 ⟨[(6, vI ((mReq x.abs n).2)), (5, vS ((mReq x.abs n).1)), (2, .p 0 0), (1, vI n)], [⟨24, [vI x.id, vI x.session, vI x.next, .v (.slice x.waits.A x.waits.n x.waits.c)]⟩]⟩ [] [] (by kernel_rfl) on wn ?_
  refine l_nil (q_then_normal ?_)
  refine c_seq ?_
  refine c_region ?_
  refine JL_run 2 [] [17, 16, 6, 5] 0 ⟨[(17, vI n), (16, .v (.agg #[.int .i64 x.id, .int .i64 x.session, .int .i64 x.next, .slice x.waits.A x.waits.n x.waits.c])), (6, vI ((mReq x.abs n).2)), (5, vS ((mReq x.abs n).1))], []⟩ [] [] (by kernel_rfl) on wn ?_
  refine l_pure 38 [] [.v (.agg #[.int .i64 x.id, .int .i64 x.session, .int .i64 x.next, .slice x.waits.A x.waits.n x.waits.c]), vI n] (.tuple #[.string ((mReq x.abs n).1), .int .i64 ((mReq x.abs n).2)]) Try.call38 rfl rfl rfl rfl (fun bs w hS => ref_RequestOf x n w (Rds.kp hx hS.kp)) ?_
  refine JL_run 5 [] [8, 7, 6, 5] 0 ⟨[(8, vI ((mReq x.abs n).2)), (7, vS ((mReq x.abs n).1)), (6, vI ((mReq x.abs n).2)), (5, vS ((mReq x.abs n).1))], []⟩ [] [] (by kernel_rfl) on wn ?_
  refine l_nil (q_then_normal ?_)
  refine c_seq ?_
  refine c_region ?_
  refine JL_run 4 [] [24, 8, 6] 0 ⟨[(24, vB (decide (((mReq x.abs n).1) = ((mReq x.abs n).1)))), (8, vI ((mReq x.abs n).2)), (6, vI ((mReq x.abs n).2))], []⟩ [] [] (by kernel_rfl) on wn ?_
  cases h1 : decide (((mReq x.abs n).1) = ((mReq x.abs n).1)) with
  | true =>
    have h1 := of_decide_eq_true h1
    refine JL_run 5 [] [4] 0 ⟨[(4, vB (decide ((mReq x.abs n).2 = (mReq x.abs n).2)))], []⟩ [] [] (by kernel_rfl) on wn ?_
    refine l_nil (q_then_normal ?_)
    refine c_ret ?_
    refine q_ret (.inl rfl) [vB (decide ((mReq x.abs n).2 = (mReq x.abs n).2))] rfl (fun bs w hS => ?_)
    refine ⟨?_, hS.kp⟩
    simp [retOf, den]
  | false =>
    have h1 := of_decide_eq_false h1
    exact absurd rfl h1

end Go.Proofs.Ytececkgjacccmac.W
