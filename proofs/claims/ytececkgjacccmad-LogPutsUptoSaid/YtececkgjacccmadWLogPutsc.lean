/-
  The functions that the law LogPuts reaches, walked: each returns what its model says.
  Conditions: those that each theorem states.
-/
import Derived.Test.YtececkgjacccmadWLogPutsb
set_option linter.unusedVariables false
set_option linter.unusedSimpArgs false
set_option maxRecDepth 100000
namespace Go.Proofs.Ytececkgjacccmad.W
open Go.Proofs.Ytececkgjacccmad.Fw Go.RowKit

theorem ref_PutOf {B B' : Nat → Prop} (x : CLog) (n : Int) (m : Sl ByteArray) (w : World) (hx : Rds.sub B w x) (hm : m.rd B' w) : Calls Try.prog 27 #[.agg #[.int .i64 x.base, .slice x.entries.A x.entries.n x.entries.c], .int .i64 n, .slice m.A m.n m.c] w fun e w' => ∃ y : CLog, e = .returned (.tuple #[y.val, .int .i64 (mPut x.abs n m.xs).2]) ∧ y.abs = (mPut x.abs n m.xs).1 ∧ FreshS w w' y := by
  have okx := Rds.okof hx
  have ncx := Sl.ok.nc okx
  have hnx : x.entries.n = x.entries.xs.length := rfl
  have hla : mLast x.abs = x.base + (x.entries.n : Int) := rfl
  have q1 : x.abs.base = x.base := rfl
  have q2 : x.abs.entries = x.entries.xs := rfl
  have hat : ∀ q, x.entries.xs.getD q default = x.entries.at q := fun _ => rfl
  have okm := Sl.rd.ok hm
  have ncm := Sl.ok.nc okm
  have hmx : m.n = m.xs.length := rfl
  refine calls_J0 112 Try.func27 rfl rfl [.agg #[.int .i64 x.base, .slice x.entries.A x.entries.n x.entries.c], .int .i64 n, .slice m.A m.n m.c] rfl ?_
  refine c_seq ?_
  refine c_region ?_
  refine JL_run 3 [] [6, 3, 1, 2] 2 ⟨[(6, .p 1 0), (3, .p 0 0), (1, vI n), (2, .v (.slice m.A m.n m.c))], [⟨33, [vI x.base, .v (.slice x.entries.A x.entries.n x.entries.c)]⟩, ⟨33, [vI 0, .v (.slice none 0 0)]⟩]⟩ [] [] (by kernel_rfl) on wn ?_
  refine l_nil (q_then_normal ?_)
  refine c_seq ?_
  refine c_region ?_
  refine JL_run 1 [] [14, 6, 3, 1, 2] 2 ⟨[(14, .v (.agg #[.int .i64 x.base, .slice x.entries.A x.entries.n x.entries.c])), (6, .p 1 0), (3, .p 0 0), (1, vI n), (2, .v (.slice m.A m.n m.c))], [⟨33, [vI x.base, .v (.slice x.entries.A x.entries.n x.entries.c)]⟩, ⟨33, [vI 0, .v (.slice none 0 0)]⟩]⟩ [] [] (by kernel_rfl) on wn ?_
  refine l_pure 63 [] [.v (.agg #[.int .i64 x.base, .slice x.entries.A x.entries.n x.entries.c])] (.int .i64 (mLog x.abs)) Try.call63 rfl rfl rfl rfl (fun bs w hS => ref_LogFault x w (Rds.kp hx hS.kp)) ?_
  refine JL_run 1 [] [8, 6, 3, 1, 2] 2 ⟨[(8, vI (mLog x.abs)), (6, .p 1 0), (3, .p 0 0), (1, vI n), (2, .v (.slice m.A m.n m.c))], [⟨33, [vI x.base, .v (.slice x.entries.A x.entries.n x.entries.c)]⟩, ⟨33, [vI 0, .v (.slice none 0 0)]⟩]⟩ [] [] (by kernel_rfl) on wn ?_
  refine l_nil (q_then_normal ?_)
  refine c_seq ?_
  refine c_seq ?_
  refine c_region ?_
  refine JL_run 3 [] [18, 8, 6, 3, 1, 2] 2 ⟨[(18, vB (decide (mLog x.abs = 0))), (8, vI (mLog x.abs)), (6, .p 1 0), (3, .p 0 0), (1, vI n), (2, .v (.slice m.A m.n m.c))], [⟨33, [vI x.base, .v (.slice x.entries.A x.entries.n x.entries.c)]⟩, ⟨33, [vI 0, .v (.slice none 0 0)]⟩]⟩ [] [] (by kernel_rfl) on wn ?_
  cases h1 : decide (mLog x.abs = 0) with
  | true =>
    have h1 := of_decide_eq_true h1
    obtain ⟨hb1, hb2, hb3, hb4⟩ := mLog_bd h1
    rw [q1] at hb1 hb2
    rw [q2] at hb3
    have hmsz : ∀ z, z ∈ x.entries.xs → z.size ≤ 9223372036854775807 := fun z hz => Sl.rd.mem (s := x.entries) hx z hz
    refine JL_run 1 [] [19, 18, 8, 6, 3, 1, 2] 2 ⟨[(19, vI n), (18, vB true), (8, vI (mLog x.abs)), (6, .p 1 0), (3, .p 0 0), (1, vI n), (2, .v (.slice m.A m.n m.c))], [⟨33, [vI x.base, .v (.slice x.entries.A x.entries.n x.entries.c)]⟩, ⟨33, [vI 0, .v (.slice none 0 0)]⟩]⟩ [] [] (by kernel_rfl) on wn ?_
    refine l_pure 64 [] [vI n, vI 0, vI 1073741824] (.bool (inB n 0 1073741824)) Try.call64 rfl rfl rfl rfl (fun bs w hS => ref_In _ _ _ w) ?_
    refine JL_run 2 [] [22, 8, 6, 3, 1, 2] 2 ⟨[(22, vB (!(inB n 0 1073741824))), (8, vI (mLog x.abs)), (6, .p 1 0), (3, .p 0 0), (1, vI n), (2, .v (.slice m.A m.n m.c))], [⟨33, [vI x.base, .v (.slice x.entries.A x.entries.n x.entries.c)]⟩, ⟨33, [vI 0, .v (.slice none 0 0)]⟩]⟩ [] [] (by kernel_rfl) on wn ?_
    refine l_nil (q_then_normal ?_)
    cases h2 : inB n 0 1073741824 with
    | true =>
      simp only [inB, Bool.and_eq_true, Bool.and_eq_false_iff, decide_eq_true_eq, decide_eq_false_iff_not] at h2
      refine c_if false rfl ?_
      refine c_skip ?_
      refine q_then_normal ?_
      refine c_seq ?_
      refine c_seq ?_
      refine c_region ?_
      refine JL_run 3 [] [25, 8, 6, 3, 1, 2] 2 ⟨[(25, vB (decide (mLog x.abs = 0))), (8, vI (mLog x.abs)), (6, .p 1 0), (3, .p 0 0), (1, vI n), (2, .v (.slice m.A m.n m.c))], [⟨33, [vI x.base, .v (.slice x.entries.A x.entries.n x.entries.c)]⟩, ⟨33, [vI 0, .v (.slice none 0 0)]⟩]⟩ [] [] (by kernel_rfl) on wn ?_
      cases h3 : decide (mLog x.abs = 0) with
      | true =>
        have h3 := of_decide_eq_true h3
        obtain ⟨hb1, hb2, hb3, hb4⟩ := mLog_bd h3
        rw [q1] at hb1 hb2
        rw [q2] at hb3
        have hmsz : ∀ z, z ∈ x.entries.xs → z.size ≤ 9223372036854775807 := fun z hz => Sl.rd.mem (s := x.entries) hx z hz
        refine JL_run 4 [] [29, 8, 6, 3, 1, 2] 2 ⟨[(29, vB (decide ((400 : Int) < ((m.n : Nat) : Int)))), (8, vI (mLog x.abs)), (6, .p 1 0), (3, .p 0 0), (1, vI n), (2, .v (.slice m.A m.n m.c))], [⟨33, [vI x.base, .v (.slice x.entries.A x.entries.n x.entries.c)]⟩, ⟨33, [vI 0, .v (.slice none 0 0)]⟩]⟩ [] [] (by kernel_rfl) on wn ?_
        refine l_nil (q_then_normal ?_)
        cases h4 : decide ((400 : Int) < ((m.n : Nat) : Int)) with
        | true =>
          have h4 := of_decide_eq_true h4
          refine c_if true rfl ?_
          refine c_region ?_
          refine JL_run 1 [] [8, 6, 3, 1, 2] 2 ⟨[(8, vI 1), (6, .p 1 0), (3, .p 0 0), (1, vI n), (2, .v (.slice m.A m.n m.c))], [⟨33, [vI x.base, .v (.slice x.entries.A x.entries.n x.entries.c)]⟩, ⟨33, [vI 0, .v (.slice none 0 0)]⟩]⟩ [] [] (by kernel_rfl) on wn ?_
          refine l_nil (q_then_normal ?_)
          refine c_seq ?_
          refine c_seq ?_
          refine c_region ?_
          refine JL_run 8 [] [37, 8, 6, 3, 1, 2] 2 ⟨[(37, vB false), (8, vI 1), (6, .p 1 0), (3, .p 0 0), (1, vI n), (2, .v (.slice m.A m.n m.c))], [⟨33, [vI x.base, .v (.slice x.entries.A x.entries.n x.entries.c)]⟩, ⟨33, [vI 0, .v (.slice none 0 0)]⟩]⟩ [] [] (by kernel_rfl) on wn ?_
          refine l_nil (q_then_normal ?_)
          refine c_if false rfl ?_
          refine c_skip ?_
          refine q_then_normal ?_
          refine c_seq ?_
          refine c_seq ?_
          refine c_region ?_
          refine JL_run 2 [] [39, 8, 6, 3, 1, 2] 2 ⟨[(39, vB true), (8, vI 1), (6, .p 1 0), (3, .p 0 0), (1, vI n), (2, .v (.slice m.A m.n m.c))], [⟨33, [vI x.base, .v (.slice x.entries.A x.entries.n x.entries.c)]⟩, ⟨33, [vI 0, .v (.slice none 0 0)]⟩]⟩ [] [] (by kernel_rfl) on wn ?_
          refine l_nil (q_then_normal ?_)
          refine c_if true rfl ?_
          refine c_seq ?_
          refine c_region ?_
          refine JL_run 4 [] [7, 6] 2 ⟨[(7, vI 1), (6, .p 1 0)], [⟨33, [vI x.base, .v (.slice x.entries.A x.entries.n x.entries.c)]⟩, ⟨33, [vI 0, .v (.slice none 0 0)]⟩]⟩ [] [] (by kernel_rfl) on wn ?_
          refine l_nil (q_then_normal ?_)
          refine c_ret ?_
          refine q_then_ret (q_ret (.inl rfl) [.v (.agg #[.int .i64 0, .slice none 0 0]), vI 1] rfl (fun bs w hS => ?_))
          have hm : mPut x.abs n m.xs = (zLog, 1) := by
            unfold mPut; rw [if_neg (by simpa using (by assumption : mLog _ = 0)), hla, q1, q2]
            first | rw [if_pos (by omega)] | rw [if_neg (by omega), if_pos (by omega)] | rw [if_neg (by omega), if_neg (by omega), if_pos (by omega)] | (rw [if_neg (by omega), if_neg (by omega), if_neg (by omega), if_neg (by simp), if_pos (by show 400 < E.length; omega)])
            all_goals first | rfl | (exfalso; omega)
          refine ⟨⟨0, Sl.nil⟩, ?_, ?_, hS.outS (y := (⟨0, Sl.nil⟩ : CLog)) (Sl.rd_nil _ _)⟩
          · simp only [retOf, den, List.map_cons, List.map_nil]; rw [hm]; rfl
          · rw [hm]; rfl
        | false =>
          have h4 := of_decide_eq_false h4
          refine c_if false rfl ?_
          refine c_skip ?_
          refine q_then_normal ?_
          refine c_seq ?_
          refine c_seq ?_
          refine c_region ?_
          refine JL_run 3 [] [32, 8, 6, 3, 1, 2] 2 ⟨[(32, vB (decide (mLog x.abs = 0))), (8, vI (mLog x.abs)), (6, .p 1 0), (3, .p 0 0), (1, vI n), (2, .v (.slice m.A m.n m.c))], [⟨33, [vI x.base, .v (.slice x.entries.A x.entries.n x.entries.c)]⟩, ⟨33, [vI 0, .v (.slice none 0 0)]⟩]⟩ [] [] (by kernel_rfl) on wn ?_
          cases h5 : decide (mLog x.abs = 0) with
          | true =>
            have h5 := of_decide_eq_true h5
            obtain ⟨hb1, hb2, hb3, hb4⟩ := mLog_bd h5
            rw [q1] at hb1 hb2
            rw [q2] at hb3
            have hmsz : ∀ z, z ∈ x.entries.xs → z.size ≤ 9223372036854775807 := fun z hz => Sl.rd.mem (s := x.entries) hx z hz
            refine JL_run 2 [] [34, 33, 32, 8, 6, 3, 1, 2] 2 ⟨[(34, .v (.agg #[.int .i64 x.base, .slice x.entries.A x.entries.n x.entries.c])), (33, vI n), (32, vB true), (8, vI (mLog x.abs)), (6, .p 1 0), (3, .p 0 0), (1, vI n), (2, .v (.slice m.A m.n m.c))], [⟨33, [vI x.base, .v (.slice x.entries.A x.entries.n x.entries.c)]⟩, ⟨33, [vI 0, .v (.slice none 0 0)]⟩]⟩ [] [] (by kernel_rfl) on wn ?_
            refine l_pure 65 [] [.v (.agg #[.int .i64 x.base, .slice x.entries.A x.entries.n x.entries.c])] (.int .i64 (x.base + (x.entries.n : Int))) Try.call65 rfl rfl rfl rfl (fun bs w hS => ref_LastOf x w (Rds.kp hx hS.kp) (by first | exact ⟨by omega, by omega, by omega⟩ | omega)) ?_
            refine JL_run 2 [] [37, 8, 6, 3, 1, 2] 2 ⟨[(37, vB (decide (x.base + (x.entries.n : Int) < n))), (8, vI (mLog x.abs)), (6, .p 1 0), (3, .p 0 0), (1, vI n), (2, .v (.slice m.A m.n m.c))], [⟨33, [vI x.base, .v (.slice x.entries.A x.entries.n x.entries.c)]⟩, ⟨33, [vI 0, .v (.slice none 0 0)]⟩]⟩ [] [] (by kernel_rfl) on wn ?_
            refine l_nil (q_then_normal ?_)
            cases h6 : decide (x.base + (x.entries.n : Int) < n) with
            | true =>
              have h6 := of_decide_eq_true h6
              refine c_if true rfl ?_
              refine c_region ?_
              refine JL_run 1 [] [8, 6, 3, 1, 2] 2 ⟨[(8, vI 13), (6, .p 1 0), (3, .p 0 0), (1, vI n), (2, .v (.slice m.A m.n m.c))], [⟨33, [vI x.base, .v (.slice x.entries.A x.entries.n x.entries.c)]⟩, ⟨33, [vI 0, .v (.slice none 0 0)]⟩]⟩ [] [] (by kernel_rfl) on wn ?_
              refine l_nil (q_then_normal ?_)
              refine c_seq ?_
              refine c_seq ?_
              refine c_region ?_
              refine JL_run 2 [] [39, 8, 6, 3, 1, 2] 2 ⟨[(39, vB true), (8, vI 13), (6, .p 1 0), (3, .p 0 0), (1, vI n), (2, .v (.slice m.A m.n m.c))], [⟨33, [vI x.base, .v (.slice x.entries.A x.entries.n x.entries.c)]⟩, ⟨33, [vI 0, .v (.slice none 0 0)]⟩]⟩ [] [] (by kernel_rfl) on wn ?_
              refine l_nil (q_then_normal ?_)
              refine c_if true rfl ?_
              refine c_seq ?_
              refine c_region ?_
              refine JL_run 4 [] [7, 6] 2 ⟨[(7, vI 13), (6, .p 1 0)], [⟨33, [vI x.base, .v (.slice x.entries.A x.entries.n x.entries.c)]⟩, ⟨33, [vI 0, .v (.slice none 0 0)]⟩]⟩ [] [] (by kernel_rfl) on wn ?_
              refine l_nil (q_then_normal ?_)
              refine c_ret ?_
              refine q_then_ret (q_ret (.inl rfl) [.v (.agg #[.int .i64 0, .slice none 0 0]), vI 13] rfl (fun bs w hS => ?_))
              have hm : mPut x.abs n m.xs = (zLog, 13) := by
                unfold mPut; rw [if_neg (by simpa using (by assumption : mLog _ = 0)), hla, q1, q2]
                first | rw [if_pos (by omega)] | rw [if_neg (by omega), if_pos (by omega)] | rw [if_neg (by omega), if_neg (by omega), if_pos (by omega)] | (rw [if_neg (by omega), if_neg (by omega), if_neg (by omega), if_neg (by simp), if_pos (by show 400 < E.length; omega)])
                all_goals first | rfl | (exfalso; omega)
              refine ⟨⟨0, Sl.nil⟩, ?_, ?_, hS.outS (y := (⟨0, Sl.nil⟩ : CLog)) (Sl.rd_nil _ _)⟩
              · simp only [retOf, den, List.map_cons, List.map_nil]; rw [hm]; rfl
              · rw [hm]; rfl
            | false =>
              have h6 := of_decide_eq_false h6
              refine c_if false rfl ?_
              refine c_skip ?_
              refine q_then_normal ?_
              refine c_seq ?_
              refine c_seq ?_
              refine c_region ?_
              refine JL_run 2 [] [39, 8, 6, 3, 1, 2] 2 ⟨[(39, vB (!(decide (mLog x.abs = 0)))), (8, vI (mLog x.abs)), (6, .p 1 0), (3, .p 0 0), (1, vI n), (2, .v (.slice m.A m.n m.c))], [⟨33, [vI x.base, .v (.slice x.entries.A x.entries.n x.entries.c)]⟩, ⟨33, [vI 0, .v (.slice none 0 0)]⟩]⟩ [] [] (by kernel_rfl) on wn ?_
              refine l_nil (q_then_normal ?_)
              cases h7 : decide (mLog x.abs = 0) with
              | true =>
                have h7 := of_decide_eq_true h7
                obtain ⟨hb1, hb2, hb3, hb4⟩ := mLog_bd h7
                rw [q1] at hb1 hb2
                rw [q2] at hb3
                have hmsz : ∀ z, z ∈ x.entries.xs → z.size ≤ 9223372036854775807 := fun z hz => Sl.rd.mem (s := x.entries) hx z hz
                refine c_if false rfl ?_
                refine c_skip ?_
                refine q_then_normal ?_
                refine c_seq ?_
                refine c_region ?_
                refine JL_run 1 [] [42, 6, 3, 1, 2] 2 ⟨[(42, .v (.agg #[.int .i64 x.base, .slice x.entries.A x.entries.n x.entries.c])), (6, .p 1 0), (3, .p 0 0), (1, vI n), (2, .v (.slice m.A m.n m.c))], [⟨33, [vI x.base, .v (.slice x.entries.A x.entries.n x.entries.c)]⟩, ⟨33, [vI 0, .v (.slice none 0 0)]⟩]⟩ [] [] (by kernel_rfl) on wn ?_
                refine l_freshF (σ := Sl ByteArray) 25 [] [.v (.agg #[.int .i64 x.base, .slice x.entries.A x.entries.n x.entries.c])] (fun y1 => .agg #[.int .i64 x.base, .slice y1.A y1.n y1.c]) (fun y1 => y1.xs = x.entries.xs) (fun y1 => rowA 9 y1.A y1.c (y1.xs : List ByteArray)) Try.call25 rfl rfl rfl rfl (fun bs w hS => ref_LogCopyR x w (Rds.kp hx hS.kp) (by omega)) ?_
                rintro y1 hF1
                obtain ⟨A1, c1, rfl⟩ := Sl.of_xs hF1
                refine l_weak (rowA 9 A1 c1 (x.entries.xs : List ByteArray)) (List.Sublist.refl _) (fun w h => h) ?_
                refine l_know (F := RowOk A1 c1 (x.entries.xs : List ByteArray)) (fun bs w hS => rowA_rok (hS.res _ (.head _))) fun hrow1 => ?_
                have nchrow1 := hrow1.2
                refine JL_run 2 [] [9, 6, 3, 1, 2] 3 ⟨[(9, .p 2 0), (6, .p 1 0), (3, .p 0 0), (1, vI n), (2, .v (.slice m.A m.n m.c))], [⟨33, [vI x.base, .v (.slice x.entries.A x.entries.n x.entries.c)]⟩, ⟨33, [vI 0, .v (.slice none 0 0)]⟩, ⟨33, [vI x.base, .v (.slice A1 x.entries.xs.length c1)]⟩]⟩ [] [] (by kernel_rfl) on wn ?_
                refine l_nil (q_then_normal ?_)
                refine c_seq ?_
                refine c_seq ?_
                refine c_region ?_
                refine JL_run 1 [] [10, 9, 6, 3, 1, 2] 3 ⟨[(10, vI 0), (9, .p 2 0), (6, .p 1 0), (3, .p 0 0), (1, vI n), (2, .v (.slice m.A m.n m.c))], [⟨33, [vI x.base, .v (.slice x.entries.A x.entries.n x.entries.c)]⟩, ⟨33, [vI 0, .v (.slice none 0 0)]⟩, ⟨33, [vI x.base, .v (.slice A1 x.entries.xs.length c1)]⟩]⟩ [] [] (by kernel_rfl) on wn ?_
                refine l_nil (q_then_normal ?_)
                refine c_block ?_
                refine c_loop (σ := Nat × Option Addr × Nat × List ByteArray) (fun ⟨i, A, c, E⟩ => i ≤ m.n ∧ putGo x.entries.xs (n - x.base).toNat (m.xs.drop (x.base - n).toNat) = putGo E ((n - x.base).toNat + (i - (x.base - n).toNat)) (m.xs.drop (max i (x.base - n).toNat)) ∧ (n - x.base).toNat + (i - (x.base - n).toNat) ≤ E.length ∧ E.length ≤ 400 + i ∧ ∀ z, z ∈ E → z.size ≤ 9223372036854775807) (fun ⟨i, A, c, E⟩ => m.n - i) (fun ⟨i, A, c, E⟩ => [rowA 9 A c (E : List ByteArray)]) (fun ⟨i, A, c, E⟩ => ⟨[(10, vI ((i : Nat) : Int)), (9, .p 2 0), (6, .p 1 0), (3, .p 0 0), (1, vI n), (2, .v (.slice m.A m.n m.c))], [⟨33, [vI x.base, .v (.slice x.entries.A x.entries.n x.entries.c)]⟩, ⟨33, [vI 0, .v (.slice none 0 0)]⟩, ⟨33, [vI x.base, .v (.slice A E.length c)]⟩]⟩) ⟨0, A1, c1, x.entries.xs⟩ ⟨Nat.zero_le _, by rw [Nat.zero_max]; simp, by omega, by omega, hmsz⟩ (s_start [10, 9, 6, 3, 1, 2] 3 (by kernel_rfl) rfl) ?_
                rintro ⟨i, A, c, E⟩ ⟨hi, hP, hE, hE4, hEs⟩
                refine c_know (F := RowOk A c (E : List ByteArray)) (fun bs w hS => rowA_rok (hS.res _ (.head _))) fun hrow => ?_
                have nch := hrow.2
                refine c_seq ?_
                refine c_seq ?_
                refine c_region ?_
                refine JL_run 4 [] [47, 10, 9, 6, 3, 1, 2] 3 ⟨[(47, vB (decide (((i : Nat) : Int) < ((m.n : Nat) : Int)))), (10, vI ((i : Nat) : Int)), (9, .p 2 0), (6, .p 1 0), (3, .p 0 0), (1, vI n), (2, .v (.slice m.A m.n m.c))], [⟨33, [vI x.base, .v (.slice x.entries.A x.entries.n x.entries.c)]⟩, ⟨33, [vI 0, .v (.slice none 0 0)]⟩, ⟨33, [vI x.base, .v (.slice A E.length c)]⟩]⟩ [] [] (by kernel_rfl) on wn ?_
                refine l_nil (q_then_normal ?_)
                cases h8 : decide (((i : Nat) : Int) < ((m.n : Nat) : Int)) with
                | true =>
                  have h8 := of_decide_eq_true h8
                  refine c_if true rfl ?_
                  refine c_skip ?_
                  refine q_then_normal ?_
                  refine c_seq ?_
                  refine c_block ?_
                  refine c_seq ?_
                  refine c_region ?_
                  refine JL_run 5 [] [11, 10, 9, 6, 3, 1, 2] 3 ⟨[(11, vI ((n + ((i : Nat) : Int)) + 1)), (10, vI ((i : Nat) : Int)), (9, .p 2 0), (6, .p 1 0), (3, .p 0 0), (1, vI n), (2, .v (.slice m.A m.n m.c))], [⟨33, [vI x.base, .v (.slice x.entries.A x.entries.n x.entries.c)]⟩, ⟨33, [vI 0, .v (.slice none 0 0)]⟩, ⟨33, [vI x.base, .v (.slice A E.length c)]⟩]⟩ [inR (n + ((i : Nat) : Int)), inR ((n + ((i : Nat) : Int)) + 1)] [] (by kernel_rfl) (oc (by unfold inR; omega) (oc (by unfold inR; omega) on)) wn ?_
                  refine l_nil (q_then_normal ?_)
                  refine c_seq ?_
                  refine c_seq ?_
                  refine c_region ?_
                  refine JL_run 4 [] [57, 11, 10, 9, 6, 3, 1, 2] 3 ⟨[(57, vB (decide ((n + ((i : Nat) : Int)) + 1 ≤ x.base))), (11, vI ((n + ((i : Nat) : Int)) + 1)), (10, vI ((i : Nat) : Int)), (9, .p 2 0), (6, .p 1 0), (3, .p 0 0), (1, vI n), (2, .v (.slice m.A m.n m.c))], [⟨33, [vI x.base, .v (.slice x.entries.A x.entries.n x.entries.c)]⟩, ⟨33, [vI 0, .v (.slice none 0 0)]⟩, ⟨33, [vI x.base, .v (.slice A E.length c)]⟩]⟩ [] [] (by kernel_rfl) on wn ?_
                  refine l_nil (q_then_normal ?_)
                  cases h9 : decide ((n + ((i : Nat) : Int)) + 1 ≤ x.base) with
                  | true =>
                    have h9 := of_decide_eq_true h9
                    refine c_if true rfl ?_
                    refine c_exit ?_
                    refine q_then_exit (q_block_hit (q_then_normal ?_))
                    refine c_region ?_
                    refine JL_run 3 [] [10, 9, 6, 3, 1, 2] 3 ⟨[(10, vI (((i : Nat) : Int) + 1)), (9, .p 2 0), (6, .p 1 0), (3, .p 0 0), (1, vI n), (2, .v (.slice m.A m.n m.c))], [⟨33, [vI x.base, .v (.slice x.entries.A x.entries.n x.entries.c)]⟩, ⟨33, [vI 0, .v (.slice none 0 0)]⟩, ⟨33, [vI x.base, .v (.slice A E.length c)]⟩]⟩ [inR (((i : Nat) : Int) + 1)] [] (by kernel_rfl) (oc (by unfold inR; omega) on) wn ?_
                    refine l_nil (q_loop (x := (⟨i, A, c, E⟩ : Nat × Option Addr × Nat × List ByteArray)) (⟨i + 1, A, c, E⟩ : Nat × Option Addr × Nat × List ByteArray) ⟨by omega, by rw [hP, show i + 1 - (x.base - n).toNat = i - (x.base - n).toNat by omega, show max (i + 1) (x.base - n).toNat = max i (x.base - n).toNat by omega], by omega, by omega, hEs⟩ (by show m.n - (i + 1) < m.n - i; omega) (s_start [10, 9, 6, 3, 1, 2] 3 (by kernel_rfl) rfl))
                  | false =>
                    have h9 := of_decide_eq_false h9
                    refine c_if false rfl ?_
                    refine c_skip ?_
                    refine q_then_normal ?_
                    refine c_seq ?_
                    refine c_region ?_
                    refine JL_run 4 [(2, .idx m.ad i), (3, .ext [.string (m.at i)])] [62, 11, 10, 9, 6, 3, 1, 2] 3 ⟨[(62, vS (m.at i)), (11, vI ((n + ((i : Nat) : Int)) + 1)), (10, vI ((i : Nat) : Int)), (9, .p 2 0), (6, .p 1 0), (3, .p 0 0), (1, vI n), (2, .v (.slice m.A m.n m.c))], [⟨33, [vI x.base, .v (.slice x.entries.A x.entries.n x.entries.c)]⟩, ⟨33, [vI 0, .v (.slice none 0 0)]⟩, ⟨33, [vI x.base, .v (.slice A E.length c)]⟩]⟩ [m.A = some m.ad, ((i : Nat) : Int) = ((i : Nat) : Int), i < m.n] [(m.ad.add (i * 1), [.string (m.at i)])] (by kernel_rfl) (oc (Sl.ok.own (s := m) (i := i) okm (by omega)) (oc rfl (oc (by omega) on))) (fun w hk hr => ⟨(Sl.rd.all (s := m) (i := i) (Sl.rd.kp hm hk) (by omega) rfl), trivial⟩) ?_
                    refine l_pure 68 [] [vS (m.at i)] (.tuple #[.agg #[.int .i64 ((mDecode (m.at i)).1.kind), .int .i64 ((mDecode (m.at i)).1.client), .int .i64 ((mDecode (m.at i)).1.session), .int .i64 ((mDecode (m.at i)).1.seq), .int .i64 ((mDecode (m.at i)).1.acked), .int .i64 ((mDecode (m.at i)).1.op.kind), .string ((mDecode (m.at i)).1.op.a), .string ((mDecode (m.at i)).1.op.b), .int .i64 ((mDecode (m.at i)).1.op.n)], .int .i64 ((mDecode (m.at i)).2)]) Try.call68 rfl rfl rfl rfl (fun bs w hS => ref_CommandOf (m.at i) w (Sl.ok.at (s := m) (i := i) okm (by omega))) ?_
                    refine JL_run 6 [] [13, 11, 10, 9, 6, 3, 1, 2] 3 ⟨[(13, vI ((mDecode (m.at i)).2)), (11, vI ((n + ((i : Nat) : Int)) + 1)), (10, vI ((i : Nat) : Int)), (9, .p 2 0), (6, .p 1 0), (3, .p 0 0), (1, vI n), (2, .v (.slice m.A m.n m.c))], [⟨33, [vI x.base, .v (.slice x.entries.A x.entries.n x.entries.c)]⟩, ⟨33, [vI 0, .v (.slice none 0 0)]⟩, ⟨33, [vI x.base, .v (.slice A E.length c)]⟩]⟩ [] [] (by kernel_rfl) on wn ?_
                    refine l_nil (q_then_normal ?_)
                    refine c_seq ?_
                    refine c_seq ?_
                    refine c_region ?_
                    refine JL_run 2 [] [67, 13, 11, 10, 9, 6, 3, 1, 2] 3 ⟨[(67, vB (!(decide ((mDecode (m.at i)).2 = 0)))), (13, vI ((mDecode (m.at i)).2)), (11, vI ((n + ((i : Nat) : Int)) + 1)), (10, vI ((i : Nat) : Int)), (9, .p 2 0), (6, .p 1 0), (3, .p 0 0), (1, vI n), (2, .v (.slice m.A m.n m.c))], [⟨33, [vI x.base, .v (.slice x.entries.A x.entries.n x.entries.c)]⟩, ⟨33, [vI 0, .v (.slice none 0 0)]⟩, ⟨33, [vI x.base, .v (.slice A E.length c)]⟩]⟩ [] [] (by kernel_rfl) on wn ?_
                    refine l_nil (q_then_normal ?_)
                    cases h10 : decide ((mDecode (m.at i)).2 = 0) with
                    | true =>
                      have h10 := of_decide_eq_true h10
                      refine c_if false rfl ?_
                      refine c_skip ?_
                      refine q_then_normal ?_
                      refine c_seq ?_
                      refine c_seq ?_
                      refine c_draw 20 [] (.p 0 (.q 1 (.b 2 (.p 3 (.p 4 (.p 5 (.q 6 (.p 7 (.p 8 (.q 9 (.p 10 (.p 11 (.p 12 (.q 13 (.p 14 (.p 15 (.p 16 (.q 17 (.p 18 (.p 19 .nil))))))))))))))))) .z))) [] [rowA 9 A c (E : List ByteArray)] Try_mixed (by kernel_rfl) (pq_then (pq_then (pq_block (pq_then (pq_then (pq_block (pq_then pq_body))))))) (List.Sublist.refl _) ?_
                      refine h_quiet [] [(0, true), (1, false)] [(71, .v (.agg #[.int .i64 x.base, .slice A E.length c])), (70, vI ((n + ((i : Nat) : Int)) + 1)), (67, vB false), (13, vI ((mDecode (m.at i)).2)), (11, vI ((n + ((i : Nat) : Int)) + 1)), (10, vI ((i : Nat) : Int)), (9, .p 2 0), (6, .p 1 0), (3, .p 0 0), (1, vI n), (2, .v (.slice m.A m.n m.c))] [] [] rfl (by kernel_rfl) on wn ?_
                      refine h_pure 65 [] [.v (.agg #[.int .i64 x.base, .slice A E.length c])] (.int .i64 (x.base + ((E).length : Int))) rfl Try.call65 rfl rfl rfl rfl (fun bs w hS => ref_LastOf (⟨x.base, ⟨A, c, E⟩⟩ : CLog) w (rowA_rd (hS.res _ (.head _)) (fun _ _ => trivial) hEs : Sl.rd anyB w _) ⟨by omega, by omega, by show (E).length ≤ 1048576; omega⟩) (fun bs0 bs w hp hl hS => hS.down hp hl rfl (le_same (le_same (le_same le_nil))) (List.Sublist.refl _)) ?_
                      refine h_quiet [] [(3, true), (4, true)] [(74, vB (decide ((n + ((i : Nat) : Int)) + 1 ≤ x.base + ((E).length : Int)))), (73, vB (decide ((n + ((i : Nat) : Int)) + 1 ≤ x.base + ((E).length : Int)))), (72, vI (x.base + ((E).length : Int))), (71, .v (.agg #[.int .i64 x.base, .slice A E.length c])), (70, vI ((n + ((i : Nat) : Int)) + 1)), (67, vB false), (13, vI ((mDecode (m.at i)).2)), (11, vI ((n + ((i : Nat) : Int)) + 1)), (10, vI ((i : Nat) : Int)), (9, .p 2 0), (6, .p 1 0), (3, .p 0 0), (1, vI n), (2, .v (.slice m.A m.n m.c))] [] [] rfl (by kernel_rfl) on wn ?_
                      cases h11 : decide ((n + ((i : Nat) : Int)) + 1 ≤ x.base + ((E).length : Int)) with
                      | true =>
                        have h11 := of_decide_eq_true h11
                        refine h_quiet [(12, .idx (oad A) ((((n + ((i : Nat) : Int)) + 1) - x.base) - 1).toNat), (13, .ext [.string (E.getD ((((n + ((i : Nat) : Int)) + 1) - x.base) - 1).toNat default)]), (16, .idx m.ad i), (17, .ext [.string (m.at i)])] [(5, true), (6, false), (7, true), (8, true), (9, false), (10, true), (11, true), (12, true), (13, false), (14, true), (15, true), (16, true), (17, false), (18, true), (19, true)] [(89, vB (decide ((E.getD ((((n + ((i : Nat) : Int)) + 1) - x.base) - 1).toNat default) = (m.at i)))), (88, vB (decide ((E.getD ((((n + ((i : Nat) : Int)) + 1) - x.base) - 1).toNat default) = (m.at i)))), (87, vS (m.at i)), (86, .v (.pointer (some (m.ad.add (i * 1))))), (85, vI ((i : Nat) : Int)), (84, .v (.slice m.A m.n m.c)), (83, vS (E.getD ((((n + ((i : Nat) : Int)) + 1) - x.base) - 1).toNat default)), (82, .v (.pointer (some ((oad A).add (((((n + ((i : Nat) : Int)) + 1) - x.base) - 1).toNat * 1))))), (81, vI ((((n + ((i : Nat) : Int)) + 1) - x.base) - 1)), (80, vI (((n + ((i : Nat) : Int)) + 1) - x.base)), (79, vI x.base), (78, .p 0 0), (77, vI ((n + ((i : Nat) : Int)) + 1)), (76, .v (.slice A E.length c)), (75, .p 2 1), (74, vB true), (73, vB true), (72, vI (x.base + ((E).length : Int))), (71, .v (.agg #[.int .i64 x.base, .slice A E.length c])), (70, vI ((n + ((i : Nat) : Int)) + 1)), (67, vB false), (13, vI ((mDecode (m.at i)).2)), (11, vI ((n + ((i : Nat) : Int)) + 1)), (10, vI ((i : Nat) : Int)), (9, .p 2 0), (6, .p 1 0), (3, .p 0 0), (1, vI n), (2, .v (.slice m.A m.n m.c))] [inR (((n + ((i : Nat) : Int)) + 1) - x.base), inR ((((n + ((i : Nat) : Int)) + 1) - x.base) - 1), A = some (oad A), (((n + ((i : Nat) : Int)) + 1) - x.base) - 1 = ((((((n + ((i : Nat) : Int)) + 1) - x.base) - 1).toNat : Nat) : Int), ((((n + ((i : Nat) : Int)) + 1) - x.base) - 1).toNat < E.length, m.A = some m.ad, ((i : Nat) : Int) = ((i : Nat) : Int), i < m.n] [((oad A).add (((((n + ((i : Nat) : Int)) + 1) - x.base) - 1).toNat * 1), [.string (E.getD ((((n + ((i : Nat) : Int)) + 1) - x.base) - 1).toNat default)]), (m.ad.add (i * 1), [.string (m.at i)])] rfl (by kernel_rfl) (oc (by unfold inR; omega) (oc (by unfold inR; omega) (oc (hrow.1 ((((n + ((i : Nat) : Int)) + 1) - x.base) - 1).toNat (by omega)) (oc (by omega) (oc (by omega) (oc (Sl.ok.own (s := m) (i := i) okm (by omega)) (oc rfl (oc (by omega) on)))))))) (fun w hk hr => ⟨(rowA_all (i := ((((n + ((i : Nat) : Int)) + 1) - x.base) - 1).toNat) (hr _ (.head _)) (by omega) rfl), ⟨(Sl.rd.all (s := m) (i := i) (Sl.rd.kp hm hk) (by omega) rfl), trivial⟩⟩) ?_
                        refine h_nil ?_
                        refine l_nil (q_then_normal ?_)
                        cases h12 : decide ((E.getD ((((n + ((i : Nat) : Int)) + 1) - x.base) - 1).toNat default) = (m.at i)) with
                        | true =>
                          have h12 := of_decide_eq_true h12
                          refine c_if true rfl ?_
                          refine c_exit ?_
                          refine q_then_exit (q_block_hit (q_then_normal ?_))
                          refine c_region ?_
                          refine JL_run 3 [] [10, 9, 6, 3, 1, 2] 3 ⟨[(10, vI (((i : Nat) : Int) + 1)), (9, .p 2 0), (6, .p 1 0), (3, .p 0 0), (1, vI n), (2, .v (.slice m.A m.n m.c))], [⟨33, [vI x.base, .v (.slice x.entries.A x.entries.n x.entries.c)]⟩, ⟨33, [vI 0, .v (.slice none 0 0)]⟩, ⟨33, [vI x.base, .v (.slice A E.length c)]⟩]⟩ [inR (((i : Nat) : Int) + 1)] [] (by kernel_rfl) (oc (by unfold inR; omega) on) wn ?_
                          refine l_nil (q_loop (x := (⟨i, A, c, E⟩ : Nat × Option Addr × Nat × List ByteArray)) (⟨i + 1, A, c, E⟩ : Nat × Option Addr × Nat × List ByteArray) ⟨by omega, by rw [Nat.max_eq_left (show (x.base - n).toNat ≤ i + 1 by omega), hP, Nat.max_eq_left (show (x.base - n).toNat ≤ i by omega), putGo_next (by omega) h10, putOne_same (k := (n - x.base).toNat + (i - (x.base - n).toNat)) (by omega) (by rw [show (n - x.base).toNat + (i - (x.base - n).toNat) = ((((n + ((i : Nat) : Int)) + 1) - x.base) - 1).toNat by omega]; exact h12), show (n - x.base).toNat + (i - (x.base - n).toNat) + 1 = (n - x.base).toNat + (i + 1 - (x.base - n).toNat) by omega], by omega, by omega, hEs⟩ (by show m.n - (i + 1) < m.n - i; omega) (s_start [10, 9, 6, 3, 1, 2] 3 (by kernel_rfl) rfl))
                        | false =>
                          have h12 := of_decide_eq_false h12
                          refine c_if false rfl ?_
                          refine c_skip ?_
                          refine q_then_normal ?_
                          refine c_draw 14 [] (.p 0 (.q 1 (.p 2 (.p 3 (.q 4 (.p 5 (.p 6 (.p 7 (.p 9 (.p 10 (.p 11 (.q 12 (.b 8 (.b 13 .nil .z) (.b 13 (.b 8 .nil .z) .z)))))))))))))) [] [rowA 9 A c (E : List ByteArray)] Try_mixed (by kernel_rfl) (pq_block (pq_then (pq_then (pq_block (pq_then pq_body))))) (List.Sublist.refl _) ?_
                          refine h_quiet [(7, .sl 0 ((((n + ((i : Nat) : Int)) + 1) - x.base) - 1).toNat), (11, .idx m.ad i), (12, .ext [.string (m.at i)])] [(0, true), (1, false), (2, true), (3, true), (4, false), (5, true), (6, true), (7, true), (9, true), (10, true), (11, true), (12, false)] [(102, vS (m.at i)), (101, .v (.pointer (some (m.ad.add (i * 1))))), (100, vI ((i : Nat) : Int)), (99, .v (.slice m.A m.n m.c)), (97, .v (.slice A ((((n + ((i : Nat) : Int)) + 1) - x.base) - 1).toNat c)), (96, vI ((((n + ((i : Nat) : Int)) + 1) - x.base) - 1)), (95, vI (((n + ((i : Nat) : Int)) + 1) - x.base)), (94, vI x.base), (93, .p 0 0), (92, vI ((n + ((i : Nat) : Int)) + 1)), (91, .v (.slice A E.length c)), (90, .p 2 1), (89, vB false), (88, vB false), (87, vS (m.at i)), (86, .v (.pointer (some (m.ad.add (i * 1))))), (85, vI ((i : Nat) : Int)), (84, .v (.slice m.A m.n m.c)), (83, vS (E.getD ((((n + ((i : Nat) : Int)) + 1) - x.base) - 1).toNat default)), (82, .v (.pointer (some ((oad A).add (((((n + ((i : Nat) : Int)) + 1) - x.base) - 1).toNat * 1))))), (81, vI ((((n + ((i : Nat) : Int)) + 1) - x.base) - 1)), (80, vI (((n + ((i : Nat) : Int)) + 1) - x.base)), (79, vI x.base), (78, .p 0 0), (77, vI ((n + ((i : Nat) : Int)) + 1)), (76, .v (.slice A E.length c)), (75, .p 2 1), (74, vB true), (73, vB true), (72, vI (x.base + ((E).length : Int))), (71, .v (.agg #[.int .i64 x.base, .slice A E.length c])), (70, vI ((n + ((i : Nat) : Int)) + 1)), (67, vB false), (13, vI ((mDecode (m.at i)).2)), (11, vI ((n + ((i : Nat) : Int)) + 1)), (10, vI ((i : Nat) : Int)), (9, .p 2 0), (6, .p 1 0), (3, .p 0 0), (1, vI n), (2, .v (.slice m.A m.n m.c))] [inR (((n + ((i : Nat) : Int)) + 1) - x.base), inR ((((n + ((i : Nat) : Int)) + 1) - x.base) - 1), 0 = 0, (((n + ((i : Nat) : Int)) + 1) - x.base) - 1 = ((((((n + ((i : Nat) : Int)) + 1) - x.base) - 1).toNat : Nat) : Int), ((((n + ((i : Nat) : Int)) + 1) - x.base) - 1).toNat ≤ c, m.A = some m.ad, ((i : Nat) : Int) = ((i : Nat) : Int), i < m.n] [(m.ad.add (i * 1), [.string (m.at i)])] rfl (by kernel_rfl) (oc (by unfold inR; omega) (oc (by unfold inR; omega) (oc rfl (oc (by omega) (oc (by omega) (oc (Sl.ok.own (s := m) (i := i) okm (by omega)) (oc rfl (oc (by omega) on)))))))) (fun w hk hr => ⟨(Sl.rd.all (s := m) (i := i) (Sl.rd.kp hm hk) (by omega) rfl), trivial⟩) ?_
                          refine h_br ?_ ?_
                          ·
                            refine h_rowA (α := ByteArray) 9 ?_
                            refine h_appendA (α := ByteArray) 9 16 none 0 ([]) (.v (.slice A ((((n + ((i : Nat) : Int)) + 1) - x.base) - 1).toNat c)) ((E).take ((((n + ((i : Nat) : Int)) + 1) - x.base) - 1).toNat) rfl Try.underlying31 (by kernel_rfl) rfl rfl rfl rfl (fun bs w hS => ⟨_, _, by rw [(show ((E).take ((((n + ((i : Nat) : Int)) + 1) - x.base) - 1).toNat).length = ((((n + ((i : Nat) : Int)) + 1) - x.base) - 1).toNat by rw [List.length_take]; exact Nat.min_eq_left (by omega))]; rfl, by rw [(show ((E).take ((((n + ((i : Nat) : Int)) + 1) - x.base) - 1).toNat).length = ((((n + ((i : Nat) : Int)) + 1) - x.base) - 1).toNat by rw [List.length_take]; exact Nat.min_eq_left (by omega))]; exact SrcAt.takeL (rowA_src (hS.res _ (.tail _ (.head _)))) (by omega)⟩) (by simp only [List.length_append, List.length_nil, List.length_cons, List.length_take]; omega) (by simp only [List.length_append, List.length_nil, List.length_cons, List.length_take]; omega) (fun bs0 bs A2 c2 w hp hl hS => hS.down hp hl rfl (le_same (le_same (le_same le_nil))) (.cons _ (List.Sublist.refl _))) ?_
                            intro A3 c3
                            refine h_local ⟨[(103, .s 3 0 1 1), (98, .v (.slice A3 ([] ++ (E).take ((((n + ((i : Nat) : Int)) + 1) - x.base) - 1).toNat).length c3)), (102, vS (m.at i)), (101, .v (.pointer (some (m.ad.add (i * 1))))), (100, vI ((i : Nat) : Int)), (99, .v (.slice m.A m.n m.c)), (97, .v (.slice A ((((n + ((i : Nat) : Int)) + 1) - x.base) - 1).toNat c)), (96, vI ((((n + ((i : Nat) : Int)) + 1) - x.base) - 1)), (95, vI (((n + ((i : Nat) : Int)) + 1) - x.base)), (94, vI x.base), (93, .p 0 0), (92, vI ((n + ((i : Nat) : Int)) + 1)), (91, .v (.slice A E.length c)), (90, .p 2 1), (89, vB false), (88, vB false), (87, vS (m.at i)), (86, .v (.pointer (some (m.ad.add (i * 1))))), (85, vI ((i : Nat) : Int)), (84, .v (.slice m.A m.n m.c)), (83, vS (E.getD ((((n + ((i : Nat) : Int)) + 1) - x.base) - 1).toNat default)), (82, .v (.pointer (some ((oad A).add (((((n + ((i : Nat) : Int)) + 1) - x.base) - 1).toNat * 1))))), (81, vI ((((n + ((i : Nat) : Int)) + 1) - x.base) - 1)), (80, vI (((n + ((i : Nat) : Int)) + 1) - x.base)), (79, vI x.base), (78, .p 0 0), (77, vI ((n + ((i : Nat) : Int)) + 1)), (76, .v (.slice A E.length c)), (75, .p 2 1), (74, vB true), (73, vB true), (72, vI (x.base + ((E).length : Int))), (71, .v (.agg #[.int .i64 x.base, .slice A E.length c])), (70, vI ((n + ((i : Nat) : Int)) + 1)), (67, vB false), (13, vI ((mDecode (m.at i)).2)), (11, vI ((n + ((i : Nat) : Int)) + 1)), (10, vI ((i : Nat) : Int)), (9, .p 2 0), (6, .p 1 0), (3, .p 0 0), (1, vI n), (2, .v (.slice m.A m.n m.c))], [⟨33, [vI x.base, .v (.slice x.entries.A x.entries.n x.entries.c)]⟩, ⟨33, [vI 0, .v (.slice none 0 0)]⟩, ⟨33, [vI x.base, .v (.slice A E.length c)]⟩, ⟨9, [vS (m.at i)]⟩]⟩ (by kernel_rfl) (fun bs0 bs w hp hl hS => hS.down hp hl rfl (le_same (le_same (le_same le_nil))) (.cons _ (List.Sublist.refl _))) ?_
                            refine h_nil ?_
                            refine l_appendA (α := ByteArray) 9 16 A3 c3 ([] ++ (E).take ((((n + ((i : Nat) : Int)) + 1) - x.base) - 1).toNat) (.s 3 0 1 1) ([(m.at i)]) Try.underlying31 (by kernel_rfl) rfl rfl rfl (fun bs w hS => by obtain ⟨q1, q2, q3, q4⟩ := src_loc (i := 3) (off := 0) (k := 1) (c := 1) (q := 1) (vs := [.string (m.at i)]) hS rfl rfl; exact ⟨some q1, q2, q3, q4⟩) (by simp only [List.length_append, List.length_nil, List.length_cons, List.length_take]; omega) (by simp only [List.length_append, List.length_nil, List.length_cons, List.length_take]; omega) ?_
                            intro A4 c4
                            refine JL_run 2 [] [10, 9, 6, 3, 1, 2] 3 ⟨[(10, vI ((i : Nat) : Int)), (9, .p 2 0), (6, .p 1 0), (3, .p 0 0), (1, vI n), (2, .v (.slice m.A m.n m.c))], [⟨33, [vI x.base, .v (.slice x.entries.A x.entries.n x.entries.c)]⟩, ⟨33, [vI 0, .v (.slice none 0 0)]⟩, ⟨33, [vI x.base, .v (.slice A4 ([] ++ (E).take ((((n + ((i : Nat) : Int)) + 1) - x.base) - 1).toNat ++ [(m.at i)]).length c4)]⟩]⟩ [] [] (by kernel_rfl) on wn ?_
                            refine l_nil (q_block_normal (q_then_normal ?_))
                            refine c_region ?_
                            refine JL_run 3 [] [10, 9, 6, 3, 1, 2] 3 ⟨[(10, vI (((i : Nat) : Int) + 1)), (9, .p 2 0), (6, .p 1 0), (3, .p 0 0), (1, vI n), (2, .v (.slice m.A m.n m.c))], [⟨33, [vI x.base, .v (.slice x.entries.A x.entries.n x.entries.c)]⟩, ⟨33, [vI 0, .v (.slice none 0 0)]⟩, ⟨33, [vI x.base, .v (.slice A4 ([] ++ (E).take ((((n + ((i : Nat) : Int)) + 1) - x.base) - 1).toNat ++ [(m.at i)]).length c4)]⟩]⟩ [inR (((i : Nat) : Int) + 1)] [] (by kernel_rfl) (oc (by unfold inR; omega) on) wn ?_
                            refine l_sub (R' := [rowA 9 A4 c4 ([] ++ (E).take ((((n + ((i : Nat) : Int)) + 1) - x.base) - 1).toNat ++ [(m.at i)] : List ByteArray)]) (.cons_cons _ (.cons _ .slnil)) ?_
                            refine l_nil (q_loop (x := (⟨i, A, c, E⟩ : Nat × Option Addr × Nat × List ByteArray)) (⟨i + 1, A4, c4, [] ++ (E).take ((((n + ((i : Nat) : Int)) + 1) - x.base) - 1).toNat ++ [(m.at i)]⟩ : Nat × Option Addr × Nat × List ByteArray) ⟨by omega, by rw [Nat.max_eq_left (show (x.base - n).toNat ≤ i + 1 by omega), hP, Nat.max_eq_left (show (x.base - n).toNat ≤ i by omega), putGo_next (by omega) h10, putOne_new (k := (n - x.base).toNat + (i - (x.base - n).toNat)) (by rintro ⟨hz1, hz2⟩; first | omega | (rw [show (n - x.base).toNat + (i - (x.base - n).toNat) = ((((n + ((i : Nat) : Int)) + 1) - x.base) - 1).toNat by omega] at hz2; exact h12 hz2)), show (n - x.base).toNat + (i - (x.base - n).toNat) + 1 = (n - x.base).toNat + (i + 1 - (x.base - n).toNat) by omega]; (rw [show (n - x.base).toNat + (i - (x.base - n).toNat) = ((((n + ((i : Nat) : Int)) + 1) - x.base) - 1).toNat by omega] <;> rfl), by simp only [List.length_append, List.length_take, List.length_cons, List.length_nil]; omega, by simp only [List.length_append, List.length_take, List.length_cons, List.length_nil]; omega, fun z hz => by simp only [List.nil_append, List.mem_append, List.mem_singleton] at hz; rcases hz with hz | hz; exact hEs z (List.mem_of_mem_take hz); subst hz; exact mDecode_size h10⟩ (by show m.n - (i + 1) < m.n - i; omega) (s_start [10, 9, 6, 3, 1, 2] 3 (by kernel_rfl) rfl))
                          ·
                            refine h_local ⟨[(103, .s 3 0 1 1), (102, vS (m.at i)), (101, .v (.pointer (some (m.ad.add (i * 1))))), (100, vI ((i : Nat) : Int)), (99, .v (.slice m.A m.n m.c)), (97, .v (.slice A ((((n + ((i : Nat) : Int)) + 1) - x.base) - 1).toNat c)), (96, vI ((((n + ((i : Nat) : Int)) + 1) - x.base) - 1)), (95, vI (((n + ((i : Nat) : Int)) + 1) - x.base)), (94, vI x.base), (93, .p 0 0), (92, vI ((n + ((i : Nat) : Int)) + 1)), (91, .v (.slice A E.length c)), (90, .p 2 1), (89, vB false), (88, vB false), (87, vS (m.at i)), (86, .v (.pointer (some (m.ad.add (i * 1))))), (85, vI ((i : Nat) : Int)), (84, .v (.slice m.A m.n m.c)), (83, vS (E.getD ((((n + ((i : Nat) : Int)) + 1) - x.base) - 1).toNat default)), (82, .v (.pointer (some ((oad A).add (((((n + ((i : Nat) : Int)) + 1) - x.base) - 1).toNat * 1))))), (81, vI ((((n + ((i : Nat) : Int)) + 1) - x.base) - 1)), (80, vI (((n + ((i : Nat) : Int)) + 1) - x.base)), (79, vI x.base), (78, .p 0 0), (77, vI ((n + ((i : Nat) : Int)) + 1)), (76, .v (.slice A E.length c)), (75, .p 2 1), (74, vB true), (73, vB true), (72, vI (x.base + ((E).length : Int))), (71, .v (.agg #[.int .i64 x.base, .slice A E.length c])), (70, vI ((n + ((i : Nat) : Int)) + 1)), (67, vB false), (13, vI ((mDecode (m.at i)).2)), (11, vI ((n + ((i : Nat) : Int)) + 1)), (10, vI ((i : Nat) : Int)), (9, .p 2 0), (6, .p 1 0), (3, .p 0 0), (1, vI n), (2, .v (.slice m.A m.n m.c))], [⟨33, [vI x.base, .v (.slice x.entries.A x.entries.n x.entries.c)]⟩, ⟨33, [vI 0, .v (.slice none 0 0)]⟩, ⟨33, [vI x.base, .v (.slice A E.length c)]⟩, ⟨9, [vS (m.at i)]⟩]⟩ (by kernel_rfl) (fun bs0 bs w hp hl hS => hS.down hp hl rfl (le_same (le_same (le_same le_nil))) (List.Sublist.refl _)) ?_
                            refine h_rowA (α := ByteArray) 9 ?_
                            refine h_appendA (α := ByteArray) 9 16 none 0 ([]) (.v (.slice A ((((n + ((i : Nat) : Int)) + 1) - x.base) - 1).toNat c)) ((E).take ((((n + ((i : Nat) : Int)) + 1) - x.base) - 1).toNat) rfl Try.underlying31 (by kernel_rfl) rfl rfl rfl rfl (fun bs w hS => ⟨_, _, by rw [(show ((E).take ((((n + ((i : Nat) : Int)) + 1) - x.base) - 1).toNat).length = ((((n + ((i : Nat) : Int)) + 1) - x.base) - 1).toNat by rw [List.length_take]; exact Nat.min_eq_left (by omega))]; rfl, by rw [(show ((E).take ((((n + ((i : Nat) : Int)) + 1) - x.base) - 1).toNat).length = ((((n + ((i : Nat) : Int)) + 1) - x.base) - 1).toNat by rw [List.length_take]; exact Nat.min_eq_left (by omega))]; exact SrcAt.takeL (rowA_src (hS.res _ (.tail _ (.head _)))) (by omega)⟩) (by simp only [List.length_append, List.length_nil, List.length_cons, List.length_take]; omega) (by simp only [List.length_append, List.length_nil, List.length_cons, List.length_take]; omega) (fun bs0 bs A2 c2 w hp hl hS => hS.down hp hl rfl (le_same (le_same (le_same le_nil))) (.cons _ (List.Sublist.refl _))) ?_
                            intro A5 c5
                            refine h_nil ?_
                            refine l_appendA (α := ByteArray) 9 16 A5 c5 ([] ++ (E).take ((((n + ((i : Nat) : Int)) + 1) - x.base) - 1).toNat) (.s 3 0 1 1) ([(m.at i)]) Try.underlying31 (by kernel_rfl) rfl rfl rfl (fun bs w hS => by obtain ⟨q1, q2, q3, q4⟩ := src_loc (i := 3) (off := 0) (k := 1) (c := 1) (q := 1) (vs := [.string (m.at i)]) hS rfl rfl; exact ⟨some q1, q2, q3, q4⟩) (by simp only [List.length_append, List.length_nil, List.length_cons, List.length_take]; omega) (by simp only [List.length_append, List.length_nil, List.length_cons, List.length_take]; omega) ?_
                            intro A6 c6
                            refine JL_run 2 [] [10, 9, 6, 3, 1, 2] 3 ⟨[(10, vI ((i : Nat) : Int)), (9, .p 2 0), (6, .p 1 0), (3, .p 0 0), (1, vI n), (2, .v (.slice m.A m.n m.c))], [⟨33, [vI x.base, .v (.slice x.entries.A x.entries.n x.entries.c)]⟩, ⟨33, [vI 0, .v (.slice none 0 0)]⟩, ⟨33, [vI x.base, .v (.slice A6 ([] ++ (E).take ((((n + ((i : Nat) : Int)) + 1) - x.base) - 1).toNat ++ [(m.at i)]).length c6)]⟩]⟩ [] [] (by kernel_rfl) on wn ?_
                            refine l_nil (q_block_normal (q_then_normal ?_))
                            refine c_region ?_
                            refine JL_run 3 [] [10, 9, 6, 3, 1, 2] 3 ⟨[(10, vI (((i : Nat) : Int) + 1)), (9, .p 2 0), (6, .p 1 0), (3, .p 0 0), (1, vI n), (2, .v (.slice m.A m.n m.c))], [⟨33, [vI x.base, .v (.slice x.entries.A x.entries.n x.entries.c)]⟩, ⟨33, [vI 0, .v (.slice none 0 0)]⟩, ⟨33, [vI x.base, .v (.slice A6 ([] ++ (E).take ((((n + ((i : Nat) : Int)) + 1) - x.base) - 1).toNat ++ [(m.at i)]).length c6)]⟩]⟩ [inR (((i : Nat) : Int) + 1)] [] (by kernel_rfl) (oc (by unfold inR; omega) on) wn ?_
                            refine l_sub (R' := [rowA 9 A6 c6 ([] ++ (E).take ((((n + ((i : Nat) : Int)) + 1) - x.base) - 1).toNat ++ [(m.at i)] : List ByteArray)]) (.cons_cons _ (.cons _ .slnil)) ?_
                            refine l_nil (q_loop (x := (⟨i, A, c, E⟩ : Nat × Option Addr × Nat × List ByteArray)) (⟨i + 1, A6, c6, [] ++ (E).take ((((n + ((i : Nat) : Int)) + 1) - x.base) - 1).toNat ++ [(m.at i)]⟩ : Nat × Option Addr × Nat × List ByteArray) ⟨by omega, by rw [Nat.max_eq_left (show (x.base - n).toNat ≤ i + 1 by omega), hP, Nat.max_eq_left (show (x.base - n).toNat ≤ i by omega), putGo_next (by omega) h10, putOne_new (k := (n - x.base).toNat + (i - (x.base - n).toNat)) (by rintro ⟨hz1, hz2⟩; first | omega | (rw [show (n - x.base).toNat + (i - (x.base - n).toNat) = ((((n + ((i : Nat) : Int)) + 1) - x.base) - 1).toNat by omega] at hz2; exact h12 hz2)), show (n - x.base).toNat + (i - (x.base - n).toNat) + 1 = (n - x.base).toNat + (i + 1 - (x.base - n).toNat) by omega]; (rw [show (n - x.base).toNat + (i - (x.base - n).toNat) = ((((n + ((i : Nat) : Int)) + 1) - x.base) - 1).toNat by omega] <;> rfl), by simp only [List.length_append, List.length_take, List.length_cons, List.length_nil]; omega, by simp only [List.length_append, List.length_take, List.length_cons, List.length_nil]; omega, fun z hz => by simp only [List.nil_append, List.mem_append, List.mem_singleton] at hz; rcases hz with hz | hz; exact hEs z (List.mem_of_mem_take hz); subst hz; exact mDecode_size h10⟩ (by show m.n - (i + 1) < m.n - i; omega) (s_start [10, 9, 6, 3, 1, 2] 3 (by kernel_rfl) rfl))
                      | false =>
                        have h11 := of_decide_eq_false h11
                        refine h_quiet [] [(5, true), (6, false), (7, true), (8, true), (9, false), (10, true), (11, true), (12, true), (13, false), (14, true), (15, true), (16, true), (17, false), (18, true), (19, true)] [(89, vB false), (88, .v (undef)), (87, .v (undef)), (86, .v (undef)), (85, .v (undef)), (84, .v (undef)), (83, .v (undef)), (82, .v (undef)), (81, .v (undef)), (80, .v (undef)), (79, .v (undef)), (78, .v (undef)), (77, .v (undef)), (76, .v (undef)), (75, .v (undef)), (74, vB false), (73, vB false), (72, vI (x.base + ((E).length : Int))), (71, .v (.agg #[.int .i64 x.base, .slice A E.length c])), (70, vI ((n + ((i : Nat) : Int)) + 1)), (67, vB false), (13, vI ((mDecode (m.at i)).2)), (11, vI ((n + ((i : Nat) : Int)) + 1)), (10, vI ((i : Nat) : Int)), (9, .p 2 0), (6, .p 1 0), (3, .p 0 0), (1, vI n), (2, .v (.slice m.A m.n m.c))] [] [] rfl (by kernel_rfl) on wn ?_
                        refine h_nil ?_
                        refine l_nil (q_then_normal ?_)
                        refine c_if false rfl ?_
                        refine c_skip ?_
                        refine q_then_normal ?_
                        refine c_draw 14 [] (.p 0 (.q 1 (.p 2 (.p 3 (.q 4 (.p 5 (.p 6 (.p 7 (.p 9 (.p 10 (.p 11 (.q 12 (.b 8 (.b 13 .nil .z) (.b 13 (.b 8 .nil .z) .z)))))))))))))) [] [rowA 9 A c (E : List ByteArray)] Try_mixed (by kernel_rfl) (pq_block (pq_then (pq_then (pq_block (pq_then pq_body))))) (List.Sublist.refl _) ?_
                        refine h_quiet [(7, .sl 0 ((((n + ((i : Nat) : Int)) + 1) - x.base) - 1).toNat), (11, .idx m.ad i), (12, .ext [.string (m.at i)])] [(0, true), (1, false), (2, true), (3, true), (4, false), (5, true), (6, true), (7, true), (9, true), (10, true), (11, true), (12, false)] [(102, vS (m.at i)), (101, .v (.pointer (some (m.ad.add (i * 1))))), (100, vI ((i : Nat) : Int)), (99, .v (.slice m.A m.n m.c)), (97, .v (.slice A ((((n + ((i : Nat) : Int)) + 1) - x.base) - 1).toNat c)), (96, vI ((((n + ((i : Nat) : Int)) + 1) - x.base) - 1)), (95, vI (((n + ((i : Nat) : Int)) + 1) - x.base)), (94, vI x.base), (93, .p 0 0), (92, vI ((n + ((i : Nat) : Int)) + 1)), (91, .v (.slice A E.length c)), (90, .p 2 1), (89, vB false), (88, .v (undef)), (87, .v (undef)), (86, .v (undef)), (85, .v (undef)), (84, .v (undef)), (83, .v (undef)), (82, .v (undef)), (81, .v (undef)), (80, .v (undef)), (79, .v (undef)), (78, .v (undef)), (77, .v (undef)), (76, .v (undef)), (75, .v (undef)), (74, vB false), (73, vB false), (72, vI (x.base + ((E).length : Int))), (71, .v (.agg #[.int .i64 x.base, .slice A E.length c])), (70, vI ((n + ((i : Nat) : Int)) + 1)), (67, vB false), (13, vI ((mDecode (m.at i)).2)), (11, vI ((n + ((i : Nat) : Int)) + 1)), (10, vI ((i : Nat) : Int)), (9, .p 2 0), (6, .p 1 0), (3, .p 0 0), (1, vI n), (2, .v (.slice m.A m.n m.c))] [inR (((n + ((i : Nat) : Int)) + 1) - x.base), inR ((((n + ((i : Nat) : Int)) + 1) - x.base) - 1), 0 = 0, (((n + ((i : Nat) : Int)) + 1) - x.base) - 1 = ((((((n + ((i : Nat) : Int)) + 1) - x.base) - 1).toNat : Nat) : Int), ((((n + ((i : Nat) : Int)) + 1) - x.base) - 1).toNat ≤ c, m.A = some m.ad, ((i : Nat) : Int) = ((i : Nat) : Int), i < m.n] [(m.ad.add (i * 1), [.string (m.at i)])] rfl (by kernel_rfl) (oc (by unfold inR; omega) (oc (by unfold inR; omega) (oc rfl (oc (by omega) (oc (by omega) (oc (Sl.ok.own (s := m) (i := i) okm (by omega)) (oc rfl (oc (by omega) on)))))))) (fun w hk hr => ⟨(Sl.rd.all (s := m) (i := i) (Sl.rd.kp hm hk) (by omega) rfl), trivial⟩) ?_
                        refine h_br ?_ ?_
                        ·
                          refine h_rowA (α := ByteArray) 9 ?_
                          refine h_appendA (α := ByteArray) 9 16 none 0 ([]) (.v (.slice A ((((n + ((i : Nat) : Int)) + 1) - x.base) - 1).toNat c)) ((E).take ((((n + ((i : Nat) : Int)) + 1) - x.base) - 1).toNat) rfl Try.underlying31 (by kernel_rfl) rfl rfl rfl rfl (fun bs w hS => ⟨_, _, by rw [(show ((E).take ((((n + ((i : Nat) : Int)) + 1) - x.base) - 1).toNat).length = ((((n + ((i : Nat) : Int)) + 1) - x.base) - 1).toNat by rw [List.length_take]; exact Nat.min_eq_left (by omega))]; rfl, by rw [(show ((E).take ((((n + ((i : Nat) : Int)) + 1) - x.base) - 1).toNat).length = ((((n + ((i : Nat) : Int)) + 1) - x.base) - 1).toNat by rw [List.length_take]; exact Nat.min_eq_left (by omega))]; exact SrcAt.takeL (rowA_src (hS.res _ (.tail _ (.head _)))) (by omega)⟩) (by simp only [List.length_append, List.length_nil, List.length_cons, List.length_take]; omega) (by simp only [List.length_append, List.length_nil, List.length_cons, List.length_take]; omega) (fun bs0 bs A2 c2 w hp hl hS => hS.down hp hl rfl (le_same (le_same (le_same le_nil))) (.cons _ (List.Sublist.refl _))) ?_
                          intro A7 c7
                          refine h_local ⟨[(103, .s 3 0 1 1), (98, .v (.slice A7 ([] ++ (E).take ((((n + ((i : Nat) : Int)) + 1) - x.base) - 1).toNat).length c7)), (102, vS (m.at i)), (101, .v (.pointer (some (m.ad.add (i * 1))))), (100, vI ((i : Nat) : Int)), (99, .v (.slice m.A m.n m.c)), (97, .v (.slice A ((((n + ((i : Nat) : Int)) + 1) - x.base) - 1).toNat c)), (96, vI ((((n + ((i : Nat) : Int)) + 1) - x.base) - 1)), (95, vI (((n + ((i : Nat) : Int)) + 1) - x.base)), (94, vI x.base), (93, .p 0 0), (92, vI ((n + ((i : Nat) : Int)) + 1)), (91, .v (.slice A E.length c)), (90, .p 2 1), (89, vB false), (88, .v (undef)), (87, .v (undef)), (86, .v (undef)), (85, .v (undef)), (84, .v (undef)), (83, .v (undef)), (82, .v (undef)), (81, .v (undef)), (80, .v (undef)), (79, .v (undef)), (78, .v (undef)), (77, .v (undef)), (76, .v (undef)), (75, .v (undef)), (74, vB false), (73, vB false), (72, vI (x.base + ((E).length : Int))), (71, .v (.agg #[.int .i64 x.base, .slice A E.length c])), (70, vI ((n + ((i : Nat) : Int)) + 1)), (67, vB false), (13, vI ((mDecode (m.at i)).2)), (11, vI ((n + ((i : Nat) : Int)) + 1)), (10, vI ((i : Nat) : Int)), (9, .p 2 0), (6, .p 1 0), (3, .p 0 0), (1, vI n), (2, .v (.slice m.A m.n m.c))], [⟨33, [vI x.base, .v (.slice x.entries.A x.entries.n x.entries.c)]⟩, ⟨33, [vI 0, .v (.slice none 0 0)]⟩, ⟨33, [vI x.base, .v (.slice A E.length c)]⟩, ⟨9, [vS (m.at i)]⟩]⟩ (by kernel_rfl) (fun bs0 bs w hp hl hS => hS.down hp hl rfl (le_same (le_same (le_same le_nil))) (.cons _ (List.Sublist.refl _))) ?_
                          refine h_nil ?_
                          refine l_appendA (α := ByteArray) 9 16 A7 c7 ([] ++ (E).take ((((n + ((i : Nat) : Int)) + 1) - x.base) - 1).toNat) (.s 3 0 1 1) ([(m.at i)]) Try.underlying31 (by kernel_rfl) rfl rfl rfl (fun bs w hS => by obtain ⟨q1, q2, q3, q4⟩ := src_loc (i := 3) (off := 0) (k := 1) (c := 1) (q := 1) (vs := [.string (m.at i)]) hS rfl rfl; exact ⟨some q1, q2, q3, q4⟩) (by simp only [List.length_append, List.length_nil, List.length_cons, List.length_take]; omega) (by simp only [List.length_append, List.length_nil, List.length_cons, List.length_take]; omega) ?_
                          intro A8 c8
                          refine JL_run 2 [] [10, 9, 6, 3, 1, 2] 3 ⟨[(10, vI ((i : Nat) : Int)), (9, .p 2 0), (6, .p 1 0), (3, .p 0 0), (1, vI n), (2, .v (.slice m.A m.n m.c))], [⟨33, [vI x.base, .v (.slice x.entries.A x.entries.n x.entries.c)]⟩, ⟨33, [vI 0, .v (.slice none 0 0)]⟩, ⟨33, [vI x.base, .v (.slice A8 ([] ++ (E).take ((((n + ((i : Nat) : Int)) + 1) - x.base) - 1).toNat ++ [(m.at i)]).length c8)]⟩]⟩ [] [] (by kernel_rfl) on wn ?_
                          refine l_nil (q_block_normal (q_then_normal ?_))
                          refine c_region ?_
                          refine JL_run 3 [] [10, 9, 6, 3, 1, 2] 3 ⟨[(10, vI (((i : Nat) : Int) + 1)), (9, .p 2 0), (6, .p 1 0), (3, .p 0 0), (1, vI n), (2, .v (.slice m.A m.n m.c))], [⟨33, [vI x.base, .v (.slice x.entries.A x.entries.n x.entries.c)]⟩, ⟨33, [vI 0, .v (.slice none 0 0)]⟩, ⟨33, [vI x.base, .v (.slice A8 ([] ++ (E).take ((((n + ((i : Nat) : Int)) + 1) - x.base) - 1).toNat ++ [(m.at i)]).length c8)]⟩]⟩ [inR (((i : Nat) : Int) + 1)] [] (by kernel_rfl) (oc (by unfold inR; omega) on) wn ?_
                          refine l_sub (R' := [rowA 9 A8 c8 ([] ++ (E).take ((((n + ((i : Nat) : Int)) + 1) - x.base) - 1).toNat ++ [(m.at i)] : List ByteArray)]) (.cons_cons _ (.cons _ .slnil)) ?_
                          refine l_nil (q_loop (x := (⟨i, A, c, E⟩ : Nat × Option Addr × Nat × List ByteArray)) (⟨i + 1, A8, c8, [] ++ (E).take ((((n + ((i : Nat) : Int)) + 1) - x.base) - 1).toNat ++ [(m.at i)]⟩ : Nat × Option Addr × Nat × List ByteArray) ⟨by omega, by rw [Nat.max_eq_left (show (x.base - n).toNat ≤ i + 1 by omega), hP, Nat.max_eq_left (show (x.base - n).toNat ≤ i by omega), putGo_next (by omega) h10, putOne_new (k := (n - x.base).toNat + (i - (x.base - n).toNat)) (by rintro ⟨hz1, hz2⟩; omega), show (n - x.base).toNat + (i - (x.base - n).toNat) + 1 = (n - x.base).toNat + (i + 1 - (x.base - n).toNat) by omega]; (rw [show (n - x.base).toNat + (i - (x.base - n).toNat) = ((((n + ((i : Nat) : Int)) + 1) - x.base) - 1).toNat by omega] <;> rfl), by simp only [List.length_append, List.length_take, List.length_cons, List.length_nil]; omega, by simp only [List.length_append, List.length_take, List.length_cons, List.length_nil]; omega, fun z hz => by simp only [List.nil_append, List.mem_append, List.mem_singleton] at hz; rcases hz with hz | hz; exact hEs z (List.mem_of_mem_take hz); subst hz; exact mDecode_size h10⟩ (by show m.n - (i + 1) < m.n - i; omega) (s_start [10, 9, 6, 3, 1, 2] 3 (by kernel_rfl) rfl))
                        ·
                          refine h_local ⟨[(103, .s 3 0 1 1), (102, vS (m.at i)), (101, .v (.pointer (some (m.ad.add (i * 1))))), (100, vI ((i : Nat) : Int)), (99, .v (.slice m.A m.n m.c)), (97, .v (.slice A ((((n + ((i : Nat) : Int)) + 1) - x.base) - 1).toNat c)), (96, vI ((((n + ((i : Nat) : Int)) + 1) - x.base) - 1)), (95, vI (((n + ((i : Nat) : Int)) + 1) - x.base)), (94, vI x.base), (93, .p 0 0), (92, vI ((n + ((i : Nat) : Int)) + 1)), (91, .v (.slice A E.length c)), (90, .p 2 1), (89, vB false), (88, .v (undef)), (87, .v (undef)), (86, .v (undef)), (85, .v (undef)), (84, .v (undef)), (83, .v (undef)), (82, .v (undef)), (81, .v (undef)), (80, .v (undef)), (79, .v (undef)), (78, .v (undef)), (77, .v (undef)), (76, .v (undef)), (75, .v (undef)), (74, vB false), (73, vB false), (72, vI (x.base + ((E).length : Int))), (71, .v (.agg #[.int .i64 x.base, .slice A E.length c])), (70, vI ((n + ((i : Nat) : Int)) + 1)), (67, vB false), (13, vI ((mDecode (m.at i)).2)), (11, vI ((n + ((i : Nat) : Int)) + 1)), (10, vI ((i : Nat) : Int)), (9, .p 2 0), (6, .p 1 0), (3, .p 0 0), (1, vI n), (2, .v (.slice m.A m.n m.c))], [⟨33, [vI x.base, .v (.slice x.entries.A x.entries.n x.entries.c)]⟩, ⟨33, [vI 0, .v (.slice none 0 0)]⟩, ⟨33, [vI x.base, .v (.slice A E.length c)]⟩, ⟨9, [vS (m.at i)]⟩]⟩ (by kernel_rfl) (fun bs0 bs w hp hl hS => hS.down hp hl rfl (le_same (le_same (le_same le_nil))) (List.Sublist.refl _)) ?_
                          refine h_rowA (α := ByteArray) 9 ?_
                          refine h_appendA (α := ByteArray) 9 16 none 0 ([]) (.v (.slice A ((((n + ((i : Nat) : Int)) + 1) - x.base) - 1).toNat c)) ((E).take ((((n + ((i : Nat) : Int)) + 1) - x.base) - 1).toNat) rfl Try.underlying31 (by kernel_rfl) rfl rfl rfl rfl (fun bs w hS => ⟨_, _, by rw [(show ((E).take ((((n + ((i : Nat) : Int)) + 1) - x.base) - 1).toNat).length = ((((n + ((i : Nat) : Int)) + 1) - x.base) - 1).toNat by rw [List.length_take]; exact Nat.min_eq_left (by omega))]; rfl, by rw [(show ((E).take ((((n + ((i : Nat) : Int)) + 1) - x.base) - 1).toNat).length = ((((n + ((i : Nat) : Int)) + 1) - x.base) - 1).toNat by rw [List.length_take]; exact Nat.min_eq_left (by omega))]; exact SrcAt.takeL (rowA_src (hS.res _ (.tail _ (.head _)))) (by omega)⟩) (by simp only [List.length_append, List.length_nil, List.length_cons, List.length_take]; omega) (by simp only [List.length_append, List.length_nil, List.length_cons, List.length_take]; omega) (fun bs0 bs A2 c2 w hp hl hS => hS.down hp hl rfl (le_same (le_same (le_same le_nil))) (.cons _ (List.Sublist.refl _))) ?_
                          intro A9 c9
                          refine h_nil ?_
                          refine l_appendA (α := ByteArray) 9 16 A9 c9 ([] ++ (E).take ((((n + ((i : Nat) : Int)) + 1) - x.base) - 1).toNat) (.s 3 0 1 1) ([(m.at i)]) Try.underlying31 (by kernel_rfl) rfl rfl rfl (fun bs w hS => by obtain ⟨q1, q2, q3, q4⟩ := src_loc (i := 3) (off := 0) (k := 1) (c := 1) (q := 1) (vs := [.string (m.at i)]) hS rfl rfl; exact ⟨some q1, q2, q3, q4⟩) (by simp only [List.length_append, List.length_nil, List.length_cons, List.length_take]; omega) (by simp only [List.length_append, List.length_nil, List.length_cons, List.length_take]; omega) ?_
                          intro A10 c10
                          refine JL_run 2 [] [10, 9, 6, 3, 1, 2] 3 ⟨[(10, vI ((i : Nat) : Int)), (9, .p 2 0), (6, .p 1 0), (3, .p 0 0), (1, vI n), (2, .v (.slice m.A m.n m.c))], [⟨33, [vI x.base, .v (.slice x.entries.A x.entries.n x.entries.c)]⟩, ⟨33, [vI 0, .v (.slice none 0 0)]⟩, ⟨33, [vI x.base, .v (.slice A10 ([] ++ (E).take ((((n + ((i : Nat) : Int)) + 1) - x.base) - 1).toNat ++ [(m.at i)]).length c10)]⟩]⟩ [] [] (by kernel_rfl) on wn ?_
                          refine l_nil (q_block_normal (q_then_normal ?_))
                          refine c_region ?_
                          refine JL_run 3 [] [10, 9, 6, 3, 1, 2] 3 ⟨[(10, vI (((i : Nat) : Int) + 1)), (9, .p 2 0), (6, .p 1 0), (3, .p 0 0), (1, vI n), (2, .v (.slice m.A m.n m.c))], [⟨33, [vI x.base, .v (.slice x.entries.A x.entries.n x.entries.c)]⟩, ⟨33, [vI 0, .v (.slice none 0 0)]⟩, ⟨33, [vI x.base, .v (.slice A10 ([] ++ (E).take ((((n + ((i : Nat) : Int)) + 1) - x.base) - 1).toNat ++ [(m.at i)]).length c10)]⟩]⟩ [inR (((i : Nat) : Int) + 1)] [] (by kernel_rfl) (oc (by unfold inR; omega) on) wn ?_
                          refine l_sub (R' := [rowA 9 A10 c10 ([] ++ (E).take ((((n + ((i : Nat) : Int)) + 1) - x.base) - 1).toNat ++ [(m.at i)] : List ByteArray)]) (.cons_cons _ (.cons _ .slnil)) ?_
                          refine l_nil (q_loop (x := (⟨i, A, c, E⟩ : Nat × Option Addr × Nat × List ByteArray)) (⟨i + 1, A10, c10, [] ++ (E).take ((((n + ((i : Nat) : Int)) + 1) - x.base) - 1).toNat ++ [(m.at i)]⟩ : Nat × Option Addr × Nat × List ByteArray) ⟨by omega, by rw [Nat.max_eq_left (show (x.base - n).toNat ≤ i + 1 by omega), hP, Nat.max_eq_left (show (x.base - n).toNat ≤ i by omega), putGo_next (by omega) h10, putOne_new (k := (n - x.base).toNat + (i - (x.base - n).toNat)) (by rintro ⟨hz1, hz2⟩; omega), show (n - x.base).toNat + (i - (x.base - n).toNat) + 1 = (n - x.base).toNat + (i + 1 - (x.base - n).toNat) by omega]; (rw [show (n - x.base).toNat + (i - (x.base - n).toNat) = ((((n + ((i : Nat) : Int)) + 1) - x.base) - 1).toNat by omega] <;> rfl), by simp only [List.length_append, List.length_take, List.length_cons, List.length_nil]; omega, by simp only [List.length_append, List.length_take, List.length_cons, List.length_nil]; omega, fun z hz => by simp only [List.nil_append, List.mem_append, List.mem_singleton] at hz; rcases hz with hz | hz; exact hEs z (List.mem_of_mem_take hz); subst hz; exact mDecode_size h10⟩ (by show m.n - (i + 1) < m.n - i; omega) (s_start [10, 9, 6, 3, 1, 2] 3 (by kernel_rfl) rfl))
                    | false =>
                      have h10 := of_decide_eq_false h10
                      refine c_if true rfl ?_
                      refine c_seq ?_
                      refine c_region ?_
                      refine JL_run 4 [] [7, 6] 2 ⟨[(7, vI ((mDecode (m.at i)).2)), (6, .p 1 0)], [⟨33, [vI x.base, .v (.slice x.entries.A x.entries.n x.entries.c)]⟩, ⟨33, [vI 0, .v (.slice none 0 0)]⟩]⟩ [] [] (by kernel_rfl) on wn ?_
                      refine l_nil (q_then_normal ?_)
                      refine c_ret ?_
                      refine q_then_ret (q_block_ret (q_then_ret (q_then_ret (q_block_ret (q_then_ret (q_ret (.inl rfl) [.v (.agg #[.int .i64 0, .slice none 0 0]), vI ((mDecode (m.at i)).2)] rfl (fun bs w hS => ?_)))))))
                      have hpg : putGo x.entries.xs (n - x.base).toNat (m.xs.drop (x.base - n).toNat) = ([], (mDecode (m.at i)).2) := by rw [hP]; rw [Nat.max_eq_left (by omega)]; exact putGo_bad (by omega) h10
                      have hm : mPut x.abs n m.xs = (zLog, (mDecode (m.at i)).2) := by unfold mPut; rw [if_neg (by simpa using (by assumption : mLog _ = 0)), hla, q1, q2]; rw [if_neg (by omega), if_neg (by omega), if_neg (by omega), hpg]; exact if_pos h10
                      refine ⟨⟨0, Sl.nil⟩, ?_, ?_, hS.outS (y := (⟨0, Sl.nil⟩ : CLog)) (Sl.rd_nil _ _)⟩
                      · simp only [retOf, den, List.map_cons, List.map_nil]; rw [hm]; rfl
                      · rw [hm]; rfl
                | false =>
                  have h8 := of_decide_eq_false h8
                  refine c_if false rfl ?_
                  refine c_exit ?_
                  refine q_then_exit (q_then_exit (q_block_hit (q_then_normal ?_)))
                  refine c_seq ?_
                  refine c_seq ?_
                  refine c_region ?_
                  refine JL_run 4 [] [109, 9, 6] 3 ⟨[(109, vB (decide ((400 : Int) < ((E.length : Nat) : Int)))), (9, .p 2 0), (6, .p 1 0)], [⟨33, [vI x.base, .v (.slice x.entries.A x.entries.n x.entries.c)]⟩, ⟨33, [vI 0, .v (.slice none 0 0)]⟩, ⟨33, [vI x.base, .v (.slice A E.length c)]⟩]⟩ [] [] (by kernel_rfl) on wn ?_
                  refine l_nil (q_then_normal ?_)
                  cases h13 : decide ((400 : Int) < ((E.length : Nat) : Int)) with
                  | true =>
                    have h13 := of_decide_eq_true h13
                    refine c_if true rfl ?_
                    refine c_seq ?_
                    refine c_region ?_
                    refine JL_run 3 [] [7, 6] 2 ⟨[(7, vI 8), (6, .p 1 0)], [⟨33, [vI x.base, .v (.slice x.entries.A x.entries.n x.entries.c)]⟩, ⟨33, [vI 0, .v (.slice none 0 0)]⟩]⟩ [] [] (by kernel_rfl) on wn ?_
                    refine l_nil (q_then_normal ?_)
                    refine c_ret ?_
                    refine q_then_ret (q_ret (.inl rfl) [.v (.agg #[.int .i64 0, .slice none 0 0]), vI 8] rfl (fun bs w hS => ?_))
                    have hpg : putGo x.entries.xs (n - x.base).toNat (m.xs.drop (x.base - n).toNat) = (E, 0) := by rw [hP]; exact putGo_end (by omega)
                    have hm : mPut x.abs n m.xs = (zLog, 8) := by
                      unfold mPut; rw [if_neg (by simpa using (by assumption : mLog _ = 0)), hla, q1, q2]
                      first | rw [if_pos (by omega)] | rw [if_neg (by omega), if_pos (by omega)] | rw [if_neg (by omega), if_neg (by omega), if_pos (by omega)] | (rw [if_neg (by omega), if_neg (by omega), if_neg (by omega), hpg, if_neg (by simp), if_pos (by show 400 < E.length; omega)])
                      all_goals first | rfl | (exfalso; omega)
                    refine ⟨⟨0, Sl.nil⟩, ?_, ?_, hS.outS (y := (⟨0, Sl.nil⟩ : CLog)) (Sl.rd_nil _ _)⟩
                    · simp only [retOf, den, List.map_cons, List.map_nil]; rw [hm]; rfl
                    · rw [hm]; rfl
                  | false =>
                    have h13 := of_decide_eq_false h13
                    refine c_if false rfl ?_
                    refine c_skip ?_
                    refine q_then_normal ?_
                    refine c_seq ?_
                    refine c_region ?_
                    refine JL_run 3 [] [7, 6] 2 ⟨[(7, vI 0), (6, .p 1 0)], [⟨33, [vI x.base, .v (.slice x.entries.A x.entries.n x.entries.c)]⟩, ⟨33, [vI x.base, .v (.slice A E.length c)]⟩]⟩ [] [] (by kernel_rfl) on wn ?_
                    refine l_nil (q_then_normal ?_)
                    refine c_ret ?_
                    refine q_ret (.inl rfl) [.v (.agg #[.int .i64 x.base, .slice A E.length c]), vI 0] rfl (fun bs w hS => ?_)
                    have hpg : putGo x.entries.xs (n - x.base).toNat (m.xs.drop (x.base - n).toNat) = (E, 0) := by rw [hP]; exact putGo_end (by omega)
                    have hm : mPut x.abs n m.xs = (⟨x.base, E⟩, 0) := by unfold mPut; rw [if_neg (by simpa using (by assumption : mLog _ = 0)), hla, q1, q2]; rw [if_neg (by omega), if_neg (by omega), if_neg (by omega), hpg, if_neg (by simp), if_neg (by show ¬ 400 < E.length; omega)]
                    refine ⟨⟨x.base, ⟨A, c, E⟩⟩, ?_, ?_, hS.outS (y := (⟨x.base, ⟨A, c, E⟩⟩ : CLog)) (allR_row (.head _) (hS.res _ (.head _)) hEs)⟩
                    · rw [hm]; rfl
                    · rw [hm]; rfl
              | false =>
                have h7 := of_decide_eq_false h7
                exact absurd h1 h7
          | false =>
            have h5 := of_decide_eq_false h5
            exact absurd h1 h5
      | false =>
        have h3 := of_decide_eq_false h3
        exact absurd h1 h3
    | false =>
      simp only [inB, Bool.and_eq_true, Bool.and_eq_false_iff, decide_eq_true_eq, decide_eq_false_iff_not] at h2
      refine c_if true rfl ?_
      refine c_region ?_
      refine JL_run 1 [] [8, 6, 3, 1, 2] 2 ⟨[(8, vI 2), (6, .p 1 0), (3, .p 0 0), (1, vI n), (2, .v (.slice m.A m.n m.c))], [⟨33, [vI x.base, .v (.slice x.entries.A x.entries.n x.entries.c)]⟩, ⟨33, [vI 0, .v (.slice none 0 0)]⟩]⟩ [] [] (by kernel_rfl) on wn ?_
      refine l_nil (q_then_normal ?_)
      refine c_seq ?_
      refine c_seq ?_
      refine c_region ?_
      refine JL_run 7 [] [29, 8, 6, 3, 1, 2] 2 ⟨[(29, vB false), (8, vI 2), (6, .p 1 0), (3, .p 0 0), (1, vI n), (2, .v (.slice m.A m.n m.c))], [⟨33, [vI x.base, .v (.slice x.entries.A x.entries.n x.entries.c)]⟩, ⟨33, [vI 0, .v (.slice none 0 0)]⟩]⟩ [] [] (by kernel_rfl) on wn ?_
      refine l_nil (q_then_normal ?_)
      refine c_if false rfl ?_
      refine c_skip ?_
      refine q_then_normal ?_
      refine c_seq ?_
      refine c_seq ?_
      refine c_region ?_
      refine JL_run 8 [] [37, 8, 6, 3, 1, 2] 2 ⟨[(37, vB false), (8, vI 2), (6, .p 1 0), (3, .p 0 0), (1, vI n), (2, .v (.slice m.A m.n m.c))], [⟨33, [vI x.base, .v (.slice x.entries.A x.entries.n x.entries.c)]⟩, ⟨33, [vI 0, .v (.slice none 0 0)]⟩]⟩ [] [] (by kernel_rfl) on wn ?_
      refine l_nil (q_then_normal ?_)
      refine c_if false rfl ?_
      refine c_skip ?_
      refine q_then_normal ?_
      refine c_seq ?_
      refine c_seq ?_
      refine c_region ?_
      refine JL_run 2 [] [39, 8, 6, 3, 1, 2] 2 ⟨[(39, vB true), (8, vI 2), (6, .p 1 0), (3, .p 0 0), (1, vI n), (2, .v (.slice m.A m.n m.c))], [⟨33, [vI x.base, .v (.slice x.entries.A x.entries.n x.entries.c)]⟩, ⟨33, [vI 0, .v (.slice none 0 0)]⟩]⟩ [] [] (by kernel_rfl) on wn ?_
      refine l_nil (q_then_normal ?_)
      refine c_if true rfl ?_
      refine c_seq ?_
      refine c_region ?_
      refine JL_run 4 [] [7, 6] 2 ⟨[(7, vI 2), (6, .p 1 0)], [⟨33, [vI x.base, .v (.slice x.entries.A x.entries.n x.entries.c)]⟩, ⟨33, [vI 0, .v (.slice none 0 0)]⟩]⟩ [] [] (by kernel_rfl) on wn ?_
      refine l_nil (q_then_normal ?_)
      refine c_ret ?_
      refine q_then_ret (q_ret (.inl rfl) [.v (.agg #[.int .i64 0, .slice none 0 0]), vI 2] rfl (fun bs w hS => ?_))
      have hm : mPut x.abs n m.xs = (zLog, 2) := by
        unfold mPut; rw [if_neg (by simpa using (by assumption : mLog _ = 0)), hla, q1, q2]
        first | rw [if_pos (by omega)] | rw [if_neg (by omega), if_pos (by omega)] | rw [if_neg (by omega), if_neg (by omega), if_pos (by omega)] | (rw [if_neg (by omega), if_neg (by omega), if_neg (by omega), if_neg (by simp), if_pos (by show 400 < E.length; omega)])
        all_goals first | rfl | (exfalso; omega)
      refine ⟨⟨0, Sl.nil⟩, ?_, ?_, hS.outS (y := (⟨0, Sl.nil⟩ : CLog)) (Sl.rd_nil _ _)⟩
      · simp only [retOf, den, List.map_cons, List.map_nil]; rw [hm]; rfl
      · rw [hm]; rfl
  | false =>
    have h1 := of_decide_eq_false h1
    refine JL_run 4 [] [22, 8, 6, 3, 1, 2] 2 ⟨[(22, vB false), (8, vI (mLog x.abs)), (6, .p 1 0), (3, .p 0 0), (1, vI n), (2, .v (.slice m.A m.n m.c))], [⟨33, [vI x.base, .v (.slice x.entries.A x.entries.n x.entries.c)]⟩, ⟨33, [vI 0, .v (.slice none 0 0)]⟩]⟩ [] [] (by kernel_rfl) on wn ?_
    refine l_nil (q_then_normal ?_)
    refine c_if false rfl ?_
    refine c_skip ?_
    refine q_then_normal ?_
    refine c_seq ?_
    refine c_seq ?_
    refine c_region ?_
    refine JL_run 3 [] [25, 8, 6, 3, 1, 2] 2 ⟨[(25, vB (decide (mLog x.abs = 0))), (8, vI (mLog x.abs)), (6, .p 1 0), (3, .p 0 0), (1, vI n), (2, .v (.slice m.A m.n m.c))], [⟨33, [vI x.base, .v (.slice x.entries.A x.entries.n x.entries.c)]⟩, ⟨33, [vI 0, .v (.slice none 0 0)]⟩]⟩ [] [] (by kernel_rfl) on wn ?_
    cases h14 : decide (mLog x.abs = 0) with
    | true =>
      have h14 := of_decide_eq_true h14
      exact absurd h14 h1
    | false =>
      have h14 := of_decide_eq_false h14
      refine JL_run 4 [] [29, 8, 6, 3, 1, 2] 2 ⟨[(29, vB false), (8, vI (mLog x.abs)), (6, .p 1 0), (3, .p 0 0), (1, vI n), (2, .v (.slice m.A m.n m.c))], [⟨33, [vI x.base, .v (.slice x.entries.A x.entries.n x.entries.c)]⟩, ⟨33, [vI 0, .v (.slice none 0 0)]⟩]⟩ [] [] (by kernel_rfl) on wn ?_
      refine l_nil (q_then_normal ?_)
      refine c_if false rfl ?_
      refine c_skip ?_
      refine q_then_normal ?_
      refine c_seq ?_
      refine c_seq ?_
      refine c_region ?_
      refine JL_run 3 [] [32, 8, 6, 3, 1, 2] 2 ⟨[(32, vB (decide (mLog x.abs = 0))), (8, vI (mLog x.abs)), (6, .p 1 0), (3, .p 0 0), (1, vI n), (2, .v (.slice m.A m.n m.c))], [⟨33, [vI x.base, .v (.slice x.entries.A x.entries.n x.entries.c)]⟩, ⟨33, [vI 0, .v (.slice none 0 0)]⟩]⟩ [] [] (by kernel_rfl) on wn ?_
      cases h15 : decide (mLog x.abs = 0) with
      | true =>
        have h15 := of_decide_eq_true h15
        exact absurd h15 h1
      | false =>
        have h15 := of_decide_eq_false h15
        refine JL_run 5 [] [37, 8, 6, 3, 1, 2] 2 ⟨[(37, vB false), (8, vI (mLog x.abs)), (6, .p 1 0), (3, .p 0 0), (1, vI n), (2, .v (.slice m.A m.n m.c))], [⟨33, [vI x.base, .v (.slice x.entries.A x.entries.n x.entries.c)]⟩, ⟨33, [vI 0, .v (.slice none 0 0)]⟩]⟩ [] [] (by kernel_rfl) on wn ?_
        refine l_nil (q_then_normal ?_)
        refine c_if false rfl ?_
        refine c_skip ?_
        refine q_then_normal ?_
        refine c_seq ?_
        refine c_seq ?_
        refine c_region ?_
        refine JL_run 2 [] [39, 8, 6, 3, 1, 2] 2 ⟨[(39, vB (!(decide (mLog x.abs = 0)))), (8, vI (mLog x.abs)), (6, .p 1 0), (3, .p 0 0), (1, vI n), (2, .v (.slice m.A m.n m.c))], [⟨33, [vI x.base, .v (.slice x.entries.A x.entries.n x.entries.c)]⟩, ⟨33, [vI 0, .v (.slice none 0 0)]⟩]⟩ [] [] (by kernel_rfl) on wn ?_
        refine l_nil (q_then_normal ?_)
        cases h16 : decide (mLog x.abs = 0) with
        | true =>
          have h16 := of_decide_eq_true h16
          exact absurd h16 h1
        | false =>
          have h16 := of_decide_eq_false h16
          refine c_if true rfl ?_
          refine c_seq ?_
          refine c_region ?_
          refine JL_run 4 [] [7, 6] 2 ⟨[(7, vI (mLog x.abs)), (6, .p 1 0)], [⟨33, [vI x.base, .v (.slice x.entries.A x.entries.n x.entries.c)]⟩, ⟨33, [vI 0, .v (.slice none 0 0)]⟩]⟩ [] [] (by kernel_rfl) on wn ?_
          refine l_nil (q_then_normal ?_)
          refine c_ret ?_
          refine q_then_ret (q_ret (.inl rfl) [.v (.agg #[.int .i64 0, .slice none 0 0]), vI (mLog x.abs)] rfl (fun bs w hS => ?_))
          have hm : mPut x.abs n m.xs = (zLog, mLog x.abs) := by unfold mPut; rw [if_pos h1]
          refine ⟨⟨0, Sl.nil⟩, ?_, ?_, hS.outS (y := (⟨0, Sl.nil⟩ : CLog)) (Sl.rd_nil _ _)⟩
          · simp only [retOf, den, List.map_cons, List.map_nil]; rw [hm]; rfl
          · rw [hm]; rfl

theorem law_LogPuts {B B' : Nat → Prop} (x : CLog) (n : Int) (m : Sl ByteArray) (w : World) (hx : Rds.sub B w x) (hm : m.rd B' w) (hsm : Rds.small x) (hsn : Rds.small m) : Calls Try.prog 6 #[.agg #[.int .i64 x.base, .slice x.entries.A x.entries.n x.entries.c], .int .i64 n, .slice m.A m.n m.c] w fun e w' => e = .returned (.bool true) ∧ Kp [] w w' := by
  have okx := Rds.okof hx
  have okm := Sl.rd.ok hm
  have ncm := Sl.ok.nc okm
  have hsn1 : m.xs.length ≤ 1048576 := hsn.1
  refine calls_J0 42 Try.func6 rfl rfl [.agg #[.int .i64 x.base, .slice x.entries.A x.entries.n x.entries.c], .int .i64 n, .slice m.A m.n m.c] rfl ?_
  refine c_seq ?_
  refine c_region ?_
  refine JL_run 2 [] [3, 1, 2] 1 ⟨[(3, .p 0 0), (1, vI n), (2, .v (.slice m.A m.n m.c))], [⟨33, [vI x.base, .v (.slice x.entries.A x.entries.n x.entries.c)]⟩]⟩ [] [] (by kernel_rfl) on wn ?_
  refine l_nil (q_then_normal ?_)
  refine c_seq ?_
  refine c_region ?_
  refine JL_run 1 [] [12, 3, 1, 2] 1 ⟨[(12, .v (.agg #[.int .i64 x.base, .slice x.entries.A x.entries.n x.entries.c])), (3, .p 0 0), (1, vI n), (2, .v (.slice m.A m.n m.c))], [⟨33, [vI x.base, .v (.slice x.entries.A x.entries.n x.entries.c)]⟩]⟩ [] [] (by kernel_rfl) on wn ?_
  refine l_sub_call (σ := CLog) 25 [] [.v (.agg #[.int .i64 x.base, .slice x.entries.A x.entries.n x.entries.c])] (fun y1 => .agg #[.int .i64 y1.base, .slice y1.entries.A y1.entries.n y1.entries.c]) (fun y1 => y1.abs = x.abs) Try.call25 rfl rfl rfl rfl (fun bs w hS => ref_LogCopy x w (Rds.kp hx hS.kp) hsm) ?_
  rintro fp1 y1 hF1 hok1
  refine JL_run 2 [] [7, 3, 1, 2] 2 ⟨[(7, .p 1 0), (3, .p 0 0), (1, vI n), (2, .v (.slice m.A m.n m.c))], [⟨33, [vI x.base, .v (.slice x.entries.A x.entries.n x.entries.c)]⟩, ⟨33, [vI y1.base, .v (.slice y1.entries.A y1.entries.n y1.entries.c)]⟩]⟩ [] [] (by kernel_rfl) on wn ?_
  refine l_nil (q_then_normal ?_)
  refine c_seq ?_
  refine c_draw 11 [] (.q 0 (.p 1 (.p 2 (.b 3 (.b 4 (.p 5 (.p 6 (.p 7 (.b 8 (.b 9 (.p 10 .nil) .z) .z)))) (.b 8 (.b 4 (.p 5 (.p 6 (.p 7 (.b 9 (.p 10 .nil) .z)))) .z) .z)) (.b 8 (.b 3 (.b 4 (.p 5 (.p 6 (.p 7 (.b 9 (.p 10 .nil) .z)))) .z) .z) .z))))) [] [subR fp1 y1] Try_mixed (by kernel_rfl) (pq_then pq_body) (List.Sublist.refl _) ?_
  refine h_quiet [] [(0, false), (1, true), (2, true)] [(17, .v (.slice m.A m.n m.c)), (16, vI n), (15, .v (.agg #[.int .i64 y1.base, .slice y1.entries.A y1.entries.n y1.entries.c])), (7, .p 1 0), (3, .p 0 0), (1, vI n), (2, .v (.slice m.A m.n m.c))] [] [] rfl (by kernel_rfl) on wn ?_
  refine h_br ?_ ?_
  ·
    refine h_rowA (α := ByteArray) 9 ?_
    refine h_appendA (α := ByteArray) 9 16 none 0 ([]) (.v (.slice m.A m.n m.c)) (m.xs) rfl Try.underlying31 (by kernel_rfl) rfl rfl rfl rfl (fun bs w hS => ⟨_, _, rfl, Sl.rd.src (s := m) (Sl.rd.kp hm hS.kp)⟩) (by first | omega | (simp only [List.length_nil]; omega)) (by first | omega | (simp only [List.length_nil]; omega)) (fun bs0 bs A2 c2 w hp hl hS => hS.down hp hl rfl (le_same (le_same le_nil)) (.cons _ (List.Sublist.refl _))) ?_
    intro A2 c2
    refine h_br ?_ ?_
    ·
      refine h_sub_call (σ := CLog) 26 [] [.v (.agg #[.int .i64 y1.base, .slice y1.entries.A y1.entries.n y1.entries.c]), vI n, .v (.slice A2 ([] ++ m.xs).length c2)] (fun y3 => .tuple #[.agg #[.int .i64 y3.base, .slice y3.entries.A y3.entries.n y3.entries.c], .int .i64 ((mPut y1.abs n ([] ++ m.xs)).2)]) (fun y3 => y3.abs = (mPut y1.abs n ([] ++ m.xs)).1) rfl Try.call26 rfl rfl rfl rfl (fun bs w hS => by exact log_Put y1 n (⟨A2, c2, [] ++ m.xs⟩ : Sl ByteArray) w (hS.res _ (.tail _ (.head _))) (rowA_rd (B := anyB) (hS.res _ (.head _)) (fun _ _ => trivial) (fun z hz => Sl.rd.mem (s := m) hm z hz))) (fun bs0 bs fp y w hp hl hS => hS.down hp hl rfl (le_same (le_same le_nil)) (.cons _ (.cons _ (List.Sublist.refl _)))) ?_
      rintro fp3 y3 hF3 hok3
      refine h_quiet [] [(5, true), (6, true), (7, true)] [(21, vI ((mPut y1.abs n ([] ++ m.xs)).2)), (20, .v (.agg #[.int .i64 y3.base, .slice y3.entries.A y3.entries.n y3.entries.c])), (14, .v (.tuple #[.agg #[.int .i64 y3.base, .slice y3.entries.A y3.entries.n y3.entries.c], .int .i64 ((mPut y1.abs n ([] ++ m.xs)).2)])), (19, .v (.tuple #[.agg #[.int .i64 y3.base, .slice y3.entries.A y3.entries.n y3.entries.c], .int .i64 ((mPut y1.abs n ([] ++ m.xs)).2)])), (18, .v (.slice A2 ([] ++ m.xs).length c2)), (17, .v (.slice m.A m.n m.c)), (16, vI n), (15, .v (.agg #[.int .i64 y1.base, .slice y1.entries.A y1.entries.n y1.entries.c])), (7, .p 1 0), (3, .p 0 0), (1, vI n), (2, .v (.slice m.A m.n m.c))] [] [] rfl (by kernel_rfl) on wn ?_
      refine h_local ⟨[(8, .p 2 0), (21, vI ((mPut y1.abs n ([] ++ m.xs)).2)), (20, .v (.agg #[.int .i64 y3.base, .slice y3.entries.A y3.entries.n y3.entries.c])), (14, .v (.tuple #[.agg #[.int .i64 y3.base, .slice y3.entries.A y3.entries.n y3.entries.c], .int .i64 ((mPut y1.abs n ([] ++ m.xs)).2)])), (19, .v (.tuple #[.agg #[.int .i64 y3.base, .slice y3.entries.A y3.entries.n y3.entries.c], .int .i64 ((mPut y1.abs n ([] ++ m.xs)).2)])), (18, .v (.slice A2 ([] ++ m.xs).length c2)), (17, .v (.slice m.A m.n m.c)), (16, vI n), (15, .v (.agg #[.int .i64 y1.base, .slice y1.entries.A y1.entries.n y1.entries.c])), (7, .p 1 0), (3, .p 0 0), (1, vI n), (2, .v (.slice m.A m.n m.c))], [⟨33, [vI x.base, .v (.slice x.entries.A x.entries.n x.entries.c)]⟩, ⟨33, [vI y1.base, .v (.slice y1.entries.A y1.entries.n y1.entries.c)]⟩, ⟨33, [vI 0, .v (.slice none 0 0)]⟩]⟩ (by kernel_rfl) (fun bs0 bs w hp hl hS => hS.down hp hl rfl (le_same (le_same le_nil)) (.cons _ (.cons _ (List.Sublist.refl _)))) ?_
      refine h_local ⟨[(8, .p 2 0), (21, vI ((mPut y1.abs n ([] ++ m.xs)).2)), (20, .v (.agg #[.int .i64 y3.base, .slice y3.entries.A y3.entries.n y3.entries.c])), (14, .v (.tuple #[.agg #[.int .i64 y3.base, .slice y3.entries.A y3.entries.n y3.entries.c], .int .i64 ((mPut y1.abs n ([] ++ m.xs)).2)])), (19, .v (.tuple #[.agg #[.int .i64 y3.base, .slice y3.entries.A y3.entries.n y3.entries.c], .int .i64 ((mPut y1.abs n ([] ++ m.xs)).2)])), (18, .v (.slice A2 ([] ++ m.xs).length c2)), (17, .v (.slice m.A m.n m.c)), (16, vI n), (15, .v (.agg #[.int .i64 y1.base, .slice y1.entries.A y1.entries.n y1.entries.c])), (7, .p 1 0), (3, .p 0 0), (1, vI n), (2, .v (.slice m.A m.n m.c))], [⟨33, [vI x.base, .v (.slice x.entries.A x.entries.n x.entries.c)]⟩, ⟨33, [vI y1.base, .v (.slice y1.entries.A y1.entries.n y1.entries.c)]⟩, ⟨33, [vI y3.base, .v (.slice y3.entries.A y3.entries.n y3.entries.c)]⟩]⟩ (by kernel_rfl) (fun bs0 bs w hp hl hS => hS.down hp hl rfl (le_same (le_same le_nil)) (.cons _ (.cons _ (List.Sublist.refl _)))) ?_
      refine h_quiet [] [(10, true)] [(9, vI ((mPut y1.abs n ([] ++ m.xs)).2)), (8, .p 2 0), (21, vI ((mPut y1.abs n ([] ++ m.xs)).2)), (20, .v (.agg #[.int .i64 y3.base, .slice y3.entries.A y3.entries.n y3.entries.c])), (14, .v (.tuple #[.agg #[.int .i64 y3.base, .slice y3.entries.A y3.entries.n y3.entries.c], .int .i64 ((mPut y1.abs n ([] ++ m.xs)).2)])), (19, .v (.tuple #[.agg #[.int .i64 y3.base, .slice y3.entries.A y3.entries.n y3.entries.c], .int .i64 ((mPut y1.abs n ([] ++ m.xs)).2)])), (18, .v (.slice A2 ([] ++ m.xs).length c2)), (17, .v (.slice m.A m.n m.c)), (16, vI n), (15, .v (.agg #[.int .i64 y1.base, .slice y1.entries.A y1.entries.n y1.entries.c])), (7, .p 1 0), (3, .p 0 0), (1, vI n), (2, .v (.slice m.A m.n m.c))] [] [] rfl (by kernel_rfl) on wn ?_
      refine h_nil ?_
      refine l_nil (q_then_normal ?_)
      refine c_seq ?_
      refine c_region ?_
      refine JL_run 3 [] [25, 24, 23, 9, 8, 7, 3] 3 ⟨[(25, .v (.slice m.A m.n m.c)), (24, vI n), (23, .v (.agg #[.int .i64 x.base, .slice x.entries.A x.entries.n x.entries.c])), (9, vI ((mPut y1.abs n ([] ++ m.xs)).2)), (8, .p 2 0), (7, .p 1 0), (3, .p 0 0)], [⟨33, [vI x.base, .v (.slice x.entries.A x.entries.n x.entries.c)]⟩, ⟨33, [vI y1.base, .v (.slice y1.entries.A y1.entries.n y1.entries.c)]⟩, ⟨33, [vI y3.base, .v (.slice y3.entries.A y3.entries.n y3.entries.c)]⟩]⟩ [] [] (by kernel_rfl) on wn ?_
      refine l_sub_call (σ := CLog) 27 [] [.v (.agg #[.int .i64 x.base, .slice x.entries.A x.entries.n x.entries.c]), vI n, .v (.slice m.A m.n m.c)] (fun y4 => .tuple #[.agg #[.int .i64 y4.base, .slice y4.entries.A y4.entries.n y4.entries.c], .int .i64 ((mPut x.abs n m.xs).2)]) (fun y4 => y4.abs = (mPut x.abs n m.xs).1) Try.call27 rfl rfl rfl rfl (fun bs w hS => by exact ref_PutOf x n m w (Rds.kp hx hS.kp) (Sl.rd.kp hm hS.kp)) ?_
      rintro fp4 y4 hF4 hok4
      refine JL_run 6 [] [11, 10, 9, 8, 7, 3] 4 ⟨[(11, vI ((mPut x.abs n m.xs).2)), (10, .p 3 0), (9, vI ((mPut y1.abs n ([] ++ m.xs)).2)), (8, .p 2 0), (7, .p 1 0), (3, .p 0 0)], [⟨33, [vI x.base, .v (.slice x.entries.A x.entries.n x.entries.c)]⟩, ⟨33, [vI y1.base, .v (.slice y1.entries.A y1.entries.n y1.entries.c)]⟩, ⟨33, [vI y3.base, .v (.slice y3.entries.A y3.entries.n y3.entries.c)]⟩, ⟨33, [vI y4.base, .v (.slice y4.entries.A y4.entries.n y4.entries.c)]⟩]⟩ [] [] (by kernel_rfl) on wn ?_
      refine l_nil (q_then_normal ?_)
      refine c_seq ?_
      refine c_region ?_
      refine JL_run 4 [] [32, 10, 8, 7, 3] 4 ⟨[(32, vB (decide ((mPut y1.abs n ([] ++ m.xs)).2 = (mPut x.abs n m.xs).2))), (10, .p 3 0), (8, .p 2 0), (7, .p 1 0), (3, .p 0 0)], [⟨33, [vI x.base, .v (.slice x.entries.A x.entries.n x.entries.c)]⟩, ⟨33, [vI y1.base, .v (.slice y1.entries.A y1.entries.n y1.entries.c)]⟩, ⟨33, [vI y3.base, .v (.slice y3.entries.A y3.entries.n y3.entries.c)]⟩, ⟨33, [vI y4.base, .v (.slice y4.entries.A y4.entries.n y4.entries.c)]⟩]⟩ [] [] (by kernel_rfl) on wn ?_
      cases h1 : decide ((mPut y1.abs n ([] ++ m.xs)).2 = (mPut x.abs n m.xs).2) with
      | true =>
        have h1 := of_decide_eq_true h1
        refine JL_run 2 [] [34, 33, 32, 7, 3] 2 ⟨[(34, .v (.agg #[.int .i64 y4.base, .slice y4.entries.A y4.entries.n y4.entries.c])), (33, .v (.agg #[.int .i64 y3.base, .slice y3.entries.A y3.entries.n y3.entries.c])), (32, vB true), (7, .p 1 0), (3, .p 0 0)], [⟨33, [vI x.base, .v (.slice x.entries.A x.entries.n x.entries.c)]⟩, ⟨33, [vI y1.base, .v (.slice y1.entries.A y1.entries.n y1.entries.c)]⟩]⟩ [] [] (by kernel_rfl) on wn ?_
        refine l_pure 21 [] [.v (.agg #[.int .i64 y3.base, .slice y3.entries.A y3.entries.n y3.entries.c]), .v (.agg #[.int .i64 y4.base, .slice y4.entries.A y4.entries.n y4.entries.c])] (.bool true) Try.call21 rfl rfl rfl rfl (fun bs w hS => same_log y3 y4 w (hS.res _ (.tail _ (.head _))) (hS.res _ (.head _)) (by rw [hF3, hF4, hF1] <;> rfl)) ?_
        refine JL_run 4 [] [39, 38, 37] 0 ⟨[(39, .v (.agg #[.int .i64 x.base, .slice x.entries.A x.entries.n x.entries.c])), (38, .v (.agg #[.int .i64 y1.base, .slice y1.entries.A y1.entries.n y1.entries.c])), (37, vB true)], []⟩ [] [] (by kernel_rfl) on wn ?_
        refine l_pure 21 [] [.v (.agg #[.int .i64 y1.base, .slice y1.entries.A y1.entries.n y1.entries.c]), .v (.agg #[.int .i64 x.base, .slice x.entries.A x.entries.n x.entries.c])] (.bool true) Try.call21 rfl rfl rfl rfl (fun bs w hS => same_log y1 x w (hS.res _ (.tail _ (.tail _ (.tail _ (.head _))))) (Rds.kp hx hS.kp) hF1) ?_
        refine JL_run 2 [] [6] 0 ⟨[(6, vB true)], []⟩ [] [] (by kernel_rfl) on wn ?_
        refine l_nil (q_then_normal ?_)
        refine c_ret ?_
        refine q_ret (.inl rfl) [vB true] rfl (fun bs w hS => ?_)
        refine ⟨?_, hS.kp⟩
        simp [retOf, den]
      | false =>
        have h1 := of_decide_eq_false h1
        exfalso; first | (simp at h1; done) | (rw [hF1] at h1; simp at h1; done)
    ·
      refine h_local ⟨[(8, .p 2 0), (18, .v (.slice A2 ([] ++ m.xs).length c2)), (17, .v (.slice m.A m.n m.c)), (16, vI n), (15, .v (.agg #[.int .i64 y1.base, .slice y1.entries.A y1.entries.n y1.entries.c])), (7, .p 1 0), (3, .p 0 0), (1, vI n), (2, .v (.slice m.A m.n m.c))], [⟨33, [vI x.base, .v (.slice x.entries.A x.entries.n x.entries.c)]⟩, ⟨33, [vI y1.base, .v (.slice y1.entries.A y1.entries.n y1.entries.c)]⟩, ⟨33, [vI 0, .v (.slice none 0 0)]⟩]⟩ (by kernel_rfl) (fun bs0 bs w hp hl hS => hS.down hp hl rfl (le_same (le_same le_nil)) (.cons _ (List.Sublist.refl _))) ?_
      refine h_sub_call (σ := CLog) 26 [] [.v (.agg #[.int .i64 y1.base, .slice y1.entries.A y1.entries.n y1.entries.c]), vI n, .v (.slice A2 ([] ++ m.xs).length c2)] (fun y5 => .tuple #[.agg #[.int .i64 y5.base, .slice y5.entries.A y5.entries.n y5.entries.c], .int .i64 ((mPut y1.abs n ([] ++ m.xs)).2)]) (fun y5 => y5.abs = (mPut y1.abs n ([] ++ m.xs)).1) rfl Try.call26 rfl rfl rfl rfl (fun bs w hS => by exact log_Put y1 n (⟨A2, c2, [] ++ m.xs⟩ : Sl ByteArray) w (hS.res _ (.tail _ (.head _))) (rowA_rd (B := anyB) (hS.res _ (.head _)) (fun _ _ => trivial) (fun z hz => Sl.rd.mem (s := m) hm z hz))) (fun bs0 bs fp y w hp hl hS => hS.down hp hl rfl (le_same (le_same le_nil)) (.cons _ (.cons _ (List.Sublist.refl _)))) ?_
      rintro fp5 y5 hF5 hok5
      refine h_quiet [] [(5, true), (6, true), (7, true)] [(21, vI ((mPut y1.abs n ([] ++ m.xs)).2)), (20, .v (.agg #[.int .i64 y5.base, .slice y5.entries.A y5.entries.n y5.entries.c])), (14, .v (.tuple #[.agg #[.int .i64 y5.base, .slice y5.entries.A y5.entries.n y5.entries.c], .int .i64 ((mPut y1.abs n ([] ++ m.xs)).2)])), (19, .v (.tuple #[.agg #[.int .i64 y5.base, .slice y5.entries.A y5.entries.n y5.entries.c], .int .i64 ((mPut y1.abs n ([] ++ m.xs)).2)])), (8, .p 2 0), (18, .v (.slice A2 ([] ++ m.xs).length c2)), (17, .v (.slice m.A m.n m.c)), (16, vI n), (15, .v (.agg #[.int .i64 y1.base, .slice y1.entries.A y1.entries.n y1.entries.c])), (7, .p 1 0), (3, .p 0 0), (1, vI n), (2, .v (.slice m.A m.n m.c))] [] [] rfl (by kernel_rfl) on wn ?_
      refine h_local ⟨[(21, vI ((mPut y1.abs n ([] ++ m.xs)).2)), (20, .v (.agg #[.int .i64 y5.base, .slice y5.entries.A y5.entries.n y5.entries.c])), (14, .v (.tuple #[.agg #[.int .i64 y5.base, .slice y5.entries.A y5.entries.n y5.entries.c], .int .i64 ((mPut y1.abs n ([] ++ m.xs)).2)])), (19, .v (.tuple #[.agg #[.int .i64 y5.base, .slice y5.entries.A y5.entries.n y5.entries.c], .int .i64 ((mPut y1.abs n ([] ++ m.xs)).2)])), (8, .p 2 0), (18, .v (.slice A2 ([] ++ m.xs).length c2)), (17, .v (.slice m.A m.n m.c)), (16, vI n), (15, .v (.agg #[.int .i64 y1.base, .slice y1.entries.A y1.entries.n y1.entries.c])), (7, .p 1 0), (3, .p 0 0), (1, vI n), (2, .v (.slice m.A m.n m.c))], [⟨33, [vI x.base, .v (.slice x.entries.A x.entries.n x.entries.c)]⟩, ⟨33, [vI y1.base, .v (.slice y1.entries.A y1.entries.n y1.entries.c)]⟩, ⟨33, [vI y5.base, .v (.slice y5.entries.A y5.entries.n y5.entries.c)]⟩]⟩ (by kernel_rfl) (fun bs0 bs w hp hl hS => hS.down hp hl rfl (le_same (le_same le_nil)) (.cons _ (.cons _ (List.Sublist.refl _)))) ?_
      refine h_quiet [] [(10, true)] [(9, vI ((mPut y1.abs n ([] ++ m.xs)).2)), (21, vI ((mPut y1.abs n ([] ++ m.xs)).2)), (20, .v (.agg #[.int .i64 y5.base, .slice y5.entries.A y5.entries.n y5.entries.c])), (14, .v (.tuple #[.agg #[.int .i64 y5.base, .slice y5.entries.A y5.entries.n y5.entries.c], .int .i64 ((mPut y1.abs n ([] ++ m.xs)).2)])), (19, .v (.tuple #[.agg #[.int .i64 y5.base, .slice y5.entries.A y5.entries.n y5.entries.c], .int .i64 ((mPut y1.abs n ([] ++ m.xs)).2)])), (8, .p 2 0), (18, .v (.slice A2 ([] ++ m.xs).length c2)), (17, .v (.slice m.A m.n m.c)), (16, vI n), (15, .v (.agg #[.int .i64 y1.base, .slice y1.entries.A y1.entries.n y1.entries.c])), (7, .p 1 0), (3, .p 0 0), (1, vI n), (2, .v (.slice m.A m.n m.c))] [] [] rfl (by kernel_rfl) on wn ?_
      refine h_nil ?_
      refine l_nil (q_then_normal ?_)
      refine c_seq ?_
      refine c_region ?_
      refine JL_run 3 [] [25, 24, 23, 9, 8, 7, 3] 3 ⟨[(25, .v (.slice m.A m.n m.c)), (24, vI n), (23, .v (.agg #[.int .i64 x.base, .slice x.entries.A x.entries.n x.entries.c])), (9, vI ((mPut y1.abs n ([] ++ m.xs)).2)), (8, .p 2 0), (7, .p 1 0), (3, .p 0 0)], [⟨33, [vI x.base, .v (.slice x.entries.A x.entries.n x.entries.c)]⟩, ⟨33, [vI y1.base, .v (.slice y1.entries.A y1.entries.n y1.entries.c)]⟩, ⟨33, [vI y5.base, .v (.slice y5.entries.A y5.entries.n y5.entries.c)]⟩]⟩ [] [] (by kernel_rfl) on wn ?_
      refine l_sub_call (σ := CLog) 27 [] [.v (.agg #[.int .i64 x.base, .slice x.entries.A x.entries.n x.entries.c]), vI n, .v (.slice m.A m.n m.c)] (fun y6 => .tuple #[.agg #[.int .i64 y6.base, .slice y6.entries.A y6.entries.n y6.entries.c], .int .i64 ((mPut x.abs n m.xs).2)]) (fun y6 => y6.abs = (mPut x.abs n m.xs).1) Try.call27 rfl rfl rfl rfl (fun bs w hS => by exact ref_PutOf x n m w (Rds.kp hx hS.kp) (Sl.rd.kp hm hS.kp)) ?_
      rintro fp6 y6 hF6 hok6
      refine JL_run 6 [] [11, 10, 9, 8, 7, 3] 4 ⟨[(11, vI ((mPut x.abs n m.xs).2)), (10, .p 3 0), (9, vI ((mPut y1.abs n ([] ++ m.xs)).2)), (8, .p 2 0), (7, .p 1 0), (3, .p 0 0)], [⟨33, [vI x.base, .v (.slice x.entries.A x.entries.n x.entries.c)]⟩, ⟨33, [vI y1.base, .v (.slice y1.entries.A y1.entries.n y1.entries.c)]⟩, ⟨33, [vI y5.base, .v (.slice y5.entries.A y5.entries.n y5.entries.c)]⟩, ⟨33, [vI y6.base, .v (.slice y6.entries.A y6.entries.n y6.entries.c)]⟩]⟩ [] [] (by kernel_rfl) on wn ?_
      refine l_nil (q_then_normal ?_)
      refine c_seq ?_
      refine c_region ?_
      refine JL_run 4 [] [32, 10, 8, 7, 3] 4 ⟨[(32, vB (decide ((mPut y1.abs n ([] ++ m.xs)).2 = (mPut x.abs n m.xs).2))), (10, .p 3 0), (8, .p 2 0), (7, .p 1 0), (3, .p 0 0)], [⟨33, [vI x.base, .v (.slice x.entries.A x.entries.n x.entries.c)]⟩, ⟨33, [vI y1.base, .v (.slice y1.entries.A y1.entries.n y1.entries.c)]⟩, ⟨33, [vI y5.base, .v (.slice y5.entries.A y5.entries.n y5.entries.c)]⟩, ⟨33, [vI y6.base, .v (.slice y6.entries.A y6.entries.n y6.entries.c)]⟩]⟩ [] [] (by kernel_rfl) on wn ?_
      cases h2 : decide ((mPut y1.abs n ([] ++ m.xs)).2 = (mPut x.abs n m.xs).2) with
      | true =>
        have h2 := of_decide_eq_true h2
        refine JL_run 2 [] [34, 33, 32, 7, 3] 2 ⟨[(34, .v (.agg #[.int .i64 y6.base, .slice y6.entries.A y6.entries.n y6.entries.c])), (33, .v (.agg #[.int .i64 y5.base, .slice y5.entries.A y5.entries.n y5.entries.c])), (32, vB true), (7, .p 1 0), (3, .p 0 0)], [⟨33, [vI x.base, .v (.slice x.entries.A x.entries.n x.entries.c)]⟩, ⟨33, [vI y1.base, .v (.slice y1.entries.A y1.entries.n y1.entries.c)]⟩]⟩ [] [] (by kernel_rfl) on wn ?_
        refine l_pure 21 [] [.v (.agg #[.int .i64 y5.base, .slice y5.entries.A y5.entries.n y5.entries.c]), .v (.agg #[.int .i64 y6.base, .slice y6.entries.A y6.entries.n y6.entries.c])] (.bool true) Try.call21 rfl rfl rfl rfl (fun bs w hS => same_log y5 y6 w (hS.res _ (.tail _ (.head _))) (hS.res _ (.head _)) (by rw [hF5, hF6, hF1] <;> rfl)) ?_
        refine JL_run 4 [] [39, 38, 37] 0 ⟨[(39, .v (.agg #[.int .i64 x.base, .slice x.entries.A x.entries.n x.entries.c])), (38, .v (.agg #[.int .i64 y1.base, .slice y1.entries.A y1.entries.n y1.entries.c])), (37, vB true)], []⟩ [] [] (by kernel_rfl) on wn ?_
        refine l_pure 21 [] [.v (.agg #[.int .i64 y1.base, .slice y1.entries.A y1.entries.n y1.entries.c]), .v (.agg #[.int .i64 x.base, .slice x.entries.A x.entries.n x.entries.c])] (.bool true) Try.call21 rfl rfl rfl rfl (fun bs w hS => same_log y1 x w (hS.res _ (.tail _ (.tail _ (.tail _ (.head _))))) (Rds.kp hx hS.kp) hF1) ?_
        refine JL_run 2 [] [6] 0 ⟨[(6, vB true)], []⟩ [] [] (by kernel_rfl) on wn ?_
        refine l_nil (q_then_normal ?_)
        refine c_ret ?_
        refine q_ret (.inl rfl) [vB true] rfl (fun bs w hS => ?_)
        refine ⟨?_, hS.kp⟩
        simp [retOf, den]
      | false =>
        have h2 := of_decide_eq_false h2
        exfalso; first | (simp at h2; done) | (rw [hF1] at h2; simp at h2; done)
  ·
    refine h_local ⟨[(8, .p 2 0), (17, .v (.slice m.A m.n m.c)), (16, vI n), (15, .v (.agg #[.int .i64 y1.base, .slice y1.entries.A y1.entries.n y1.entries.c])), (7, .p 1 0), (3, .p 0 0), (1, vI n), (2, .v (.slice m.A m.n m.c))], [⟨33, [vI x.base, .v (.slice x.entries.A x.entries.n x.entries.c)]⟩, ⟨33, [vI y1.base, .v (.slice y1.entries.A y1.entries.n y1.entries.c)]⟩, ⟨33, [vI 0, .v (.slice none 0 0)]⟩]⟩ (by kernel_rfl) (fun bs0 bs w hp hl hS => hS.down hp hl rfl (le_same (le_same le_nil)) (List.Sublist.refl _)) ?_
    refine h_rowA (α := ByteArray) 9 ?_
    refine h_appendA (α := ByteArray) 9 16 none 0 ([]) (.v (.slice m.A m.n m.c)) (m.xs) rfl Try.underlying31 (by kernel_rfl) rfl rfl rfl rfl (fun bs w hS => ⟨_, _, rfl, Sl.rd.src (s := m) (Sl.rd.kp hm hS.kp)⟩) (by first | omega | (simp only [List.length_nil]; omega)) (by first | omega | (simp only [List.length_nil]; omega)) (fun bs0 bs A2 c2 w hp hl hS => hS.down hp hl rfl (le_same (le_same le_nil)) (.cons _ (List.Sublist.refl _))) ?_
    intro A7 c7
    refine h_sub_call (σ := CLog) 26 [] [.v (.agg #[.int .i64 y1.base, .slice y1.entries.A y1.entries.n y1.entries.c]), vI n, .v (.slice A7 ([] ++ m.xs).length c7)] (fun y8 => .tuple #[.agg #[.int .i64 y8.base, .slice y8.entries.A y8.entries.n y8.entries.c], .int .i64 ((mPut y1.abs n ([] ++ m.xs)).2)]) (fun y8 => y8.abs = (mPut y1.abs n ([] ++ m.xs)).1) rfl Try.call26 rfl rfl rfl rfl (fun bs w hS => by exact log_Put y1 n (⟨A7, c7, [] ++ m.xs⟩ : Sl ByteArray) w (hS.res _ (.tail _ (.head _))) (rowA_rd (B := anyB) (hS.res _ (.head _)) (fun _ _ => trivial) (fun z hz => Sl.rd.mem (s := m) hm z hz))) (fun bs0 bs fp y w hp hl hS => hS.down hp hl rfl (le_same (le_same le_nil)) (.cons _ (.cons _ (List.Sublist.refl _)))) ?_
    rintro fp8 y8 hF8 hok8
    refine h_quiet [] [(5, true), (6, true), (7, true)] [(21, vI ((mPut y1.abs n ([] ++ m.xs)).2)), (20, .v (.agg #[.int .i64 y8.base, .slice y8.entries.A y8.entries.n y8.entries.c])), (14, .v (.tuple #[.agg #[.int .i64 y8.base, .slice y8.entries.A y8.entries.n y8.entries.c], .int .i64 ((mPut y1.abs n ([] ++ m.xs)).2)])), (19, .v (.tuple #[.agg #[.int .i64 y8.base, .slice y8.entries.A y8.entries.n y8.entries.c], .int .i64 ((mPut y1.abs n ([] ++ m.xs)).2)])), (18, .v (.slice A7 ([] ++ m.xs).length c7)), (8, .p 2 0), (17, .v (.slice m.A m.n m.c)), (16, vI n), (15, .v (.agg #[.int .i64 y1.base, .slice y1.entries.A y1.entries.n y1.entries.c])), (7, .p 1 0), (3, .p 0 0), (1, vI n), (2, .v (.slice m.A m.n m.c))] [] [] rfl (by kernel_rfl) on wn ?_
    refine h_local ⟨[(21, vI ((mPut y1.abs n ([] ++ m.xs)).2)), (20, .v (.agg #[.int .i64 y8.base, .slice y8.entries.A y8.entries.n y8.entries.c])), (14, .v (.tuple #[.agg #[.int .i64 y8.base, .slice y8.entries.A y8.entries.n y8.entries.c], .int .i64 ((mPut y1.abs n ([] ++ m.xs)).2)])), (19, .v (.tuple #[.agg #[.int .i64 y8.base, .slice y8.entries.A y8.entries.n y8.entries.c], .int .i64 ((mPut y1.abs n ([] ++ m.xs)).2)])), (18, .v (.slice A7 ([] ++ m.xs).length c7)), (8, .p 2 0), (17, .v (.slice m.A m.n m.c)), (16, vI n), (15, .v (.agg #[.int .i64 y1.base, .slice y1.entries.A y1.entries.n y1.entries.c])), (7, .p 1 0), (3, .p 0 0), (1, vI n), (2, .v (.slice m.A m.n m.c))], [⟨33, [vI x.base, .v (.slice x.entries.A x.entries.n x.entries.c)]⟩, ⟨33, [vI y1.base, .v (.slice y1.entries.A y1.entries.n y1.entries.c)]⟩, ⟨33, [vI y8.base, .v (.slice y8.entries.A y8.entries.n y8.entries.c)]⟩]⟩ (by kernel_rfl) (fun bs0 bs w hp hl hS => hS.down hp hl rfl (le_same (le_same le_nil)) (.cons _ (.cons _ (List.Sublist.refl _)))) ?_
    refine h_quiet [] [(10, true)] [(9, vI ((mPut y1.abs n ([] ++ m.xs)).2)), (21, vI ((mPut y1.abs n ([] ++ m.xs)).2)), (20, .v (.agg #[.int .i64 y8.base, .slice y8.entries.A y8.entries.n y8.entries.c])), (14, .v (.tuple #[.agg #[.int .i64 y8.base, .slice y8.entries.A y8.entries.n y8.entries.c], .int .i64 ((mPut y1.abs n ([] ++ m.xs)).2)])), (19, .v (.tuple #[.agg #[.int .i64 y8.base, .slice y8.entries.A y8.entries.n y8.entries.c], .int .i64 ((mPut y1.abs n ([] ++ m.xs)).2)])), (18, .v (.slice A7 ([] ++ m.xs).length c7)), (8, .p 2 0), (17, .v (.slice m.A m.n m.c)), (16, vI n), (15, .v (.agg #[.int .i64 y1.base, .slice y1.entries.A y1.entries.n y1.entries.c])), (7, .p 1 0), (3, .p 0 0), (1, vI n), (2, .v (.slice m.A m.n m.c))] [] [] rfl (by kernel_rfl) on wn ?_
    refine h_nil ?_
    refine l_nil (q_then_normal ?_)
    refine c_seq ?_
    refine c_region ?_
    refine JL_run 3 [] [25, 24, 23, 9, 8, 7, 3] 3 ⟨[(25, .v (.slice m.A m.n m.c)), (24, vI n), (23, .v (.agg #[.int .i64 x.base, .slice x.entries.A x.entries.n x.entries.c])), (9, vI ((mPut y1.abs n ([] ++ m.xs)).2)), (8, .p 2 0), (7, .p 1 0), (3, .p 0 0)], [⟨33, [vI x.base, .v (.slice x.entries.A x.entries.n x.entries.c)]⟩, ⟨33, [vI y1.base, .v (.slice y1.entries.A y1.entries.n y1.entries.c)]⟩, ⟨33, [vI y8.base, .v (.slice y8.entries.A y8.entries.n y8.entries.c)]⟩]⟩ [] [] (by kernel_rfl) on wn ?_
    refine l_sub_call (σ := CLog) 27 [] [.v (.agg #[.int .i64 x.base, .slice x.entries.A x.entries.n x.entries.c]), vI n, .v (.slice m.A m.n m.c)] (fun y9 => .tuple #[.agg #[.int .i64 y9.base, .slice y9.entries.A y9.entries.n y9.entries.c], .int .i64 ((mPut x.abs n m.xs).2)]) (fun y9 => y9.abs = (mPut x.abs n m.xs).1) Try.call27 rfl rfl rfl rfl (fun bs w hS => by exact ref_PutOf x n m w (Rds.kp hx hS.kp) (Sl.rd.kp hm hS.kp)) ?_
    rintro fp9 y9 hF9 hok9
    refine JL_run 6 [] [11, 10, 9, 8, 7, 3] 4 ⟨[(11, vI ((mPut x.abs n m.xs).2)), (10, .p 3 0), (9, vI ((mPut y1.abs n ([] ++ m.xs)).2)), (8, .p 2 0), (7, .p 1 0), (3, .p 0 0)], [⟨33, [vI x.base, .v (.slice x.entries.A x.entries.n x.entries.c)]⟩, ⟨33, [vI y1.base, .v (.slice y1.entries.A y1.entries.n y1.entries.c)]⟩, ⟨33, [vI y8.base, .v (.slice y8.entries.A y8.entries.n y8.entries.c)]⟩, ⟨33, [vI y9.base, .v (.slice y9.entries.A y9.entries.n y9.entries.c)]⟩]⟩ [] [] (by kernel_rfl) on wn ?_
    refine l_nil (q_then_normal ?_)
    refine c_seq ?_
    refine c_region ?_
    refine JL_run 4 [] [32, 10, 8, 7, 3] 4 ⟨[(32, vB (decide ((mPut y1.abs n ([] ++ m.xs)).2 = (mPut x.abs n m.xs).2))), (10, .p 3 0), (8, .p 2 0), (7, .p 1 0), (3, .p 0 0)], [⟨33, [vI x.base, .v (.slice x.entries.A x.entries.n x.entries.c)]⟩, ⟨33, [vI y1.base, .v (.slice y1.entries.A y1.entries.n y1.entries.c)]⟩, ⟨33, [vI y8.base, .v (.slice y8.entries.A y8.entries.n y8.entries.c)]⟩, ⟨33, [vI y9.base, .v (.slice y9.entries.A y9.entries.n y9.entries.c)]⟩]⟩ [] [] (by kernel_rfl) on wn ?_
    cases h3 : decide ((mPut y1.abs n ([] ++ m.xs)).2 = (mPut x.abs n m.xs).2) with
    | true =>
      have h3 := of_decide_eq_true h3
      refine JL_run 2 [] [34, 33, 32, 7, 3] 2 ⟨[(34, .v (.agg #[.int .i64 y9.base, .slice y9.entries.A y9.entries.n y9.entries.c])), (33, .v (.agg #[.int .i64 y8.base, .slice y8.entries.A y8.entries.n y8.entries.c])), (32, vB true), (7, .p 1 0), (3, .p 0 0)], [⟨33, [vI x.base, .v (.slice x.entries.A x.entries.n x.entries.c)]⟩, ⟨33, [vI y1.base, .v (.slice y1.entries.A y1.entries.n y1.entries.c)]⟩]⟩ [] [] (by kernel_rfl) on wn ?_
      refine l_pure 21 [] [.v (.agg #[.int .i64 y8.base, .slice y8.entries.A y8.entries.n y8.entries.c]), .v (.agg #[.int .i64 y9.base, .slice y9.entries.A y9.entries.n y9.entries.c])] (.bool true) Try.call21 rfl rfl rfl rfl (fun bs w hS => same_log y8 y9 w (hS.res _ (.tail _ (.head _))) (hS.res _ (.head _)) (by rw [hF8, hF9, hF1] <;> rfl)) ?_
      refine JL_run 4 [] [39, 38, 37] 0 ⟨[(39, .v (.agg #[.int .i64 x.base, .slice x.entries.A x.entries.n x.entries.c])), (38, .v (.agg #[.int .i64 y1.base, .slice y1.entries.A y1.entries.n y1.entries.c])), (37, vB true)], []⟩ [] [] (by kernel_rfl) on wn ?_
      refine l_pure 21 [] [.v (.agg #[.int .i64 y1.base, .slice y1.entries.A y1.entries.n y1.entries.c]), .v (.agg #[.int .i64 x.base, .slice x.entries.A x.entries.n x.entries.c])] (.bool true) Try.call21 rfl rfl rfl rfl (fun bs w hS => same_log y1 x w (hS.res _ (.tail _ (.tail _ (.tail _ (.head _))))) (Rds.kp hx hS.kp) hF1) ?_
      refine JL_run 2 [] [6] 0 ⟨[(6, vB true)], []⟩ [] [] (by kernel_rfl) on wn ?_
      refine l_nil (q_then_normal ?_)
      refine c_ret ?_
      refine q_ret (.inl rfl) [vB true] rfl (fun bs w hS => ?_)
      refine ⟨?_, hS.kp⟩
      simp [retOf, den]
    | false =>
      have h3 := of_decide_eq_false h3
      exfalso; first | (simp at h3; done) | (rw [hF1] at h3; simp at h3; done)

end Go.Proofs.Ytececkgjacccmad.W
