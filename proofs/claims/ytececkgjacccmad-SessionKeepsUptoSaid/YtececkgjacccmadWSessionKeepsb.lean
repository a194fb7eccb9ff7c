/-
  The functions that the law SessionKeeps reaches, walked: each returns what its model says.
  Conditions: those that each theorem states.
-/
import Derived.Test.YtececkgjacccmadWSessionKeepsa
set_option linter.unusedVariables false
set_option linter.unusedSimpArgs false
set_option maxRecDepth 100000
namespace Go.Proofs.Ytececkgjacccmad.W
open Go.Proofs.Ytececkgjacccmad.Fw Go.RowKit

theorem ref_KeptOf {B : Nat → Prop} (s : Sl CSession) (n t q : Int) (r : DReply) (w : World) (hs : s.rd B w) (ht : inR t) (hq : inR q) (hr : r.text.size ≤ 9223372036854775807) : Calls Try.prog 35 #[.slice s.A s.n s.c, .int .i64 n, .int .i64 t, .int .i64 q, .agg #[.int .i64 r.code, .int .i64 r.n, .string r.text]] w fun e w' => ∃ y : Sl CSession, e = .returned (.tuple #[.slice y.A y.n y.c, .int .i64 ((mKeep (s.xs.map CSession.abs) n t q r).2)]) ∧ y.xs.map CSession.abs = (mKeep (s.xs.map CSession.abs) n t q r).1 ∧ FreshS w w' y := by
  have oks := Sl.rd.ok hs
  have ncs := Sl.ok.nc oks
  have hns : s.n = s.xs.length := rfl
  have hml : (s.xs.map CSession.abs).length = s.n := by simp
  refine calls_J0 92 Try.func35 rfl rfl [.slice s.A s.n s.c, .int .i64 n, .int .i64 t, .int .i64 q, .agg #[.int .i64 r.code, .int .i64 r.n, .string r.text]] rfl ?_
  refine c_seq ?_
  refine c_region ?_
  refine JL_run 3 [] [9, 0, 1, 2, 3] 1 ⟨[(9, .p 0 0), (0, .v (.slice s.A s.n s.c)), (1, vI n), (2, vI t), (3, vI q)], [⟨26, [vI r.code, vI r.n, vS r.text]⟩]⟩ [] [] (by kernel_rfl) on wn ?_
  refine l_nil (q_then_normal ?_)
  refine c_seq ?_
  refine c_region ?_
  refine JL_run 2 [] [20, 19, 9, 0, 2, 3] 1 ⟨[(20, vI n), (19, .v (.slice s.A s.n s.c)), (9, .p 0 0), (0, .v (.slice s.A s.n s.c)), (2, vI t), (3, vI q)], [⟨26, [vI r.code, vI r.n, vS r.text]⟩]⟩ [] [] (by kernel_rfl) on wn ?_
  refine l_pure 82 [] [.v (.slice s.A s.n s.c), vI n] (.int .i64 (mSess (s.xs.map CSession.abs) n)) Try.call82 rfl rfl rfl rfl (fun bs w hS => ref_SessionsFault s n w (Sl.rd.kp hs hS.kp)) ?_
  refine JL_run 1 [] [12, 9, 0, 2, 3] 1 ⟨[(12, vI (mSess (s.xs.map CSession.abs) n)), (9, .p 0 0), (0, .v (.slice s.A s.n s.c)), (2, vI t), (3, vI q)], [⟨26, [vI r.code, vI r.n, vS r.text]⟩]⟩ [] [] (by kernel_rfl) on wn ?_
  refine l_nil (q_then_normal ?_)
  refine c_seq ?_
  refine c_seq ?_
  refine c_region ?_
  refine JL_run 2 [] [23, 12, 9, 0, 2, 3] 1 ⟨[(23, vB (!(decide (mSess (s.xs.map CSession.abs) n = 0)))), (12, vI (mSess (s.xs.map CSession.abs) n)), (9, .p 0 0), (0, .v (.slice s.A s.n s.c)), (2, vI t), (3, vI q)], [⟨26, [vI r.code, vI r.n, vS r.text]⟩]⟩ [] [] (by kernel_rfl) on wn ?_
  refine l_nil (q_then_normal ?_)
  cases h1 : decide (mSess (s.xs.map CSession.abs) n = 0) with
  | true =>
    have h1 := of_decide_eq_true h1
    obtain ⟨hi0, hi1, hln, hall⟩ := mSess_bd h1
    have hln2 : s.xs.length ≤ 4 := by simpa using hln
    refine c_if false rfl ?_
    refine c_skip ?_
    refine q_then_normal ?_
    refine c_seq ?_
    refine c_region ?_
    refine JL_run 1 [] [25, 9, 2, 3] 1 ⟨[(25, .v (.slice s.A s.n s.c)), (9, .p 0 0), (2, vI t), (3, vI q)], [⟨26, [vI r.code, vI r.n, vS r.text]⟩]⟩ [] [] (by kernel_rfl) on wn ?_
    refine l_freshF (σ := Sl CSession) 77 [] [.v (.slice s.A s.n s.c)] (fun y1 => .slice y1.A y1.n y1.c) (fun y1 => y1.xs.map CSession.abs = s.xs.map CSession.abs) (fun y1 => sessR 113 115 y1) Try.call77 rfl rfl rfl rfl (fun bs w hS => ref_SessionsCopy s w (Sl.rd.kp hs hS.kp) (small_sess (by assumption))) ?_
    rintro y1 hF1
    refine l_split2 ?_
    obtain ⟨A1, c1, S1⟩ := y1
    have hF1 : S1.map CSession.abs = s.xs.map CSession.abs := hF1
    refine l_perm (R' := [ownL (keptR 115) S1, rowA 113 A1 c1 (S1 : List CSession)]) (List.Perm.refl _) ?_
    have hnm1 := sess_texts (y := (⟨A1, c1, S1⟩ : Sl CSession)) (hs) hF1
    have hlen1 : S1.length = s.xs.length := by simpa using congrArg List.length hF1
    refine l_know (F := ∀ i, i < S1.length → Rds.ok (S1.getD i default)) (fun bs w hS i hi => Rds.okof (B := anyB) (w := w) (own_elt (hS.res _ (.head _)) hnm1 (mem_of_getD hi))) fun okown1 => ?_
    refine l_know (F := RowOk A1 c1 (S1 : List CSession)) (fun bs w hS => rowA_rok (hS.res _ (.tail _ (.head _)))) fun hrow1 => ?_
    have nchrow1 := hrow1.2
    have hml1 : (S1.map CSession.abs).length = S1.length := by simp
    have hm1 : mSess (S1.map CSession.abs) n = 0 := by rw [hF1]; assumption
    refine JL_run 1 [] [13, 9, 2, 3] 1 ⟨[(13, .v (.slice A1 S1.length c1)), (9, .p 0 0), (2, vI t), (3, vI q)], [⟨26, [vI r.code, vI r.n, vS r.text]⟩]⟩ [] [] (by kernel_rfl) on wn ?_
    refine l_nil (q_then_normal ?_)
    refine c_seq ?_
    refine c_region ?_
    refine JL_run 2 [] [28, 27, 13, 9, 3] 1 ⟨[(28, vI t), (27, .v (.slice A1 S1.length c1)), (13, .v (.slice A1 S1.length c1)), (9, .p 0 0), (3, vI q)], [⟨26, [vI r.code, vI r.n, vS r.text]⟩]⟩ [] [] (by kernel_rfl) on wn ?_
    refine l_pure 83 [] [.v (.slice A1 S1.length c1), vI t] (.int .i64 (mIdx (fun x : CSession => decide (x.client = t)) S1)) Try.call83 rfl rfl rfl rfl (fun bs w hS => tackroomref_sessionAt (⟨A1, c1, S1⟩ : Sl CSession) t w (own_sess (hS.res _ (.head _)) (hS.res _ (.tail _ (.head _))) hnm1)) ?_
    have hJe : mIdx (fun x : CSession => decide (x.client = t)) S1 = mIdx (fun x : DSession => decide (x.client = t)) (S1.map CSession.abs) := mIdx_map CSession.abs (fun x : DSession => decide (x.client = t)) S1
    rw [hJe]
    have hJb := mIdx_bd (fun x : DSession => decide (x.client = t)) (S1.map CSession.abs)
    generalize hJ : mIdx (fun x : DSession => decide (x.client = t)) (S1.map CSession.abs) = J at hJb ⊢
    rw [List.length_map] at hJb
    refine JL_run 1 [] [14, 13, 9, 3] 1 ⟨[(14, vI J), (13, .v (.slice A1 S1.length c1)), (9, .p 0 0), (3, vI q)], [⟨26, [vI r.code, vI r.n, vS r.text]⟩]⟩ [] [] (by kernel_rfl) on wn ?_
    refine l_nil (q_then_normal ?_)
    refine c_seq ?_
    refine c_seq ?_
    refine c_region ?_
    refine JL_run 2 [] [31, 14, 13, 9, 3] 1 ⟨[(31, vB (decide (J < 0))), (14, vI J), (13, .v (.slice A1 S1.length c1)), (9, .p 0 0), (3, vI q)], [⟨26, [vI r.code, vI r.n, vS r.text]⟩]⟩ [] [] (by kernel_rfl) on wn ?_
    refine l_nil (q_then_normal ?_)
    cases h2 : decide (J < 0) with
    | true =>
      have h2 := of_decide_eq_true h2
      have h0J : ¬ 0 ≤ J := by omega
      refine c_if true rfl ?_
      refine c_seq ?_
      refine c_region ?_
      refine JL_run 2 [] [11, 10] 0 ⟨[(11, vI 11), (10, .v (.slice none 0 0))], []⟩ [] [] (by kernel_rfl) on wn ?_
      refine l_nil (q_then_normal ?_)
      refine c_ret ?_
      refine q_then_ret (q_ret (.inl rfl) [.v (.slice none 0 0), vI 11] rfl (fun bs w hS => ?_))
      rw [← hF1]
      have hm : mKeep (S1.map CSession.abs) n t q r = ([], 11) := by
        unfold mKeep sIdx
        simp only [hJ, sgetD, List.length_map]
        repeat (first | rw [if_pos (by first | assumption | omega)] | rw [if_neg (by first | assumption | omega | (intro h0; first | exact absurd h0 (by assumption) | (simp_all; done)))])
        all_goals rfl
      refine ⟨Sl.nil, ?_, ?_, hS.outS (Sl.rd_nil _ _)⟩
      · rw [hm] <;> rfl
      · rw [hm] <;> rfl
    | false =>
      have h2 := of_decide_eq_false h2
      have h0J : 0 ≤ J := by omega
      have hk5 := sess_all hm1 (k := J.toNat) (by omega)
      have hk6 : (S1.getD J.toNat default).replies.xs.length ≤ 4 := mReplies_len hk5.2.2.2.2
      have hk7 : (S1.getD J.toNat default).replies.n = (S1.getD J.toNat default).replies.xs.length := rfl
      refine c_if false rfl ?_
      refine c_skip ?_
      refine q_then_normal ?_
      refine c_seq ?_
      refine c_region ?_
      refine JL_run 1 [] [15, 14, 13, 9, 3] 1 ⟨[(15, .v (.slice none 0 0)), (14, vI J), (13, .v (.slice A1 S1.length c1)), (9, .p 0 0), (3, vI q)], [⟨26, [vI r.code, vI r.n, vS r.text]⟩]⟩ [] [] (by kernel_rfl) on wn ?_
      refine l_nil (q_then_normal ?_)
      refine c_seq ?_
      refine c_region ?_
      refine JL_run 1 [] [16, 15, 14, 13, 9, 3] 1 ⟨[(16, vB false), (15, .v (.slice none 0 0)), (14, vI J), (13, .v (.slice A1 S1.length c1)), (9, .p 0 0), (3, vI q)], [⟨26, [vI r.code, vI r.n, vS r.text]⟩]⟩ [] [] (by kernel_rfl) on wn ?_
      refine l_nil (q_then_normal ?_)
      refine c_seq ?_
      refine c_seq ?_
      refine c_region ?_
      refine JL_run 1 [] [17, 16, 15, 14, 13, 9, 3] 1 ⟨[(17, vI 0), (16, vB false), (15, .v (.slice none 0 0)), (14, vI J), (13, .v (.slice A1 S1.length c1)), (9, .p 0 0), (3, vI q)], [⟨26, [vI r.code, vI r.n, vS r.text]⟩]⟩ [] [] (by kernel_rfl) on wn ?_
      refine l_nil (q_then_normal ?_)
      refine c_block ?_
      refine c_rowA (α := DKept) 115 ?_
      refine c_loop (σ := Nat × Bool × Option Addr × Nat × List DKept) (fun ⟨k, b, A, c, L⟩ => InsI (fun k : DKept => decide (q < k.seq)) (⟨q, r⟩ : DKept) (S1.getD J.toNat default).replies.xs k b L ∧ ∀ j, j < k → ¬ ((S1.getD J.toNat default).replies.xs.getD j default).seq = q) (fun ⟨k, b, A, c, L⟩ => (S1.getD J.toNat default).replies.xs.length - k) (fun ⟨k, b, A, c, L⟩ => [rowA 115 A c (L : List DKept), ownL (keptR 115) S1, rowA 113 A1 c1 (S1 : List CSession)]) (fun ⟨k, b, A, c, L⟩ => ⟨[(17, vI ((k : Nat) : Int)), (16, vB b), (15, .v (.slice A L.length c)), (14, vI J), (13, .v (.slice A1 S1.length c1)), (9, .p 0 0), (3, vI q)], [⟨26, [vI r.code, vI r.n, vS r.text]⟩]⟩) ⟨0, false, none, 0, []⟩ ⟨(show InsI (fun k : DKept => decide (q < k.seq)) (⟨q, r⟩ : DKept) (S1.getD J.toNat default).replies.xs 0 false [] from InsI.start _ _ _), fun j hj => absurd hj (Nat.not_lt_zero _)⟩ (s_start [17, 16, 15, 14, 13, 9, 3] 1 (by kernel_rfl) rfl) ?_
      rintro ⟨k, b, A, c, L⟩ ⟨hI, hX⟩
      have hIl := hI.len
      have hIk := hI.le
      refine c_seq ?_
      refine c_seq ?_
      refine c_region ?_
      refine JL_run 8 [(3, .idx (oad A1) J.toNat), (5, .ext [.slice (S1.getD J.toNat default).replies.A (S1.getD J.toNat default).replies.n (S1.getD J.toNat default).replies.c])] [39, 17, 16, 15, 14, 13, 9, 3] 1 ⟨[(39, vB (decide (((k : Nat) : Int) < (((S1.getD J.toNat default).replies.n : Nat) : Int)))), (17, vI ((k : Nat) : Int)), (16, vB b), (15, .v (.slice A L.length c)), (14, vI J), (13, .v (.slice A1 S1.length c1)), (9, .p 0 0), (3, vI q)], [⟨26, [vI r.code, vI r.n, vS r.text]⟩]⟩ [A1 = some (oad A1), J = ((J.toNat : Nat) : Int), J.toNat < S1.length] [(((oad A1).add (J.toNat * 5)).add 4, [.slice (S1.getD J.toNat default).replies.A (S1.getD J.toNat default).replies.n (S1.getD J.toNat default).replies.c])] (by kernel_rfl) (oc (hrow1.1 J.toNat (by omega)) (oc (by omega) (oc (by omega) on))) (fun w hk hr => ⟨(rowA_fld (i := J.toNat) (hr _ (.tail _ (.tail _ (.head _)))) (by omega) 4 1 rfl), trivial⟩) ?_
      refine l_nil (q_then_normal ?_)
      cases h3 : decide (((k : Nat) : Int) < (((S1.getD J.toNat default).replies.n : Nat) : Int)) with
      | true =>
        have h3 := of_decide_eq_true h3
        refine c_if true rfl ?_
        refine c_skip ?_
        refine q_then_normal ?_
        refine c_seq ?_
        refine c_block ?_
        refine c_seq ?_
        refine c_region ?_
        refine JL_run 10 [(2, .idx (oad A1) J.toNat), (4, .ext [.slice (S1.getD J.toNat default).replies.A (S1.getD J.toNat default).replies.n (S1.getD J.toNat default).replies.c]), (6, .idx (S1.getD J.toNat default).replies.ad k), (7, .ext [.int .i64 ((S1.getD J.toNat default).replies.at k).seq, .int .i64 ((S1.getD J.toNat default).replies.at k).reply.code, .int .i64 ((S1.getD J.toNat default).replies.at k).reply.n, .string ((S1.getD J.toNat default).replies.at k).reply.text])] [18, 17, 16, 15, 14, 13, 9, 3] 2 ⟨[(18, .p 1 0), (17, vI ((k : Nat) : Int)), (16, vB b), (15, .v (.slice A L.length c)), (14, vI J), (13, .v (.slice A1 S1.length c1)), (9, .p 0 0), (3, vI q)], [⟨26, [vI r.code, vI r.n, vS r.text]⟩, ⟨115, [vI ((S1.getD J.toNat default).replies.at k).seq, vI ((S1.getD J.toNat default).replies.at k).reply.code, vI ((S1.getD J.toNat default).replies.at k).reply.n, vS ((S1.getD J.toNat default).replies.at k).reply.text]⟩]⟩ [A1 = some (oad A1), J = ((J.toNat : Nat) : Int), J.toNat < S1.length, (S1.getD J.toNat default).replies.A = some (S1.getD J.toNat default).replies.ad, ((k : Nat) : Int) = ((k : Nat) : Int), k < (S1.getD J.toNat default).replies.n] [(((oad A1).add (J.toNat * 5)).add 4, [.slice (S1.getD J.toNat default).replies.A (S1.getD J.toNat default).replies.n (S1.getD J.toNat default).replies.c]), ((S1.getD J.toNat default).replies.ad.add (k * 4), [.int .i64 ((S1.getD J.toNat default).replies.at k).seq, .int .i64 ((S1.getD J.toNat default).replies.at k).reply.code, .int .i64 ((S1.getD J.toNat default).replies.at k).reply.n, .string ((S1.getD J.toNat default).replies.at k).reply.text])] (by kernel_rfl) (oc (hrow1.1 J.toNat (by omega)) (oc (by omega) (oc (by omega) (oc (Sl.ok.own (s := (S1.getD J.toNat default).replies) (i := k) (okown1 J.toNat (by omega)) (by omega)) (oc rfl (oc (by omega) on)))))) (fun w hk hr => ⟨(rowA_fld (i := J.toNat) (hr _ (.tail _ (.tail _ (.head _)))) (by omega) 4 1 rfl), ⟨(Sl.rd.all (s := (S1.getD J.toNat default).replies) (i := k) (own_elt (hr _ (.tail _ (.head _))) hnm1 (mem_of_getD (i := J.toNat) (by omega))) (by omega) rfl), trivial⟩⟩) ?_
        refine l_nil (q_then_normal ?_)
        refine c_seq ?_
        refine c_seq ?_
        refine c_region ?_
        refine JL_run 4 [] [53, 18, 17, 16, 15, 14, 13, 9, 3] 2 ⟨[(53, vB (decide (((S1.getD J.toNat default).replies.at k).seq = q))), (18, .p 1 0), (17, vI ((k : Nat) : Int)), (16, vB b), (15, .v (.slice A L.length c)), (14, vI J), (13, .v (.slice A1 S1.length c1)), (9, .p 0 0), (3, vI q)], [⟨26, [vI r.code, vI r.n, vS r.text]⟩, ⟨115, [vI ((S1.getD J.toNat default).replies.at k).seq, vI ((S1.getD J.toNat default).replies.at k).reply.code, vI ((S1.getD J.toNat default).replies.at k).reply.n, vS ((S1.getD J.toNat default).replies.at k).reply.text]⟩]⟩ [] [] (by kernel_rfl) on wn ?_
        refine l_nil (q_then_normal ?_)
        cases h4 : decide (((S1.getD J.toNat default).replies.at k).seq = q) with
        | true =>
          have h4 := of_decide_eq_true h4
          refine c_if true rfl ?_
          refine c_seq ?_
          refine c_region ?_
          refine JL_run 2 [] [11, 10] 0 ⟨[(11, vI 7), (10, .v (.slice none 0 0))], []⟩ [] [] (by kernel_rfl) on wn ?_
          refine l_nil (q_then_normal ?_)
          refine c_ret ?_
          refine q_then_ret (q_block_ret (q_then_ret (q_then_ret (q_block_ret (q_then_ret (q_ret (.inl rfl) [.v (.slice none 0 0), vI 7] rfl (fun bs w hS => ?_)))))))
          rw [← hF1]
          have hx7 : 0 ≤ kIdx (S1.getD J.toNat default).replies.xs q := by have h9 := mIdx_nonneg (fun k : DKept => decide (k.seq = q)) (S1.getD J.toNat default).replies.xs; rw [List.any_eq_true.2 ⟨_, mem_of_getD (L := (S1.getD J.toNat default).replies.xs) (i := k) (by have h8 : (S1.getD J.toNat default).replies.n = (S1.getD J.toNat default).replies.xs.length := rfl; omega), decide_eq_true (by assumption)⟩] at h9; exact of_decide_eq_true h9
          have hm : mKeep (S1.map CSession.abs) n t q r = ([], 7) := by
            unfold mKeep sIdx
            simp only [hJ, sgetD, List.length_map]
            repeat (first | rw [if_pos (by first | assumption | omega)] | rw [if_neg (by first | assumption | omega | (intro h0; first | exact absurd h0 (by assumption) | (simp_all; done)))])
            all_goals rfl
          refine ⟨Sl.nil, ?_, ?_, hS.outS (Sl.rd_nil _ _)⟩
          · rw [hm] <;> rfl
          · rw [hm] <;> rfl
        | false =>
          have h4 := of_decide_eq_false h4
          refine c_if false rfl ?_
          refine c_skip ?_
          refine q_then_normal ?_
          refine c_seq ?_
          refine c_seq ?_
          refine c_region ?_
          refine JL_run 3 [] [56, 18, 17, 16, 15, 14, 13, 9, 3] 2 ⟨[(56, vB (!b)), (18, .p 1 0), (17, vI ((k : Nat) : Int)), (16, vB b), (15, .v (.slice A L.length c)), (14, vI J), (13, .v (.slice A1 S1.length c1)), (9, .p 0 0), (3, vI q)], [⟨26, [vI r.code, vI r.n, vS r.text]⟩, ⟨115, [vI ((S1.getD J.toNat default).replies.at k).seq, vI ((S1.getD J.toNat default).replies.at k).reply.code, vI ((S1.getD J.toNat default).replies.at k).reply.n, vS ((S1.getD J.toNat default).replies.at k).reply.text]⟩]⟩ [] [] (by kernel_rfl) on wn ?_
          cases h5 : b with
          | true =>
            refine JL_run 5 [] [61, 18, 17, 16, 15, 14, 13, 9, 3] 2 ⟨[(61, vB false), (18, .p 1 0), (17, vI ((k : Nat) : Int)), (16, vB true), (15, .v (.slice A L.length c)), (14, vI J), (13, .v (.slice A1 S1.length c1)), (9, .p 0 0), (3, vI q)], [⟨26, [vI r.code, vI r.n, vS r.text]⟩, ⟨115, [vI ((S1.getD J.toNat default).replies.at k).seq, vI ((S1.getD J.toNat default).replies.at k).reply.code, vI ((S1.getD J.toNat default).replies.at k).reply.n, vS ((S1.getD J.toNat default).replies.at k).reply.text]⟩]⟩ [] [] (by kernel_rfl) on wn ?_
            refine l_nil (q_then_normal ?_)
            refine c_if false rfl ?_
            refine c_skip ?_
            refine q_then_normal ?_
            refine c_region ?_
            refine JL_run 3 [] [70, 68, 17, 16, 14, 13, 9, 3] 3 ⟨[(70, .s 2 0 1 1), (68, .v (.slice A L.length c)), (17, vI ((k : Nat) : Int)), (16, vB true), (14, vI J), (13, .v (.slice A1 S1.length c1)), (9, .p 0 0), (3, vI q)], [⟨26, [vI r.code, vI r.n, vS r.text]⟩, ⟨115, [vI ((S1.getD J.toNat default).replies.at k).seq, vI ((S1.getD J.toNat default).replies.at k).reply.code, vI ((S1.getD J.toNat default).replies.at k).reply.n, vS ((S1.getD J.toNat default).replies.at k).reply.text]⟩, ⟨115, [vI ((S1.getD J.toNat default).replies.at k).seq, vI ((S1.getD J.toNat default).replies.at k).reply.code, vI ((S1.getD J.toNat default).replies.at k).reply.n, vS ((S1.getD J.toNat default).replies.at k).reply.text]⟩]⟩ [] [] (by kernel_rfl) on wn ?_
            refine l_appendA (α := DKept) 115 40 A c (L) (.s 2 0 1 1) ([(⟨((S1.getD J.toNat default).replies.at k).seq, ⟨((S1.getD J.toNat default).replies.at k).reply.code, ((S1.getD J.toNat default).replies.at k).reply.n, ((S1.getD J.toNat default).replies.at k).reply.text⟩⟩ : DKept)]) Try.underlying111 (by kernel_rfl) rfl rfl rfl (fun bs w hS => by obtain ⟨q1, q2, q3, q4⟩ := src_loc (i := 2) (off := 0) (k := 1) (c := 1) (q := 4) (vs := [.int .i64 ((S1.getD J.toNat default).replies.at k).seq, .int .i64 ((S1.getD J.toNat default).replies.at k).reply.code, .int .i64 ((S1.getD J.toNat default).replies.at k).reply.n, .string ((S1.getD J.toNat default).replies.at k).reply.text]) hS rfl rfl; exact ⟨some q1, q2, q3, q4⟩) (by first | omega | (simp only [List.length_append, List.length_nil, List.length_cons]; omega)) (by first | omega | (simp only [List.length_append, List.length_nil, List.length_cons]; omega)) ?_
            intro A3 c3
            refine JL_run 1 [] [15, 17, 16, 14, 13, 9, 3] 1 ⟨[(15, .v (.slice A3 (L ++ [(⟨((S1.getD J.toNat default).replies.at k).seq, ⟨((S1.getD J.toNat default).replies.at k).reply.code, ((S1.getD J.toNat default).replies.at k).reply.n, ((S1.getD J.toNat default).replies.at k).reply.text⟩⟩ : DKept)]).length c3)), (17, vI ((k : Nat) : Int)), (16, vB true), (14, vI J), (13, .v (.slice A1 S1.length c1)), (9, .p 0 0), (3, vI q)], [⟨26, [vI r.code, vI r.n, vS r.text]⟩]⟩ [] [] (by kernel_rfl) on wn ?_
            refine l_nil (q_block_normal (q_then_normal ?_))
            refine c_region ?_
            refine JL_run 3 [] [17, 15, 16, 14, 13, 9, 3] 1 ⟨[(17, vI (((k : Nat) : Int) + 1)), (15, .v (.slice A3 (L ++ [(⟨((S1.getD J.toNat default).replies.at k).seq, ⟨((S1.getD J.toNat default).replies.at k).reply.code, ((S1.getD J.toNat default).replies.at k).reply.n, ((S1.getD J.toNat default).replies.at k).reply.text⟩⟩ : DKept)]).length c3)), (16, vB true), (14, vI J), (13, .v (.slice A1 S1.length c1)), (9, .p 0 0), (3, vI q)], [⟨26, [vI r.code, vI r.n, vS r.text]⟩]⟩ [inR (((k : Nat) : Int) + 1)] [] (by kernel_rfl) (oc (by unfold inR; omega) on) wn ?_
            refine l_nil (q_loop (x := (⟨k, b, A, c, L⟩ : Nat × Bool × Option Addr × Nat × List DKept)) (⟨k + 1, true, A3, c3, L ++ [(⟨((S1.getD J.toNat default).replies.at k).seq, ⟨((S1.getD J.toNat default).replies.at k).reply.code, ((S1.getD J.toNat default).replies.at k).reply.n, ((S1.getD J.toNat default).replies.at k).reply.text⟩⟩ : DKept)]⟩ : Nat × Bool × Option Addr × Nat × List DKept) ⟨(by first | exact hI.more (by assumption) (by omega) | exact hI.hit (by assumption) (by omega) (decide_eq_true (by assumption)) | exact hI.skip (by assumption) (by omega) (decide_eq_false (by assumption))), fun j hj => by rcases Nat.lt_succ_iff_lt_or_eq.1 hj with h | h; exact hX j h; subst h; assumption⟩ (by show (S1.getD J.toNat default).replies.xs.length - (k + 1) < (S1.getD J.toNat default).replies.xs.length - k; omega) (s_start [17, 16, 15, 14, 13, 9, 3] 1 (by kernel_rfl) rfl))
          | false =>
            refine JL_run 5 [] [61, 18, 17, 16, 15, 14, 13, 9, 3] 2 ⟨[(61, vB (decide (q < ((S1.getD J.toNat default).replies.at k).seq))), (18, .p 1 0), (17, vI ((k : Nat) : Int)), (16, vB false), (15, .v (.slice A L.length c)), (14, vI J), (13, .v (.slice A1 S1.length c1)), (9, .p 0 0), (3, vI q)], [⟨26, [vI r.code, vI r.n, vS r.text]⟩, ⟨115, [vI ((S1.getD J.toNat default).replies.at k).seq, vI ((S1.getD J.toNat default).replies.at k).reply.code, vI ((S1.getD J.toNat default).replies.at k).reply.n, vS ((S1.getD J.toNat default).replies.at k).reply.text]⟩]⟩ [] [] (by kernel_rfl) on wn ?_
            refine l_nil (q_then_normal ?_)
            cases h6 : decide (q < ((S1.getD J.toNat default).replies.at k).seq) with
            | true =>
              have h6 := of_decide_eq_true h6
              refine c_if true rfl ?_
              refine c_seq ?_
              refine c_region ?_
              refine JL_run 5 [] [66, 62, 18, 17, 14, 13, 9, 3] 3 ⟨[(66, .s 2 0 1 1), (62, .v (.slice A L.length c)), (18, .p 1 0), (17, vI ((k : Nat) : Int)), (14, vI J), (13, .v (.slice A1 S1.length c1)), (9, .p 0 0), (3, vI q)], [⟨26, [vI r.code, vI r.n, vS r.text]⟩, ⟨115, [vI ((S1.getD J.toNat default).replies.at k).seq, vI ((S1.getD J.toNat default).replies.at k).reply.code, vI ((S1.getD J.toNat default).replies.at k).reply.n, vS ((S1.getD J.toNat default).replies.at k).reply.text]⟩, ⟨115, [vI q, vI r.code, vI r.n, vS r.text]⟩]⟩ [] [] (by kernel_rfl) on wn ?_
              refine l_appendA (α := DKept) 115 40 A c (L) (.s 2 0 1 1) ([(⟨q, ⟨r.code, r.n, r.text⟩⟩ : DKept)]) Try.underlying111 (by kernel_rfl) rfl rfl rfl (fun bs w hS => by obtain ⟨q1, q2, q3, q4⟩ := src_loc (i := 2) (off := 0) (k := 1) (c := 1) (q := 4) (vs := [.int .i64 q, .int .i64 r.code, .int .i64 r.n, .string r.text]) hS rfl rfl; exact ⟨some q1, q2, q3, q4⟩) (by first | omega | (simp only [List.length_append, List.length_nil, List.length_cons]; omega)) (by first | omega | (simp only [List.length_append, List.length_nil, List.length_cons]; omega)) ?_
              intro A4 c4
              refine JL_run 1 [] [15, 18, 17, 14, 13, 9, 3] 2 ⟨[(15, .v (.slice A4 (L ++ [(⟨q, ⟨r.code, r.n, r.text⟩⟩ : DKept)]).length c4)), (18, .p 1 0), (17, vI ((k : Nat) : Int)), (14, vI J), (13, .v (.slice A1 S1.length c1)), (9, .p 0 0), (3, vI q)], [⟨26, [vI r.code, vI r.n, vS r.text]⟩, ⟨115, [vI ((S1.getD J.toNat default).replies.at k).seq, vI ((S1.getD J.toNat default).replies.at k).reply.code, vI ((S1.getD J.toNat default).replies.at k).reply.n, vS ((S1.getD J.toNat default).replies.at k).reply.text]⟩]⟩ [] [] (by kernel_rfl) on wn ?_
              refine l_nil (q_then_normal ?_)
              refine c_region ?_
              refine JL_run 1 [] [16, 15, 18, 17, 14, 13, 9, 3] 2 ⟨[(16, vB true), (15, .v (.slice A4 (L ++ [(⟨q, ⟨r.code, r.n, r.text⟩⟩ : DKept)]).length c4)), (18, .p 1 0), (17, vI ((k : Nat) : Int)), (14, vI J), (13, .v (.slice A1 S1.length c1)), (9, .p 0 0), (3, vI q)], [⟨26, [vI r.code, vI r.n, vS r.text]⟩, ⟨115, [vI ((S1.getD J.toNat default).replies.at k).seq, vI ((S1.getD J.toNat default).replies.at k).reply.code, vI ((S1.getD J.toNat default).replies.at k).reply.n, vS ((S1.getD J.toNat default).replies.at k).reply.text]⟩]⟩ [] [] (by kernel_rfl) on wn ?_
              refine l_nil (q_then_normal ?_)
              refine c_region ?_
              refine JL_run 3 [] [70, 68, 16, 17, 14, 13, 9, 3] 3 ⟨[(70, .s 2 0 1 1), (68, .v (.slice A4 (L ++ [(⟨q, ⟨r.code, r.n, r.text⟩⟩ : DKept)]).length c4)), (16, vB true), (17, vI ((k : Nat) : Int)), (14, vI J), (13, .v (.slice A1 S1.length c1)), (9, .p 0 0), (3, vI q)], [⟨26, [vI r.code, vI r.n, vS r.text]⟩, ⟨115, [vI ((S1.getD J.toNat default).replies.at k).seq, vI ((S1.getD J.toNat default).replies.at k).reply.code, vI ((S1.getD J.toNat default).replies.at k).reply.n, vS ((S1.getD J.toNat default).replies.at k).reply.text]⟩, ⟨115, [vI ((S1.getD J.toNat default).replies.at k).seq, vI ((S1.getD J.toNat default).replies.at k).reply.code, vI ((S1.getD J.toNat default).replies.at k).reply.n, vS ((S1.getD J.toNat default).replies.at k).reply.text]⟩]⟩ [] [] (by kernel_rfl) on wn ?_
              refine l_appendA (α := DKept) 115 40 A4 c4 (L ++ [(⟨q, ⟨r.code, r.n, r.text⟩⟩ : DKept)]) (.s 2 0 1 1) ([(⟨((S1.getD J.toNat default).replies.at k).seq, ⟨((S1.getD J.toNat default).replies.at k).reply.code, ((S1.getD J.toNat default).replies.at k).reply.n, ((S1.getD J.toNat default).replies.at k).reply.text⟩⟩ : DKept)]) Try.underlying111 (by kernel_rfl) rfl rfl rfl (fun bs w hS => by obtain ⟨q1, q2, q3, q4⟩ := src_loc (i := 2) (off := 0) (k := 1) (c := 1) (q := 4) (vs := [.int .i64 ((S1.getD J.toNat default).replies.at k).seq, .int .i64 ((S1.getD J.toNat default).replies.at k).reply.code, .int .i64 ((S1.getD J.toNat default).replies.at k).reply.n, .string ((S1.getD J.toNat default).replies.at k).reply.text]) hS rfl rfl; exact ⟨some q1, q2, q3, q4⟩) (by first | omega | (simp only [List.length_append, List.length_nil, List.length_cons]; omega)) (by first | omega | (simp only [List.length_append, List.length_nil, List.length_cons]; omega)) ?_
              intro A5 c5
              refine JL_run 1 [] [15, 16, 17, 14, 13, 9, 3] 1 ⟨[(15, .v (.slice A5 (L ++ [(⟨q, ⟨r.code, r.n, r.text⟩⟩ : DKept)] ++ [(⟨((S1.getD J.toNat default).replies.at k).seq, ⟨((S1.getD J.toNat default).replies.at k).reply.code, ((S1.getD J.toNat default).replies.at k).reply.n, ((S1.getD J.toNat default).replies.at k).reply.text⟩⟩ : DKept)]).length c5)), (16, vB true), (17, vI ((k : Nat) : Int)), (14, vI J), (13, .v (.slice A1 S1.length c1)), (9, .p 0 0), (3, vI q)], [⟨26, [vI r.code, vI r.n, vS r.text]⟩]⟩ [] [] (by kernel_rfl) on wn ?_
              refine l_nil (q_block_normal (q_then_normal ?_))
              refine c_region ?_
              refine JL_run 3 [] [17, 15, 16, 14, 13, 9, 3] 1 ⟨[(17, vI (((k : Nat) : Int) + 1)), (15, .v (.slice A5 (L ++ [(⟨q, ⟨r.code, r.n, r.text⟩⟩ : DKept)] ++ [(⟨((S1.getD J.toNat default).replies.at k).seq, ⟨((S1.getD J.toNat default).replies.at k).reply.code, ((S1.getD J.toNat default).replies.at k).reply.n, ((S1.getD J.toNat default).replies.at k).reply.text⟩⟩ : DKept)]).length c5)), (16, vB true), (14, vI J), (13, .v (.slice A1 S1.length c1)), (9, .p 0 0), (3, vI q)], [⟨26, [vI r.code, vI r.n, vS r.text]⟩]⟩ [inR (((k : Nat) : Int) + 1)] [] (by kernel_rfl) (oc (by unfold inR; omega) on) wn ?_
              refine l_nil (q_loop (x := (⟨k, b, A, c, L⟩ : Nat × Bool × Option Addr × Nat × List DKept)) (⟨k + 1, true, A5, c5, L ++ [(⟨q, ⟨r.code, r.n, r.text⟩⟩ : DKept)] ++ [(⟨((S1.getD J.toNat default).replies.at k).seq, ⟨((S1.getD J.toNat default).replies.at k).reply.code, ((S1.getD J.toNat default).replies.at k).reply.n, ((S1.getD J.toNat default).replies.at k).reply.text⟩⟩ : DKept)]⟩ : Nat × Bool × Option Addr × Nat × List DKept) ⟨(by first | exact hI.more (by assumption) (by omega) | exact hI.hit (by assumption) (by omega) (decide_eq_true (by assumption)) | exact hI.skip (by assumption) (by omega) (decide_eq_false (by assumption))), fun j hj => by rcases Nat.lt_succ_iff_lt_or_eq.1 hj with h | h; exact hX j h; subst h; assumption⟩ (by show (S1.getD J.toNat default).replies.xs.length - (k + 1) < (S1.getD J.toNat default).replies.xs.length - k; omega) (s_start [17, 16, 15, 14, 13, 9, 3] 1 (by kernel_rfl) rfl))
            | false =>
              have h6 := of_decide_eq_false h6
              refine c_if false rfl ?_
              refine c_skip ?_
              refine q_then_normal ?_
              refine c_region ?_
              refine JL_run 3 [] [70, 68, 17, 16, 14, 13, 9, 3] 3 ⟨[(70, .s 2 0 1 1), (68, .v (.slice A L.length c)), (17, vI ((k : Nat) : Int)), (16, vB false), (14, vI J), (13, .v (.slice A1 S1.length c1)), (9, .p 0 0), (3, vI q)], [⟨26, [vI r.code, vI r.n, vS r.text]⟩, ⟨115, [vI ((S1.getD J.toNat default).replies.at k).seq, vI ((S1.getD J.toNat default).replies.at k).reply.code, vI ((S1.getD J.toNat default).replies.at k).reply.n, vS ((S1.getD J.toNat default).replies.at k).reply.text]⟩, ⟨115, [vI ((S1.getD J.toNat default).replies.at k).seq, vI ((S1.getD J.toNat default).replies.at k).reply.code, vI ((S1.getD J.toNat default).replies.at k).reply.n, vS ((S1.getD J.toNat default).replies.at k).reply.text]⟩]⟩ [] [] (by kernel_rfl) on wn ?_
              refine l_appendA (α := DKept) 115 40 A c (L) (.s 2 0 1 1) ([(⟨((S1.getD J.toNat default).replies.at k).seq, ⟨((S1.getD J.toNat default).replies.at k).reply.code, ((S1.getD J.toNat default).replies.at k).reply.n, ((S1.getD J.toNat default).replies.at k).reply.text⟩⟩ : DKept)]) Try.underlying111 (by kernel_rfl) rfl rfl rfl (fun bs w hS => by obtain ⟨q1, q2, q3, q4⟩ := src_loc (i := 2) (off := 0) (k := 1) (c := 1) (q := 4) (vs := [.int .i64 ((S1.getD J.toNat default).replies.at k).seq, .int .i64 ((S1.getD J.toNat default).replies.at k).reply.code, .int .i64 ((S1.getD J.toNat default).replies.at k).reply.n, .string ((S1.getD J.toNat default).replies.at k).reply.text]) hS rfl rfl; exact ⟨some q1, q2, q3, q4⟩) (by first | omega | (simp only [List.length_append, List.length_nil, List.length_cons]; omega)) (by first | omega | (simp only [List.length_append, List.length_nil, List.length_cons]; omega)) ?_
              intro A6 c6
              refine JL_run 1 [] [15, 17, 16, 14, 13, 9, 3] 1 ⟨[(15, .v (.slice A6 (L ++ [(⟨((S1.getD J.toNat default).replies.at k).seq, ⟨((S1.getD J.toNat default).replies.at k).reply.code, ((S1.getD J.toNat default).replies.at k).reply.n, ((S1.getD J.toNat default).replies.at k).reply.text⟩⟩ : DKept)]).length c6)), (17, vI ((k : Nat) : Int)), (16, vB false), (14, vI J), (13, .v (.slice A1 S1.length c1)), (9, .p 0 0), (3, vI q)], [⟨26, [vI r.code, vI r.n, vS r.text]⟩]⟩ [] [] (by kernel_rfl) on wn ?_
              refine l_nil (q_block_normal (q_then_normal ?_))
              refine c_region ?_
              refine JL_run 3 [] [17, 15, 16, 14, 13, 9, 3] 1 ⟨[(17, vI (((k : Nat) : Int) + 1)), (15, .v (.slice A6 (L ++ [(⟨((S1.getD J.toNat default).replies.at k).seq, ⟨((S1.getD J.toNat default).replies.at k).reply.code, ((S1.getD J.toNat default).replies.at k).reply.n, ((S1.getD J.toNat default).replies.at k).reply.text⟩⟩ : DKept)]).length c6)), (16, vB false), (14, vI J), (13, .v (.slice A1 S1.length c1)), (9, .p 0 0), (3, vI q)], [⟨26, [vI r.code, vI r.n, vS r.text]⟩]⟩ [inR (((k : Nat) : Int) + 1)] [] (by kernel_rfl) (oc (by unfold inR; omega) on) wn ?_
              refine l_nil (q_loop (x := (⟨k, b, A, c, L⟩ : Nat × Bool × Option Addr × Nat × List DKept)) (⟨k + 1, false, A6, c6, L ++ [(⟨((S1.getD J.toNat default).replies.at k).seq, ⟨((S1.getD J.toNat default).replies.at k).reply.code, ((S1.getD J.toNat default).replies.at k).reply.n, ((S1.getD J.toNat default).replies.at k).reply.text⟩⟩ : DKept)]⟩ : Nat × Bool × Option Addr × Nat × List DKept) ⟨(by first | exact hI.more (by assumption) (by omega) | exact hI.hit (by assumption) (by omega) (decide_eq_true (by assumption)) | exact hI.skip (by assumption) (by omega) (decide_eq_false (by assumption))), fun j hj => by rcases Nat.lt_succ_iff_lt_or_eq.1 hj with h | h; exact hX j h; subst h; assumption⟩ (by show (S1.getD J.toNat default).replies.xs.length - (k + 1) < (S1.getD J.toNat default).replies.xs.length - k; omega) (s_start [17, 16, 15, 14, 13, 9, 3] 1 (by kernel_rfl) rfl))
      | false =>
        have h3 := of_decide_eq_false h3
        refine c_if false rfl ?_
        refine c_exit ?_
        refine q_then_exit (q_then_exit (q_block_hit (q_then_normal ?_)))
        refine c_seq ?_
        refine c_seq ?_
        refine c_region ?_
        refine JL_run 2 [] [73, 15, 14, 13, 9, 3] 1 ⟨[(73, vB (!b)), (15, .v (.slice A L.length c)), (14, vI J), (13, .v (.slice A1 S1.length c1)), (9, .p 0 0), (3, vI q)], [⟨26, [vI r.code, vI r.n, vS r.text]⟩]⟩ [] [] (by kernel_rfl) on wn ?_
        refine l_nil (q_then_normal ?_)
        cases h7 : b with
        | true =>
          refine c_if false rfl ?_
          refine c_skip ?_
          refine q_then_normal ?_
          refine c_seq ?_
          refine c_region ?_
          refine JL_run 5 [(3, .idx (oad A1) J.toNat)] [84, 82, 14, 13] 0 ⟨[(84, .v (.pointer (some (((oad A1).add (J.toNat * 5)).add 4)))), (82, .v (.slice A L.length c)), (14, vI J), (13, .v (.slice A1 S1.length c1))], []⟩ [A1 = some (oad A1), J = ((J.toNat : Nat) : Int), J.toNat < S1.length] [] (by kernel_rfl) (oc (hrow1.1 J.toNat (by omega)) (oc (by omega) (oc (by omega) on))) wn ?_
          refine l_perm (R' := [rowA 113 A1 c1 (S1 : List CSession), rowA 115 A c (L : List DKept), ownL (keptR 115) S1]) (permfront 2 rfl) ?_
          refine l_storeA (α := CSession) 113 A1 c1 S1 J.toNat 4 (((oad A1).add (J.toNat * 5)).add 4) (.v (.slice A L.length c)) [.v (.slice A L.length c)] [.slice A L.length c] (⟨(S1.getD J.toNat default).client, (S1.getD J.toNat default).id, (S1.getD J.toNat default).acked, (S1.getD J.toNat default).last, ⟨A, c, L⟩⟩ : CSession) rfl rfl rfl rfl rfl (by kernel_rfl) (by kernel_rfl) rfl (by omega) (by kernel_rfl) rfl rfl rfl ?_
          intro L7 hL7 hlL7
          have hgL7 : L7.getD J.toNat default = (⟨(S1.getD J.toNat default).client, (S1.getD J.toNat default).id, (S1.getD J.toNat default).acked, (S1.getD J.toNat default).last, ⟨A, c, L⟩⟩ : CSession) := by rw [hL7]; exact getD_set (by omega)
          have hbL7 : L7 = List.set S1 J.toNat (⟨(S1.getD J.toNat default).client, (S1.getD J.toNat default).id, (S1.getD J.toNat default).acked, (S1.getD J.toNat default).last, ⟨A, c, L⟩⟩ : CSession) := by rw [hL7]
          refine l_nil (q_then_normal ?_)
          refine c_seq ?_
          refine c_seq ?_
          refine c_region ?_
          refine JL_run 4 [(2, .idx (oad A1) J.toNat), (3, .ext [.int .i64 (S1.getD J.toNat default).client, .int .i64 (S1.getD J.toNat default).id, .int .i64 (S1.getD J.toNat default).acked, .int .i64 (S1.getD J.toNat default).last, .slice A L.length c])] [88, 13] 0 ⟨[(88, .v (.agg #[.int .i64 (S1.getD J.toNat default).client, .int .i64 (S1.getD J.toNat default).id, .int .i64 (S1.getD J.toNat default).acked, .int .i64 (S1.getD J.toNat default).last, .slice A L.length c])), (13, .v (.slice A1 S1.length c1))], []⟩ [A1 = some (oad A1), J = ((J.toNat : Nat) : Int), J.toNat < S1.length] [((oad A1).add (J.toNat * 5), [.int .i64 (S1.getD J.toNat default).client, .int .i64 (S1.getD J.toNat default).id, .int .i64 (S1.getD J.toNat default).acked, .int .i64 (S1.getD J.toNat default).last, .slice A L.length c])] (by kernel_rfl) (oc (hrow1.1 J.toNat (by omega)) (oc (by omega) (oc (by omega) on))) (fun w hk hr => ⟨(rowA_all (i := J.toNat) (hr _ (.head _)) (by omega) (by rw [hgL7]; rfl)), trivial⟩) ?_
          have hvk : L = mIns (fun k : DKept => decide (q < k.seq)) ⟨q, r⟩ (S1.getD J.toNat default).replies.xs := (hI.fin1 (by assumption) (by omega))
          have hszk : ∀ z, z ∈ L → z.reply.text.size ≤ 9223372036854775807 := fun z hz => by rcases ins_mem (hvk ▸ hz) with hz | hz; subst hz; exact hr; exact hnm1 _ (mem_of_getD (L := S1) (i := J.toNat) (by omega)) z hz
          refine l_pure 88 [] [.v (.agg #[.int .i64 (S1.getD J.toNat default).client, .int .i64 (S1.getD J.toNat default).id, .int .i64 (S1.getD J.toNat default).acked, .int .i64 (S1.getD J.toNat default).last, .slice A L.length c])] (.bool (mReplies (⟨(S1.getD J.toNat default).client, (S1.getD J.toNat default).id, (S1.getD J.toNat default).acked, (S1.getD J.toNat default).last, L⟩ : DSession))) Try.call88 rfl rfl rfl rfl (fun bs w hS => ref_repliesMay (⟨(S1.getD J.toNat default).client, (S1.getD J.toNat default).id, (S1.getD J.toNat default).acked, (S1.getD J.toNat default).last, ⟨A, c, L⟩⟩ : CSession) w (rowA_rd (B := anyB) (hS.res _ (.tail _ (.head _))) (fun _ _ => trivial) hszk) ⟨hk5.2.2.1, hk5.2.2.2.1⟩) ?_
          have hmr : mReplies (⟨(S1.getD J.toNat default).client, (S1.getD J.toNat default).id, (S1.getD J.toNat default).acked, (S1.getD J.toNat default).last, L⟩ : DSession) = mReplies (kIns (S1.getD J.toNat default).abs q r) := by rw [hvk]; rfl
          rw [hmr]
          refine JL_run 1 [] [90, 13] 0 ⟨[(90, vB (!(mReplies (kIns (S1.getD J.toNat default).abs q r)))), (13, .v (.slice A1 S1.length c1))], []⟩ [] [] (by kernel_rfl) on wn ?_
          refine l_nil (q_then_normal ?_)
          cases h8 : mReplies (kIns (S1.getD J.toNat default).abs q r) with
          | true =>
            refine c_if false rfl ?_
            refine c_skip ?_
            refine q_then_normal ?_
            refine c_seq ?_
            refine c_region ?_
            refine JL_run 3 [] [11, 10] 0 ⟨[(11, vI 0), (10, .v (.slice A1 S1.length c1))], []⟩ [] [] (by kernel_rfl) on wn ?_
            refine l_nil (q_then_normal ?_)
            refine c_ret ?_
            refine q_ret (.inl rfl) [.v (.slice A1 S1.length c1), vI 0] rfl (fun bs w hS => ?_)
            rw [← hF1]
            have hkn : ¬ 0 ≤ kIdx (S1.getD J.toNat default).replies.xs q := by unfold kIdx; rw [mIdxL_none (L := (S1.getD J.toNat default).replies.xs) (p := fun k : DKept => decide (k.seq = q)) fun j hj => decide_eq_false (hX j (by omega))]; omega
            have hvx := setS_map hbL7
            have hxe : ((⟨(S1.getD J.toNat default).client, (S1.getD J.toNat default).id, (S1.getD J.toNat default).acked, (S1.getD J.toNat default).last, ⟨A, c, L⟩⟩ : CSession)).abs = kIns (S1.getD J.toNat default).abs q r := by exact congrArg (fun l => (⟨(S1.getD J.toNat default).client, (S1.getD J.toNat default).id, (S1.getD J.toNat default).acked, (S1.getD J.toNat default).last, l⟩ : DSession)) hvk
            rw [hxe] at hvx
            have hm : mKeep (S1.map CSession.abs) n t q r = ((S1.map CSession.abs).set J.toNat (kIns (S1.getD J.toNat default).abs q r), 0) := by
              unfold mKeep sIdx
              simp only [hJ, sgetD, List.length_map]
              repeat (first | rw [if_pos (by first | assumption | omega)] | rw [if_neg (by first | assumption | omega | (intro h0; first | exact absurd h0 (by assumption) | (simp_all; done)))])
              all_goals rfl
            refine ⟨⟨A1, c1, L7⟩, ?_, ?_, hS.outS (y := (⟨A1, c1, L7⟩ : Sl CSession)) (out_sessG (.head _) hS.res (fun x hx => ?_))⟩
            · have hll : S1.length = L7.length := by rw [hbL7, List.length_set]
              rw [hm]
              exact congrArg (fun q => Ending.returned (.tuple #[.slice A1 q c1, .int .i64 0])) hll
            · exact Eq.trans hvx (congrArg Prod.fst hm).symm
            · rw [hbL7] at hx
              rcases mem_set hx with hx | hx
              · subst hx; exact allR_row (.tail _ (.head _)) (hS.res _ (.tail _ (.head _))) hszk
              · exact own_in (.tail _ (.tail _ (.head _))) hS.res hnm1 hx
          | false =>
            refine c_if true rfl ?_
            refine c_seq ?_
            refine c_region ?_
            refine JL_run 2 [] [11, 10] 0 ⟨[(11, vI 2), (10, .v (.slice none 0 0))], []⟩ [] [] (by kernel_rfl) on wn ?_
            refine l_nil (q_then_normal ?_)
            refine c_ret ?_
            refine q_then_ret (q_ret (.inl rfl) [.v (.slice none 0 0), vI 2] rfl (fun bs w hS => ?_))
            rw [← hF1]
            have hkn : ¬ 0 ≤ kIdx (S1.getD J.toNat default).replies.xs q := by unfold kIdx; rw [mIdxL_none (L := (S1.getD J.toNat default).replies.xs) (p := fun k : DKept => decide (k.seq = q)) fun j hj => decide_eq_false (hX j (by omega))]; omega
            have hm : mKeep (S1.map CSession.abs) n t q r = ([], 2) := by
              unfold mKeep sIdx
              simp only [hJ, sgetD, List.length_map]
              repeat (first | rw [if_pos (by first | assumption | omega)] | rw [if_neg (by first | assumption | omega | (intro h0; first | exact absurd h0 (by assumption) | (simp_all; done)))])
              all_goals rfl
            refine ⟨Sl.nil, ?_, ?_, hS.outS (Sl.rd_nil _ _)⟩
            · rw [hm] <;> rfl
            · rw [hm] <;> rfl
        | false =>
          refine c_if true rfl ?_
          refine c_region ?_
          refine JL_run 5 [] [78, 74, 14, 13] 2 ⟨[(78, .s 1 0 1 1), (74, .v (.slice A L.length c)), (14, vI J), (13, .v (.slice A1 S1.length c1))], [⟨26, [vI r.code, vI r.n, vS r.text]⟩, ⟨115, [vI q, vI r.code, vI r.n, vS r.text]⟩]⟩ [] [] (by kernel_rfl) on wn ?_
          refine l_appendA (α := DKept) 115 40 A c (L) (.s 1 0 1 1) ([(⟨q, ⟨r.code, r.n, r.text⟩⟩ : DKept)]) Try.underlying111 (by kernel_rfl) rfl rfl rfl (fun bs w hS => by obtain ⟨q1, q2, q3, q4⟩ := src_loc (i := 1) (off := 0) (k := 1) (c := 1) (q := 4) (vs := [.int .i64 q, .int .i64 r.code, .int .i64 r.n, .string r.text]) hS rfl rfl; exact ⟨some q1, q2, q3, q4⟩) (by first | omega | (simp only [List.length_append, List.length_nil, List.length_cons]; omega)) (by first | omega | (simp only [List.length_append, List.length_nil, List.length_cons]; omega)) ?_
          intro A8 c8
          refine JL_run 1 [] [15, 14, 13] 0 ⟨[(15, .v (.slice A8 (L ++ [(⟨q, ⟨r.code, r.n, r.text⟩⟩ : DKept)]).length c8)), (14, vI J), (13, .v (.slice A1 S1.length c1))], []⟩ [] [] (by kernel_rfl) on wn ?_
          refine l_nil (q_then_normal ?_)
          refine c_seq ?_
          refine c_region ?_
          refine JL_run 5 [(3, .idx (oad A1) J.toNat)] [84, 82, 14, 13] 0 ⟨[(84, .v (.pointer (some (((oad A1).add (J.toNat * 5)).add 4)))), (82, .v (.slice A8 (L ++ [(⟨q, ⟨r.code, r.n, r.text⟩⟩ : DKept)]).length c8)), (14, vI J), (13, .v (.slice A1 S1.length c1))], []⟩ [A1 = some (oad A1), J = ((J.toNat : Nat) : Int), J.toNat < S1.length] [] (by kernel_rfl) (oc (hrow1.1 J.toNat (by omega)) (oc (by omega) (oc (by omega) on))) wn ?_
          refine l_perm (R' := [rowA 113 A1 c1 (S1 : List CSession), rowA 115 A8 c8 (L ++ [(⟨q, ⟨r.code, r.n, r.text⟩⟩ : DKept)] : List DKept), ownL (keptR 115) S1]) (permfront 2 rfl) ?_
          refine l_storeA (α := CSession) 113 A1 c1 S1 J.toNat 4 (((oad A1).add (J.toNat * 5)).add 4) (.v (.slice A8 (L ++ [(⟨q, ⟨r.code, r.n, r.text⟩⟩ : DKept)]).length c8)) [.v (.slice A8 (L ++ [(⟨q, ⟨r.code, r.n, r.text⟩⟩ : DKept)]).length c8)] [.slice A8 (L ++ [(⟨q, ⟨r.code, r.n, r.text⟩⟩ : DKept)]).length c8] (⟨(S1.getD J.toNat default).client, (S1.getD J.toNat default).id, (S1.getD J.toNat default).acked, (S1.getD J.toNat default).last, ⟨A8, c8, L ++ [(⟨q, ⟨r.code, r.n, r.text⟩⟩ : DKept)]⟩⟩ : CSession) rfl rfl rfl rfl rfl (by kernel_rfl) (by kernel_rfl) rfl (by omega) (by kernel_rfl) rfl rfl rfl ?_
          intro L9 hL9 hlL9
          have hgL9 : L9.getD J.toNat default = (⟨(S1.getD J.toNat default).client, (S1.getD J.toNat default).id, (S1.getD J.toNat default).acked, (S1.getD J.toNat default).last, ⟨A8, c8, L ++ [(⟨q, ⟨r.code, r.n, r.text⟩⟩ : DKept)]⟩⟩ : CSession) := by rw [hL9]; exact getD_set (by omega)
          have hbL9 : L9 = List.set S1 J.toNat (⟨(S1.getD J.toNat default).client, (S1.getD J.toNat default).id, (S1.getD J.toNat default).acked, (S1.getD J.toNat default).last, ⟨A8, c8, L ++ [(⟨q, ⟨r.code, r.n, r.text⟩⟩ : DKept)]⟩⟩ : CSession) := by rw [hL9]
          refine l_nil (q_then_normal ?_)
          refine c_seq ?_
          refine c_seq ?_
          refine c_region ?_
          refine JL_run 4 [(2, .idx (oad A1) J.toNat), (3, .ext [.int .i64 (S1.getD J.toNat default).client, .int .i64 (S1.getD J.toNat default).id, .int .i64 (S1.getD J.toNat default).acked, .int .i64 (S1.getD J.toNat default).last, .slice A8 (L ++ [(⟨q, ⟨r.code, r.n, r.text⟩⟩ : DKept)]).length c8])] [88, 13] 0 ⟨[(88, .v (.agg #[.int .i64 (S1.getD J.toNat default).client, .int .i64 (S1.getD J.toNat default).id, .int .i64 (S1.getD J.toNat default).acked, .int .i64 (S1.getD J.toNat default).last, .slice A8 (L ++ [(⟨q, ⟨r.code, r.n, r.text⟩⟩ : DKept)]).length c8])), (13, .v (.slice A1 S1.length c1))], []⟩ [A1 = some (oad A1), J = ((J.toNat : Nat) : Int), J.toNat < S1.length] [((oad A1).add (J.toNat * 5), [.int .i64 (S1.getD J.toNat default).client, .int .i64 (S1.getD J.toNat default).id, .int .i64 (S1.getD J.toNat default).acked, .int .i64 (S1.getD J.toNat default).last, .slice A8 (L ++ [(⟨q, ⟨r.code, r.n, r.text⟩⟩ : DKept)]).length c8])] (by kernel_rfl) (oc (hrow1.1 J.toNat (by omega)) (oc (by omega) (oc (by omega) on))) (fun w hk hr => ⟨(rowA_all (i := J.toNat) (hr _ (.head _)) (by omega) (by rw [hgL9]; rfl)), trivial⟩) ?_
          have hvk : L ++ [(⟨q, ⟨r.code, r.n, r.text⟩⟩ : DKept)] = mIns (fun k : DKept => decide (q < k.seq)) ⟨q, r⟩ (S1.getD J.toNat default).replies.xs := (hI.fin0 (by assumption) (by omega))
          have hszk : ∀ z, z ∈ L ++ [(⟨q, ⟨r.code, r.n, r.text⟩⟩ : DKept)] → z.reply.text.size ≤ 9223372036854775807 := fun z hz => by rcases ins_mem (hvk ▸ hz) with hz | hz; subst hz; exact hr; exact hnm1 _ (mem_of_getD (L := S1) (i := J.toNat) (by omega)) z hz
          refine l_pure 88 [] [.v (.agg #[.int .i64 (S1.getD J.toNat default).client, .int .i64 (S1.getD J.toNat default).id, .int .i64 (S1.getD J.toNat default).acked, .int .i64 (S1.getD J.toNat default).last, .slice A8 (L ++ [(⟨q, ⟨r.code, r.n, r.text⟩⟩ : DKept)]).length c8])] (.bool (mReplies (⟨(S1.getD J.toNat default).client, (S1.getD J.toNat default).id, (S1.getD J.toNat default).acked, (S1.getD J.toNat default).last, L ++ [(⟨q, ⟨r.code, r.n, r.text⟩⟩ : DKept)]⟩ : DSession))) Try.call88 rfl rfl rfl rfl (fun bs w hS => ref_repliesMay (⟨(S1.getD J.toNat default).client, (S1.getD J.toNat default).id, (S1.getD J.toNat default).acked, (S1.getD J.toNat default).last, ⟨A8, c8, L ++ [(⟨q, ⟨r.code, r.n, r.text⟩⟩ : DKept)]⟩⟩ : CSession) w (rowA_rd (B := anyB) (hS.res _ (.tail _ (.head _))) (fun _ _ => trivial) hszk) ⟨hk5.2.2.1, hk5.2.2.2.1⟩) ?_
          have hmr : mReplies (⟨(S1.getD J.toNat default).client, (S1.getD J.toNat default).id, (S1.getD J.toNat default).acked, (S1.getD J.toNat default).last, L ++ [(⟨q, ⟨r.code, r.n, r.text⟩⟩ : DKept)]⟩ : DSession) = mReplies (kIns (S1.getD J.toNat default).abs q r) := by rw [hvk]; rfl
          rw [hmr]
          refine JL_run 1 [] [90, 13] 0 ⟨[(90, vB (!(mReplies (kIns (S1.getD J.toNat default).abs q r)))), (13, .v (.slice A1 S1.length c1))], []⟩ [] [] (by kernel_rfl) on wn ?_
          refine l_nil (q_then_normal ?_)
          cases h9 : mReplies (kIns (S1.getD J.toNat default).abs q r) with
          | true =>
            refine c_if false rfl ?_
            refine c_skip ?_
            refine q_then_normal ?_
            refine c_seq ?_
            refine c_region ?_
            refine JL_run 3 [] [11, 10] 0 ⟨[(11, vI 0), (10, .v (.slice A1 S1.length c1))], []⟩ [] [] (by kernel_rfl) on wn ?_
            refine l_nil (q_then_normal ?_)
            refine c_ret ?_
            refine q_ret (.inl rfl) [.v (.slice A1 S1.length c1), vI 0] rfl (fun bs w hS => ?_)
            rw [← hF1]
            have hkn : ¬ 0 ≤ kIdx (S1.getD J.toNat default).replies.xs q := by unfold kIdx; rw [mIdxL_none (L := (S1.getD J.toNat default).replies.xs) (p := fun k : DKept => decide (k.seq = q)) fun j hj => decide_eq_false (hX j (by omega))]; omega
            have hvx := setS_map hbL9
            have hxe : ((⟨(S1.getD J.toNat default).client, (S1.getD J.toNat default).id, (S1.getD J.toNat default).acked, (S1.getD J.toNat default).last, ⟨A8, c8, L ++ [(⟨q, ⟨r.code, r.n, r.text⟩⟩ : DKept)]⟩⟩ : CSession)).abs = kIns (S1.getD J.toNat default).abs q r := by exact congrArg (fun l => (⟨(S1.getD J.toNat default).client, (S1.getD J.toNat default).id, (S1.getD J.toNat default).acked, (S1.getD J.toNat default).last, l⟩ : DSession)) hvk
            rw [hxe] at hvx
            have hm : mKeep (S1.map CSession.abs) n t q r = ((S1.map CSession.abs).set J.toNat (kIns (S1.getD J.toNat default).abs q r), 0) := by
              unfold mKeep sIdx
              simp only [hJ, sgetD, List.length_map]
              repeat (first | rw [if_pos (by first | assumption | omega)] | rw [if_neg (by first | assumption | omega | (intro h0; first | exact absurd h0 (by assumption) | (simp_all; done)))])
              all_goals rfl
            refine ⟨⟨A1, c1, L9⟩, ?_, ?_, hS.outS (y := (⟨A1, c1, L9⟩ : Sl CSession)) (out_sessG (.head _) hS.res (fun x hx => ?_))⟩
            · have hll : S1.length = L9.length := by rw [hbL9, List.length_set]
              rw [hm]
              exact congrArg (fun q => Ending.returned (.tuple #[.slice A1 q c1, .int .i64 0])) hll
            · exact Eq.trans hvx (congrArg Prod.fst hm).symm
            · rw [hbL9] at hx
              rcases mem_set hx with hx | hx
              · subst hx; exact allR_row (.tail _ (.head _)) (hS.res _ (.tail _ (.head _))) hszk
              · exact own_in (.tail _ (.tail _ (.head _))) hS.res hnm1 hx
          | false =>
            refine c_if true rfl ?_
            refine c_seq ?_
            refine c_region ?_
            refine JL_run 2 [] [11, 10] 0 ⟨[(11, vI 2), (10, .v (.slice none 0 0))], []⟩ [] [] (by kernel_rfl) on wn ?_
            refine l_nil (q_then_normal ?_)
            refine c_ret ?_
            refine q_then_ret (q_ret (.inl rfl) [.v (.slice none 0 0), vI 2] rfl (fun bs w hS => ?_))
            rw [← hF1]
            have hkn : ¬ 0 ≤ kIdx (S1.getD J.toNat default).replies.xs q := by unfold kIdx; rw [mIdxL_none (L := (S1.getD J.toNat default).replies.xs) (p := fun k : DKept => decide (k.seq = q)) fun j hj => decide_eq_false (hX j (by omega))]; omega
            have hm : mKeep (S1.map CSession.abs) n t q r = ([], 2) := by
              unfold mKeep sIdx
              simp only [hJ, sgetD, List.length_map]
              repeat (first | rw [if_pos (by first | assumption | omega)] | rw [if_neg (by first | assumption | omega | (intro h0; first | exact absurd h0 (by assumption) | (simp_all; done)))])
              all_goals rfl
            refine ⟨Sl.nil, ?_, ?_, hS.outS (Sl.rd_nil _ _)⟩
            · rw [hm] <;> rfl
            · rw [hm] <;> rfl
  | false =>
    have h1 := of_decide_eq_false h1
    refine c_if true rfl ?_
    refine c_seq ?_
    refine c_region ?_
    refine JL_run 3 [] [11, 10] 0 ⟨[(11, vI (mSess (s.xs.map CSession.abs) n)), (10, .v (.slice none 0 0))], []⟩ [] [] (by kernel_rfl) on wn ?_
    refine l_nil (q_then_normal ?_)
    refine c_ret ?_
    refine q_then_ret (q_ret (.inl rfl) [.v (.slice none 0 0), vI (mSess (s.xs.map CSession.abs) n)] rfl (fun bs w hS => ?_))
    have hm : mKeep (s.xs.map CSession.abs) n t q r = ([], mSess (s.xs.map CSession.abs) n) := by
      unfold mKeep sIdx
      repeat (first | rw [if_pos (by first | assumption | omega)] | rw [if_neg (by first | assumption | omega | (intro h0; first | exact absurd h0 (by assumption) | (simp_all; done)))])
      all_goals rfl
    refine ⟨Sl.nil, ?_, ?_, hS.outS (Sl.rd_nil _ _)⟩
    · rw [hm] <;> rfl
    · rw [hm] <;> rfl

theorem law_SessionKeeps {B : Nat → Prop} (s : Sl CSession) (n t q : Int) (r : DReply) (w : World) (hs : s.rd B w) (hr : r.text.size ≤ 9223372036854775807) (hsm : Rds.small s) (ht : inR t) (hq : inR q) : Calls Try.prog 9 #[.slice s.A s.n s.c, .int .i64 n, .int .i64 t, .int .i64 q, .agg #[.int .i64 r.code, .int .i64 r.n, .string r.text]] w fun e w' => e = .returned (.bool true) ∧ Kp [] w w' := by
  have oks := Sl.rd.ok hs
  have ncs := Sl.ok.nc oks
  have hns : s.n = s.xs.length := rfl
  refine calls_J0 49 Try.func9 rfl rfl [.slice s.A s.n s.c, .int .i64 n, .int .i64 t, .int .i64 q, .agg #[.int .i64 r.code, .int .i64 r.n, .string r.text]] rfl ?_
  refine c_seq ?_
  refine c_region ?_
  refine JL_run 2 [] [9, 0, 1, 2, 3] 1 ⟨[(9, .p 0 0), (0, .v (.slice s.A s.n s.c)), (1, vI n), (2, vI t), (3, vI q)], [⟨26, [vI r.code, vI r.n, vS r.text]⟩]⟩ [] [] (by kernel_rfl) on wn ?_
  refine l_nil (q_then_normal ?_)
  refine c_seq ?_
  refine c_region ?_
  refine JL_run 1 [] [16, 9, 0, 1, 2, 3] 1 ⟨[(16, .v (.slice s.A s.n s.c)), (9, .p 0 0), (0, .v (.slice s.A s.n s.c)), (1, vI n), (2, vI t), (3, vI q)], [⟨26, [vI r.code, vI r.n, vS r.text]⟩]⟩ [] [] (by kernel_rfl) on wn ?_
  refine l_sub_call (σ := Sl CSession) 30 [] [.v (.slice s.A s.n s.c)] (fun y1 => .slice y1.A y1.n y1.c) (fun y1 => y1.xs.map CSession.abs = s.xs.map CSession.abs) Try.call30 rfl rfl rfl rfl (fun bs w hS => law_kept s w (Sl.rd.kp hs hS.kp) hsm) ?_
  rintro fp1 y1 hF1 hok1
  refine JL_run 1 [] [11, 9, 0, 1, 2, 3] 1 ⟨[(11, .v (.slice y1.A y1.n y1.c)), (9, .p 0 0), (0, .v (.slice s.A s.n s.c)), (1, vI n), (2, vI t), (3, vI q)], [⟨26, [vI r.code, vI r.n, vS r.text]⟩]⟩ [] [] (by kernel_rfl) on wn ?_
  refine l_nil (q_then_normal ?_)
  refine c_seq ?_
  refine c_region ?_
  refine JL_run 5 [] [23, 22, 21, 20, 19, 11, 9, 0, 1, 2, 3] 1 ⟨[(23, .v (.agg #[.int .i64 r.code, .int .i64 r.n, .string r.text])), (22, vI q), (21, vI t), (20, vI n), (19, .v (.slice y1.A y1.n y1.c)), (11, .v (.slice y1.A y1.n y1.c)), (9, .p 0 0), (0, .v (.slice s.A s.n s.c)), (1, vI n), (2, vI t), (3, vI q)], [⟨26, [vI r.code, vI r.n, vS r.text]⟩]⟩ [] [] (by kernel_rfl) on wn ?_
  refine l_sub_call (σ := Sl CSession) 34 [] [.v (.slice y1.A y1.n y1.c), vI n, vI t, vI q, .v (.agg #[.int .i64 r.code, .int .i64 r.n, .string r.text])] (fun y2 => .tuple #[.slice y2.A y2.n y2.c, .int .i64 ((mKeep (y1.xs.map CSession.abs) n t q r).2)]) (fun y2 => y2.xs.map CSession.abs = (mKeep (y1.xs.map CSession.abs) n t q r).1) Try.call34 rfl rfl rfl rfl (fun bs w hS => session_Keep y1 n t q r w (hS.res _ (.head _)) ht hq (by first | assumption | omega | (simp only [emp_size]; omega))) ?_
  rintro fp2 y2 hF2 hok2
  refine JL_run 5 [] [13, 12, 11, 9, 0, 1, 2, 3] 1 ⟨[(13, vI ((mKeep (y1.xs.map CSession.abs) n t q r).2)), (12, .v (.slice y2.A y2.n y2.c)), (11, .v (.slice y1.A y1.n y1.c)), (9, .p 0 0), (0, .v (.slice s.A s.n s.c)), (1, vI n), (2, vI t), (3, vI q)], [⟨26, [vI r.code, vI r.n, vS r.text]⟩]⟩ [] [] (by kernel_rfl) on wn ?_
  refine l_nil (q_then_normal ?_)
  refine c_seq ?_
  refine c_region ?_
  refine JL_run 5 [] [32, 31, 30, 29, 28, 13, 12, 11, 0] 0 ⟨[(32, .v (.agg #[.int .i64 r.code, .int .i64 r.n, .string r.text])), (31, vI q), (30, vI t), (29, vI n), (28, .v (.slice s.A s.n s.c)), (13, vI ((mKeep (y1.xs.map CSession.abs) n t q r).2)), (12, .v (.slice y2.A y2.n y2.c)), (11, .v (.slice y1.A y1.n y1.c)), (0, .v (.slice s.A s.n s.c))], []⟩ [] [] (by kernel_rfl) on wn ?_
  refine l_sub_call (σ := Sl CSession) 35 [] [.v (.slice s.A s.n s.c), vI n, vI t, vI q, .v (.agg #[.int .i64 r.code, .int .i64 r.n, .string r.text])] (fun y3 => .tuple #[.slice y3.A y3.n y3.c, .int .i64 ((mKeep (s.xs.map CSession.abs) n t q r).2)]) (fun y3 => y3.xs.map CSession.abs = (mKeep (s.xs.map CSession.abs) n t q r).1) Try.call35 rfl rfl rfl rfl (fun bs w hS => ref_KeptOf s n t q r w (Sl.rd.kp hs hS.kp) ht hq (by first | assumption | omega | (simp only [emp_size]; omega))) ?_
  rintro fp3 y3 hF3 hok3
  refine JL_run 5 [] [15, 14, 13, 12, 11, 0] 0 ⟨[(15, vI ((mKeep (s.xs.map CSession.abs) n t q r).2)), (14, .v (.slice y3.A y3.n y3.c)), (13, vI ((mKeep (y1.xs.map CSession.abs) n t q r).2)), (12, .v (.slice y2.A y2.n y2.c)), (11, .v (.slice y1.A y1.n y1.c)), (0, .v (.slice s.A s.n s.c))], []⟩ [] [] (by kernel_rfl) on wn ?_
  refine l_nil (q_then_normal ?_)
  refine c_seq ?_
  refine c_region ?_
  refine JL_run 4 [] [39, 14, 12, 11, 0] 0 ⟨[(39, vB (decide ((mKeep (y1.xs.map CSession.abs) n t q r).2 = (mKeep (s.xs.map CSession.abs) n t q r).2))), (14, .v (.slice y3.A y3.n y3.c)), (12, .v (.slice y2.A y2.n y2.c)), (11, .v (.slice y1.A y1.n y1.c)), (0, .v (.slice s.A s.n s.c))], []⟩ [] [] (by kernel_rfl) on wn ?_
  cases h1 : decide ((mKeep (y1.xs.map CSession.abs) n t q r).2 = (mKeep (s.xs.map CSession.abs) n t q r).2) with
  | true =>
    have h1 := of_decide_eq_true h1
    refine JL_run 2 [] [41, 40, 39, 11, 0] 0 ⟨[(41, .v (.slice y3.A y3.n y3.c)), (40, .v (.slice y2.A y2.n y2.c)), (39, vB true), (11, .v (.slice y1.A y1.n y1.c)), (0, .v (.slice s.A s.n s.c))], []⟩ [] [] (by kernel_rfl) on wn ?_
    refine l_pure 33 [] [.v (.slice y2.A y2.n y2.c), .v (.slice y3.A y3.n y3.c)] (.bool true) Try.call33 rfl rfl rfl rfl (fun bs w hS => same_sessions _ _ w (hS.res _ (.tail _ (.head _))) (hS.res _ (.head _)) (by rw [hF2, hF3, hF1])) ?_
    refine JL_run 4 [] [46, 45, 44] 0 ⟨[(46, .v (.slice s.A s.n s.c)), (45, .v (.slice y1.A y1.n y1.c)), (44, vB true)], []⟩ [] [] (by kernel_rfl) on wn ?_
    refine l_pure 33 [] [.v (.slice y1.A y1.n y1.c), .v (.slice s.A s.n s.c)] (.bool true) Try.call33 rfl rfl rfl rfl (fun bs w hS => same_sessions _ _ w (hS.res _ (.tail _ (.tail _ (.head _)))) (Sl.rd.kp hs hS.kp) hF1) ?_
    refine JL_run 2 [] [10] 0 ⟨[(10, vB true)], []⟩ [] [] (by kernel_rfl) on wn ?_
    refine l_nil (q_then_normal ?_)
    refine c_ret ?_
    refine q_ret (.inl rfl) [vB true] rfl (fun bs w hS => ?_)
    refine ⟨?_, hS.kp⟩
    simp [retOf, den]
  | false =>
    have h1 := of_decide_eq_false h1
    exfalso; first | (simp at h1; done) | (rw [hF1] at h1; simp at h1; done)

end Go.Proofs.Ytececkgjacccmad.W
