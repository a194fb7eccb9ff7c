/-
  The functions that the law SessionJoins reaches, walked: each returns what its model says.
  Conditions: those that each theorem states.
-/
import Derived.Test.YtececkgjacccmadWSessionJoinsa
set_option linter.unusedVariables false
set_option linter.unusedSimpArgs false
set_option maxRecDepth 100000
namespace Go.Proofs.Ytececkgjacccmad.W
open Go.Proofs.Ytececkgjacccmad.Fw Go.RowKit

theorem ref_JoinedOf {B : Nat → Prop} (s : Sl CSession) (n t : Int) (w : World) (hs : s.rd B w) (ht : inR t) : Calls Try.prog 32 #[.slice s.A s.n s.c, .int .i64 n, .int .i64 t] w fun e w' => ∃ y : Sl CSession, e = .returned (.tuple #[.slice y.A y.n y.c, .agg #[.int .i64 ((mJoin (s.xs.map CSession.abs) n t).2.1).code, .int .i64 ((mJoin (s.xs.map CSession.abs) n t).2.1).n, .string ((mJoin (s.xs.map CSession.abs) n t).2.1).text], .int .i64 ((mJoin (s.xs.map CSession.abs) n t).2.2)]) ∧ y.xs.map CSession.abs = (mJoin (s.xs.map CSession.abs) n t).1 ∧ FreshS w w' y := by
  have oks := Sl.rd.ok hs
  have ncs := Sl.ok.nc oks
  have hns : s.n = s.xs.length := rfl
  have hml : (s.xs.map CSession.abs).length = s.n := by simp
  refine calls_J0 103 Try.func32 rfl rfl [.slice s.A s.n s.c, .int .i64 n, .int .i64 t] rfl ?_
  refine c_seq ?_
  refine c_region ?_
  refine JL_run 3 [] [7, 0, 1, 2] 1 ⟨[(7, .p 0 0), (0, .v (.slice s.A s.n s.c)), (1, vI n), (2, vI t)], [⟨26, [vI 0, vI 0, vS emp]⟩]⟩ [] [] (by kernel_rfl) on wn ?_
  refine l_nil (q_then_normal ?_)
  refine c_seq ?_
  refine c_region ?_
  refine JL_run 2 [] [17, 16, 7, 0, 1, 2] 1 ⟨[(17, vI n), (16, .v (.slice s.A s.n s.c)), (7, .p 0 0), (0, .v (.slice s.A s.n s.c)), (1, vI n), (2, vI t)], [⟨26, [vI 0, vI 0, vS emp]⟩]⟩ [] [] (by kernel_rfl) on wn ?_
  refine l_pure 82 [] [.v (.slice s.A s.n s.c), vI n] (.int .i64 (mSess (s.xs.map CSession.abs) n)) Try.call82 rfl rfl rfl rfl (fun bs w hS => ref_SessionsFault s n w (Sl.rd.kp hs hS.kp)) ?_
  refine JL_run 1 [] [9, 7, 0, 1, 2] 1 ⟨[(9, vI (mSess (s.xs.map CSession.abs) n)), (7, .p 0 0), (0, .v (.slice s.A s.n s.c)), (1, vI n), (2, vI t)], [⟨26, [vI 0, vI 0, vS emp]⟩]⟩ [] [] (by kernel_rfl) on wn ?_
  refine l_nil (q_then_normal ?_)
  refine c_seq ?_
  refine c_seq ?_
  refine c_region ?_
  refine JL_run 3 [] [21, 9, 7, 0, 1, 2] 1 ⟨[(21, vB (decide (mSess (s.xs.map CSession.abs) n = 0))), (9, vI (mSess (s.xs.map CSession.abs) n)), (7, .p 0 0), (0, .v (.slice s.A s.n s.c)), (1, vI n), (2, vI t)], [⟨26, [vI 0, vI 0, vS emp]⟩]⟩ [] [] (by kernel_rfl) on wn ?_
  cases h1 : decide (mSess (s.xs.map CSession.abs) n = 0) with
  | true =>
    have h1 := of_decide_eq_true h1
    obtain ⟨hi0, hi1, hln, hall⟩ := mSess_bd h1
    have hln2 : s.xs.length ≤ 4 := by simpa using hln
    refine JL_run 1 [] [22, 21, 9, 7, 0, 1, 2] 1 ⟨[(22, vI t), (21, vB true), (9, vI (mSess (s.xs.map CSession.abs) n)), (7, .p 0 0), (0, .v (.slice s.A s.n s.c)), (1, vI n), (2, vI t)], [⟨26, [vI 0, vI 0, vS emp]⟩]⟩ [] [] (by kernel_rfl) on wn ?_
    refine l_pure 64 [] [vI t, vI 1, vI 9] (.bool (inB t 1 9)) Try.call64 rfl rfl rfl rfl (fun bs w hS => ref_In _ _ _ w) ?_
    refine JL_run 2 [] [25, 21, 9, 7, 0, 1, 2] 1 ⟨[(25, vB (!(inB t 1 9))), (21, vB true), (9, vI (mSess (s.xs.map CSession.abs) n)), (7, .p 0 0), (0, .v (.slice s.A s.n s.c)), (1, vI n), (2, vI t)], [⟨26, [vI 0, vI 0, vS emp]⟩]⟩ [] [] (by kernel_rfl) on wn ?_
    cases h2 : inB t 1 9 with
    | true =>
      simp only [inB, Bool.and_eq_true, Bool.and_eq_false_iff, decide_eq_true_eq, decide_eq_false_iff_not] at h2
      refine JL_run 4 [] [29, 9, 7, 0, 1, 2] 1 ⟨[(29, vB (decide ((1073741824 : Int) ≤ n))), (9, vI (mSess (s.xs.map CSession.abs) n)), (7, .p 0 0), (0, .v (.slice s.A s.n s.c)), (1, vI n), (2, vI t)], [⟨26, [vI 0, vI 0, vS emp]⟩]⟩ [] [] (by kernel_rfl) on wn ?_
      refine l_nil (q_then_normal ?_)
      cases h3 : decide ((1073741824 : Int) ≤ n) with
      | true =>
        have h3 := of_decide_eq_true h3
        refine c_if true rfl ?_
        refine c_region ?_
        refine JL_run 1 [] [9, 7, 0, 1, 2] 1 ⟨[(9, vI 2), (7, .p 0 0), (0, .v (.slice s.A s.n s.c)), (1, vI n), (2, vI t)], [⟨26, [vI 0, vI 0, vS emp]⟩]⟩ [] [] (by kernel_rfl) on wn ?_
        refine l_nil (q_then_normal ?_)
        refine c_seq ?_
        refine c_seq ?_
        refine c_region ?_
        refine JL_run 2 [] [31, 9, 7, 0, 1, 2] 1 ⟨[(31, vB true), (9, vI 2), (7, .p 0 0), (0, .v (.slice s.A s.n s.c)), (1, vI n), (2, vI t)], [⟨26, [vI 0, vI 0, vS emp]⟩]⟩ [] [] (by kernel_rfl) on wn ?_
        refine l_nil (q_then_normal ?_)
        refine c_if true rfl ?_
        refine c_seq ?_
        refine c_region ?_
        refine JL_run 5 [] [8, 6, 7] 1 ⟨[(8, vI 2), (6, .v (.slice none 0 0)), (7, .p 0 0)], [⟨26, [vI 0, vI 0, vS emp]⟩]⟩ [] [] (by kernel_rfl) on wn ?_
        refine l_nil (q_then_normal ?_)
        refine c_ret ?_
        refine q_then_ret (q_ret (.inl rfl) [.v (.slice none 0 0), .v (.agg #[.int .i64 0, .int .i64 0, .string emp]), vI 2] rfl (fun bs w hS => ?_))
        have hm : mJoin (s.xs.map CSession.abs) n t = ([], zRep, 2) := by
          unfold mJoin sIdx
          repeat (first | rw [if_pos (by first | assumption | omega)] | rw [if_neg (by first | assumption | omega | (intro h0; first | exact absurd h0 (by assumption) | (simp_all; done)))])
          all_goals rfl
        refine ⟨Sl.nil, ?_, ?_, hS.outS (Sl.rd_nil _ _)⟩
        · rw [hm] <;> rfl
        · rw [hm] <;> rfl
      | false =>
        have h3 := of_decide_eq_false h3
        refine c_if false rfl ?_
        refine c_skip ?_
        refine q_then_normal ?_
        refine c_seq ?_
        refine c_seq ?_
        refine c_region ?_
        refine JL_run 2 [] [31, 9, 7, 0, 1, 2] 1 ⟨[(31, vB (!(decide (mSess (s.xs.map CSession.abs) n = 0)))), (9, vI (mSess (s.xs.map CSession.abs) n)), (7, .p 0 0), (0, .v (.slice s.A s.n s.c)), (1, vI n), (2, vI t)], [⟨26, [vI 0, vI 0, vS emp]⟩]⟩ [] [] (by kernel_rfl) on wn ?_
        refine l_nil (q_then_normal ?_)
        cases h4 : decide (mSess (s.xs.map CSession.abs) n = 0) with
        | true =>
          have h4 := of_decide_eq_true h4
          obtain ⟨hi0, hi1, hln, hall⟩ := mSess_bd h4
          have hln2 : s.xs.length ≤ 4 := by simpa using hln
          refine c_if false rfl ?_
          refine c_skip ?_
          refine q_then_normal ?_
          refine c_seq ?_
          refine c_region ?_
          refine JL_run 1 [] [34, 7, 1, 2] 1 ⟨[(34, .v (.slice s.A s.n s.c)), (7, .p 0 0), (1, vI n), (2, vI t)], [⟨26, [vI 0, vI 0, vS emp]⟩]⟩ [] [] (by kernel_rfl) on wn ?_
          refine l_freshF (σ := Sl CSession) 77 [] [.v (.slice s.A s.n s.c)] (fun y1 => .slice y1.A y1.n y1.c) (fun y1 => y1.xs.map CSession.abs = s.xs.map CSession.abs) (fun y1 => sessR 113 115 y1) Try.call77 rfl rfl rfl rfl (fun bs w hS => ref_SessionsCopy s w (Sl.rd.kp hs hS.kp) (small_sess (by assumption))) ?_
          rintro y1 hF1
          refine l_split2 ?_
          obtain ⟨A1, c1, S1⟩ := y1
          have hF1 : S1.map CSession.abs = s.xs.map CSession.abs := hF1
          refine l_perm (R' := [ownL (keptR 115) S1, rowA 113 A1 c1 (S1 : List CSession)]) (List.Perm.refl _) ?_
          have hnm1 := sess_texts (y := (⟨A1, c1, S1⟩ : Sl CSession)) (hs) hF1
          have hlen1 : S1.length = s.xs.length := by simpa using congrArg List.length hF1
          refine l_know (F := ∀ i, i < S1.length → Rds.ok (S1.getD i default)) (fun bs w hS i hi => Rds.okof (B := anyB) (w := w) (own_elt (hS.res _ (.head _)) hnm1 (mem_of_getD hi))) fun okown1 => ?_
          refine l_know (F := RowOk A1 c1 (S1 : List CSession)) (fun bs w hS => rowA_rok (hS.res _ (.tail _ (.head _)))) fun hrow1 => ?_
          have nchrow1 := hrow1.2
          have hml1 : (S1.map CSession.abs).length = S1.length := by simp
          refine JL_run 1 [] [10, 7, 1, 2] 1 ⟨[(10, .v (.slice A1 S1.length c1)), (7, .p 0 0), (1, vI n), (2, vI t)], [⟨26, [vI 0, vI 0, vS emp]⟩]⟩ [] [] (by kernel_rfl) on wn ?_
          refine l_nil (q_then_normal ?_)
          refine c_seq ?_
          refine c_region ?_
          refine JL_run 2 [] [37, 36, 10, 7, 1, 2] 1 ⟨[(37, vI t), (36, .v (.slice A1 S1.length c1)), (10, .v (.slice A1 S1.length c1)), (7, .p 0 0), (1, vI n), (2, vI t)], [⟨26, [vI 0, vI 0, vS emp]⟩]⟩ [] [] (by kernel_rfl) on wn ?_
          refine l_pure 83 [] [.v (.slice A1 S1.length c1), vI t] (.int .i64 (mIdx (fun x : CSession => decide (x.client = t)) S1)) Try.call83 rfl rfl rfl rfl (fun bs w hS => tackroomref_sessionAt (⟨A1, c1, S1⟩ : Sl CSession) t w (own_sess (hS.res _ (.head _)) (hS.res _ (.tail _ (.head _))) hnm1)) ?_
          have hJe : mIdx (fun x : CSession => decide (x.client = t)) S1 = mIdx (fun x : DSession => decide (x.client = t)) (S1.map CSession.abs) := mIdx_map CSession.abs (fun x : DSession => decide (x.client = t)) S1
          rw [hJe]
          have hJb := mIdx_bd (fun x : DSession => decide (x.client = t)) (S1.map CSession.abs)
          generalize hJ : mIdx (fun x : DSession => decide (x.client = t)) (S1.map CSession.abs) = J at hJb ⊢
          rw [List.length_map] at hJb
          refine JL_run 1 [] [11, 10, 7, 1, 2] 1 ⟨[(11, vI J), (10, .v (.slice A1 S1.length c1)), (7, .p 0 0), (1, vI n), (2, vI t)], [⟨26, [vI 0, vI 0, vS emp]⟩]⟩ [] [] (by kernel_rfl) on wn ?_
          refine l_nil (q_then_normal ?_)
          refine c_seq ?_
          refine c_seq ?_
          refine c_region ?_
          refine JL_run 2 [] [40, 11, 10, 7, 1, 2] 1 ⟨[(40, vB (decide ((0 : Int) ≤ J))), (11, vI J), (10, .v (.slice A1 S1.length c1)), (7, .p 0 0), (1, vI n), (2, vI t)], [⟨26, [vI 0, vI 0, vS emp]⟩]⟩ [] [] (by kernel_rfl) on wn ?_
          refine l_nil (q_then_normal ?_)
          cases h5 : decide ((0 : Int) ≤ J) with
          | true =>
            have h5 := of_decide_eq_true h5
            have h0J : 0 ≤ J := by omega
            refine c_if true rfl ?_
            refine c_seq ?_
            refine c_region ?_
            refine JL_run 6 [(4, .idx (oad A1) J.toNat)] [46, 44, 11, 10, 7] 1 ⟨[(46, .v (.pointer (some (((oad A1).add (J.toNat * 5)).add 3)))), (44, vI (n + 1)), (11, vI J), (10, .v (.slice A1 S1.length c1)), (7, .p 0 0)], [⟨26, [vI 0, vI 0, vS emp]⟩]⟩ [inR (n + 1), A1 = some (oad A1), J = ((J.toNat : Nat) : Int), J.toNat < S1.length] [] (by kernel_rfl) (oc (by unfold inR; omega) (oc (hrow1.1 J.toNat (by omega)) (oc (by omega) (oc (by omega) on)))) wn ?_
            refine l_perm (R' := [rowA 113 A1 c1 (S1 : List CSession), ownL (keptR 115) S1]) (permfront 1 rfl) ?_
            refine l_storeA (α := CSession) 113 A1 c1 S1 J.toNat 3 (((oad A1).add (J.toNat * 5)).add 3) (vI (n + 1)) [vI (n + 1)] [.int .i64 (n + 1)] (⟨(S1.getD J.toNat default).client, (S1.getD J.toNat default).id, (S1.getD J.toNat default).acked, n + 1, (S1.getD J.toNat default).replies⟩ : CSession) rfl rfl rfl rfl rfl (by kernel_rfl) (by kernel_rfl) rfl (by omega) (by kernel_rfl) rfl rfl rfl ?_
            intro L3 hL3 hlL3
            have hgL3 : L3.getD J.toNat default = (⟨(S1.getD J.toNat default).client, (S1.getD J.toNat default).id, (S1.getD J.toNat default).acked, n + 1, (S1.getD J.toNat default).replies⟩ : CSession) := by rw [hL3]; exact getD_set (by omega)
            have hbL3 : L3 = List.set S1 J.toNat (⟨(S1.getD J.toNat default).client, (S1.getD J.toNat default).id, (S1.getD J.toNat default).acked, n + 1, (S1.getD J.toNat default).replies⟩ : CSession) := by rw [hL3]
            refine l_nil (q_then_normal ?_)
            refine c_seq ?_
            refine c_draw 10 [] (.p 0 (.p 1 (.p 2 (.p 3 (.p 4 (.q 5 (.p 6 (.p 7 (.b 8 (.p 9 .nil) .z))))))))) [0] [rowA 113 A1 c1 (L3 : List CSession), ownL (keptR 115) S1] Try_mixed (by kernel_rfl) (pq_then (pq_then pq_body)) (List.Sublist.refl _) ?_
            refine h_quiet [(3, .idx (oad A1) J.toNat), (5, .ext [.int .i64 (S1.getD J.toNat default).id])] [(0, true), (1, true), (2, true), (3, true), (4, true), (5, false), (6, true), (7, true)] [(6, .v (.slice A1 S1.length c1)), (53, .v (.agg #[.int .i64 7, .int .i64 (S1.getD J.toNat default).id, .string emp])), (52, vI (S1.getD J.toNat default).id), (51, .v (.pointer (some (((oad A1).add (J.toNat * 5)).add 1)))), (50, .v (.pointer (some ((oad A1).add (J.toNat * 5))))), (49, vI J), (48, .v (.slice A1 S1.length c1)), (47, .v (.slice A1 S1.length c1)), (46, .v (.pointer (some (((oad A1).add (J.toNat * 5)).add 3)))), (44, vI (n + 1)), (11, vI J), (10, .v (.slice A1 S1.length c1)), (7, .p 0 0)] [A1 = some (oad A1), J = ((J.toNat : Nat) : Int), J.toNat < S1.length] [(((oad A1).add (J.toNat * 5)).add 1, [.int .i64 (S1.getD J.toNat default).id])] rfl (by kernel_rfl) (oc (hrow1.1 J.toNat (by omega)) (oc (by omega) (oc (by omega) on))) (fun w hk hr => ⟨(rowA_fld (i := J.toNat) (hr _ (.head _)) (by omega) 1 1 (by rw [hgL3]; rfl)), trivial⟩) ?_
            refine h_local ⟨[(6, .v (.slice A1 S1.length c1)), (53, .v (.agg #[.int .i64 7, .int .i64 (S1.getD J.toNat default).id, .string emp])), (52, vI (S1.getD J.toNat default).id), (51, .v (.pointer (some (((oad A1).add (J.toNat * 5)).add 1)))), (50, .v (.pointer (some ((oad A1).add (J.toNat * 5))))), (49, vI J), (48, .v (.slice A1 S1.length c1)), (47, .v (.slice A1 S1.length c1)), (46, .v (.pointer (some (((oad A1).add (J.toNat * 5)).add 3)))), (44, vI (n + 1)), (11, vI J), (10, .v (.slice A1 S1.length c1)), (7, .p 0 0)], [⟨26, [vI 7, vI (S1.getD J.toNat default).id, vS emp]⟩]⟩ (by kernel_rfl) (fun bs0 bs w hp hl hS => hS.down hp hl rfl (le_mask le_nil) (List.Sublist.refl _)) ?_
            refine h_quiet [] [(9, true)] [(8, vI 0), (6, .v (.slice A1 S1.length c1)), (53, .v (.agg #[.int .i64 7, .int .i64 (S1.getD J.toNat default).id, .string emp])), (52, vI (S1.getD J.toNat default).id), (51, .v (.pointer (some (((oad A1).add (J.toNat * 5)).add 1)))), (50, .v (.pointer (some ((oad A1).add (J.toNat * 5))))), (49, vI J), (48, .v (.slice A1 S1.length c1)), (47, .v (.slice A1 S1.length c1)), (46, .v (.pointer (some (((oad A1).add (J.toNat * 5)).add 3)))), (44, vI (n + 1)), (11, vI J), (10, .v (.slice A1 S1.length c1)), (7, .p 0 0)] [] [] rfl (by kernel_rfl) on wn ?_
            refine h_nil ?_
            refine l_nil (q_then_normal ?_)
            refine c_ret ?_
            refine q_then_ret (q_ret (.inl rfl) [.v (.slice A1 S1.length c1), .v (.agg #[.int .i64 7, .int .i64 (S1.getD J.toNat default).id, .string emp]), vI 0] rfl (fun bs w hS => ?_))
            have hm1 : mSess (S1.map CSession.abs) n = 0 := by rw [hF1]; assumption
            rw [← hF1]
            have hvx := setS_map hbL3
            have hm : mJoin (S1.map CSession.abs) n t = ((S1.map CSession.abs).set J.toNat { (S1.getD J.toNat default).abs with last := n + 1 }, ⟨7, (S1.getD J.toNat default).id, emp⟩, 0) := by
              unfold mJoin sIdx
              simp only [hJ, sgetD, List.length_map]
              repeat (first | rw [if_pos (by first | assumption | omega)] | rw [if_neg (by first | assumption | omega | (intro h0; first | exact absurd h0 (by assumption) | (simp_all; done)))])
              all_goals rfl
            refine ⟨⟨A1, c1, L3⟩, ?_, ?_, hS.outS (y := (⟨A1, c1, L3⟩ : Sl CSession)) (out_sessG (.head _) hS.res (fun x hx => ?_))⟩
            · have hll : S1.length = L3.length := by rw [hbL3, List.length_set]
              rw [hm]
              exact congrArg (fun q => Ending.returned (.tuple #[.slice A1 q c1, .agg #[.int .i64 7, .int .i64 (S1.getD J.toNat default).id, .string emp], .int .i64 0])) hll
            · exact Eq.trans hvx (congrArg Prod.fst hm).symm
            · rw [hbL3] at hx
              rcases mem_set hx with hx | hx
              · subst hx; exact own_in (x := S1.getD J.toNat default) (.tail _ (.head _)) hS.res hnm1 (mem_of_getD (L := S1) (i := J.toNat) (by omega))
              · exact own_in (.tail _ (.head _)) hS.res hnm1 hx
          | false =>
            have h5 := of_decide_eq_false h5
            have h0J : ¬ 0 ≤ J := by omega
            refine c_if false rfl ?_
            refine c_skip ?_
            refine q_then_normal ?_
            refine c_seq ?_
            refine c_seq ?_
            refine c_region ?_
            refine JL_run 3 [] [56, 10, 7, 1, 2] 1 ⟨[(56, vB (decide ((4 : Int) ≤ ((S1.length : Nat) : Int)))), (10, .v (.slice A1 S1.length c1)), (7, .p 0 0), (1, vI n), (2, vI t)], [⟨26, [vI 0, vI 0, vS emp]⟩]⟩ [] [] (by kernel_rfl) on wn ?_
            refine l_nil (q_then_normal ?_)
            cases h6 : decide ((4 : Int) ≤ ((S1.length : Nat) : Int)) with
            | true =>
              have h6 := of_decide_eq_true h6
              refine c_if true rfl ?_
              refine c_seq ?_
              refine c_region ?_
              refine JL_run 5 [] [8, 6, 7] 1 ⟨[(8, vI 0), (6, .v (.slice A1 S1.length c1)), (7, .p 0 0)], [⟨26, [vI 8, vI 0, vS emp]⟩]⟩ [] [] (by kernel_rfl) on wn ?_
              refine l_nil (q_then_normal ?_)
              refine c_ret ?_
              refine q_then_ret (q_ret (.inl rfl) [.v (.slice A1 S1.length c1), .v (.agg #[.int .i64 8, .int .i64 0, .string emp]), vI 0] rfl (fun bs w hS => ?_))
              have hm1 : mSess (S1.map CSession.abs) n = 0 := by rw [hF1]; assumption
              rw [← hF1]
              have hm : mJoin (S1.map CSession.abs) n t = (S1.map CSession.abs, ⟨8, 0, emp⟩, 0) := by
                unfold mJoin sIdx
                simp only [hJ, sgetD, List.length_map]
                repeat (first | rw [if_pos (by first | assumption | omega)] | rw [if_neg (by first | assumption | omega | (intro h0; first | exact absurd h0 (by assumption) | (simp_all; done)))])
                all_goals rfl
              refine ⟨⟨A1, c1, S1⟩, ?_, ?_, hS.outS (y := (⟨A1, c1, S1⟩ : Sl CSession)) (out_sessG (.tail _ (.head _)) hS.res (fun x hx => ?_))⟩
              · rw [hm] <;> rfl
              · exact Eq.trans rfl (congrArg Prod.fst hm).symm
              · exact own_in (.head _) hS.res hnm1 hx
            | false =>
              have h6 := of_decide_eq_false h6
              refine c_if false rfl ?_
              refine c_skip ?_
              refine q_then_normal ?_
              refine c_seq ?_
              refine c_region ?_
              refine JL_run 8 [] [12, 10, 7, 1, 2] 2 ⟨[(12, .p 1 0), (10, .v (.slice A1 S1.length c1)), (7, .p 0 0), (1, vI n), (2, vI t)], [⟨26, [vI 0, vI 0, vS emp]⟩, ⟨113, [vI t, vI (n + 1), vI 0, vI (n + 1), .v (.slice none 0 0)]⟩]⟩ [inR (n + 1), inR (n + 1)] [] (by kernel_rfl) (oc (by unfold inR; omega) (oc (by unfold inR; omega) on)) wn ?_
              refine l_nil (q_then_normal ?_)
              refine c_seq ?_
              refine c_region ?_
              refine JL_run 1 [] [13, 12, 10, 7, 1, 2] 2 ⟨[(13, .v (.slice none 0 0)), (12, .p 1 0), (10, .v (.slice A1 S1.length c1)), (7, .p 0 0), (1, vI n), (2, vI t)], [⟨26, [vI 0, vI 0, vS emp]⟩, ⟨113, [vI t, vI (n + 1), vI 0, vI (n + 1), .v (.slice none 0 0)]⟩]⟩ [] [] (by kernel_rfl) on wn ?_
              refine l_nil (q_then_normal ?_)
              refine c_seq ?_
              refine c_region ?_
              refine JL_run 1 [] [14, 13, 12, 10, 7, 1, 2] 2 ⟨[(14, vB false), (13, .v (.slice none 0 0)), (12, .p 1 0), (10, .v (.slice A1 S1.length c1)), (7, .p 0 0), (1, vI n), (2, vI t)], [⟨26, [vI 0, vI 0, vS emp]⟩, ⟨113, [vI t, vI (n + 1), vI 0, vI (n + 1), .v (.slice none 0 0)]⟩]⟩ [] [] (by kernel_rfl) on wn ?_
              refine l_nil (q_then_normal ?_)
              refine c_seq ?_
              refine c_seq ?_
              refine c_region ?_
              refine JL_run 1 [] [15, 14, 13, 12, 10, 7, 1, 2] 2 ⟨[(15, vI 0), (14, vB false), (13, .v (.slice none 0 0)), (12, .p 1 0), (10, .v (.slice A1 S1.length c1)), (7, .p 0 0), (1, vI n), (2, vI t)], [⟨26, [vI 0, vI 0, vS emp]⟩, ⟨113, [vI t, vI (n + 1), vI 0, vI (n + 1), .v (.slice none 0 0)]⟩]⟩ [] [] (by kernel_rfl) on wn ?_
              refine l_nil (q_then_normal ?_)
              refine c_block ?_
              refine c_rowA (α := CSession) 113 ?_
              refine c_loop (σ := Nat × Bool × Option Addr × Nat × List CSession) (fun ⟨k, b, A, c, L⟩ => InsI (fun x : CSession => decide (t < x.client)) (⟨t, n + 1, 0, n + 1, Sl.nil⟩ : CSession) S1 k b L) (fun ⟨k, b, A, c, L⟩ => S1.length - k) (fun ⟨k, b, A, c, L⟩ => [rowA 113 A c (L : List CSession), ownL (keptR 115) S1, rowA 113 A1 c1 (S1 : List CSession)]) (fun ⟨k, b, A, c, L⟩ => ⟨[(15, vI ((k : Nat) : Int)), (14, vB b), (13, .v (.slice A L.length c)), (12, .p 1 0), (10, .v (.slice A1 S1.length c1)), (7, .p 0 0), (1, vI n), (2, vI t)], [⟨26, [vI 0, vI 0, vS emp]⟩, ⟨113, [vI t, vI (n + 1), vI 0, vI (n + 1), .v (.slice none 0 0)]⟩]⟩) ⟨0, false, none, 0, []⟩ (show InsI (fun x : CSession => decide (t < x.client)) (⟨t, n + 1, 0, n + 1, Sl.nil⟩ : CSession) S1 0 false [] from InsI.start _ _ _) (s_start [15, 14, 13, 12, 10, 7, 1, 2] 2 (by kernel_rfl) rfl) ?_
              rintro ⟨k, b, A, c, L⟩ hI
              have hIl := hI.len
              have hIk := hI.le
              refine c_seq ?_
              refine c_seq ?_
              refine c_region ?_
              refine JL_run 4 [] [68, 15, 14, 13, 12, 10, 7, 1, 2] 2 ⟨[(68, vB (decide (((k : Nat) : Int) < ((S1.length : Nat) : Int)))), (15, vI ((k : Nat) : Int)), (14, vB b), (13, .v (.slice A L.length c)), (12, .p 1 0), (10, .v (.slice A1 S1.length c1)), (7, .p 0 0), (1, vI n), (2, vI t)], [⟨26, [vI 0, vI 0, vS emp]⟩, ⟨113, [vI t, vI (n + 1), vI 0, vI (n + 1), .v (.slice none 0 0)]⟩]⟩ [] [] (by kernel_rfl) on wn ?_
              refine l_nil (q_then_normal ?_)
              cases h7 : decide (((k : Nat) : Int) < ((S1.length : Nat) : Int)) with
              | true =>
                have h7 := of_decide_eq_true h7
                refine c_if true rfl ?_
                refine c_skip ?_
                refine q_then_normal ?_
                refine c_seq ?_
                refine c_block ?_
                refine c_seq ?_
                refine c_seq ?_
                refine c_region ?_
                refine JL_run 3 [] [73, 15, 14, 13, 12, 10, 7, 1, 2] 2 ⟨[(73, vB (!b)), (15, vI ((k : Nat) : Int)), (14, vB b), (13, .v (.slice A L.length c)), (12, .p 1 0), (10, .v (.slice A1 S1.length c1)), (7, .p 0 0), (1, vI n), (2, vI t)], [⟨26, [vI 0, vI 0, vS emp]⟩, ⟨113, [vI t, vI (n + 1), vI 0, vI (n + 1), .v (.slice none 0 0)]⟩]⟩ [] [] (by kernel_rfl) on wn ?_
                cases h8 : b with
                | true =>
                  refine JL_run 8 [] [81, 15, 14, 13, 12, 10, 7, 1, 2] 2 ⟨[(81, vB false), (15, vI ((k : Nat) : Int)), (14, vB true), (13, .v (.slice A L.length c)), (12, .p 1 0), (10, .v (.slice A1 S1.length c1)), (7, .p 0 0), (1, vI n), (2, vI t)], [⟨26, [vI 0, vI 0, vS emp]⟩, ⟨113, [vI t, vI (n + 1), vI 0, vI (n + 1), .v (.slice none 0 0)]⟩]⟩ [] [] (by kernel_rfl) on wn ?_
                  refine l_nil (q_then_normal ?_)
                  refine c_if false rfl ?_
                  refine c_skip ?_
                  refine q_then_normal ?_
                  refine c_region ?_
                  refine JL_run 6 [(3, .idx (oad A1) k), (4, .ext [.int .i64 (S1.getD k default).client, .int .i64 (S1.getD k default).id, .int .i64 (S1.getD k default).acked, .int .i64 (S1.getD k default).last, .slice (S1.getD k default).replies.A (S1.getD k default).replies.n (S1.getD k default).replies.c])] [91, 86, 15, 14, 12, 10, 7, 1, 2] 3 ⟨[(91, .s 2 0 1 1), (86, .v (.slice A L.length c)), (15, vI ((k : Nat) : Int)), (14, vB true), (12, .p 1 0), (10, .v (.slice A1 S1.length c1)), (7, .p 0 0), (1, vI n), (2, vI t)], [⟨26, [vI 0, vI 0, vS emp]⟩, ⟨113, [vI t, vI (n + 1), vI 0, vI (n + 1), .v (.slice none 0 0)]⟩, ⟨113, [vI (S1.getD k default).client, vI (S1.getD k default).id, vI (S1.getD k default).acked, vI (S1.getD k default).last, .v (.slice (S1.getD k default).replies.A (S1.getD k default).replies.n (S1.getD k default).replies.c)]⟩]⟩ [A1 = some (oad A1), ((k : Nat) : Int) = ((k : Nat) : Int), k < S1.length] [((oad A1).add (k * 5), [.int .i64 (S1.getD k default).client, .int .i64 (S1.getD k default).id, .int .i64 (S1.getD k default).acked, .int .i64 (S1.getD k default).last, .slice (S1.getD k default).replies.A (S1.getD k default).replies.n (S1.getD k default).replies.c])] (by kernel_rfl) (oc (hrow1.1 k (by omega)) (oc rfl (oc (by omega) on))) (fun w hk hr => ⟨(rowA_all (i := k) (hr _ (.tail _ (.tail _ (.head _)))) (by omega) rfl), trivial⟩) ?_
                  refine l_appendA (α := CSession) 113 56 A c (L) (.s 2 0 1 1) ([(⟨(S1.getD k default).client, (S1.getD k default).id, (S1.getD k default).acked, (S1.getD k default).last, (S1.getD k default).replies⟩ : CSession)]) Try.underlying46 (by kernel_rfl) rfl rfl rfl (fun bs w hS => by obtain ⟨q1, q2, q3, q4⟩ := src_loc (i := 2) (off := 0) (k := 1) (c := 1) (q := 5) (vs := [.int .i64 (S1.getD k default).client, .int .i64 (S1.getD k default).id, .int .i64 (S1.getD k default).acked, .int .i64 (S1.getD k default).last, .slice (S1.getD k default).replies.A (S1.getD k default).replies.n (S1.getD k default).replies.c]) hS rfl rfl; exact ⟨some q1, q2, q3, q4⟩) (by first | omega | (simp only [List.length_append, List.length_nil, List.length_cons]; omega)) (by first | omega | (simp only [List.length_append, List.length_nil, List.length_cons]; omega)) ?_
                  intro A4 c4
                  refine JL_run 1 [] [13, 15, 14, 12, 10, 7, 1, 2] 2 ⟨[(13, .v (.slice A4 (L ++ [(⟨(S1.getD k default).client, (S1.getD k default).id, (S1.getD k default).acked, (S1.getD k default).last, (S1.getD k default).replies⟩ : CSession)]).length c4)), (15, vI ((k : Nat) : Int)), (14, vB true), (12, .p 1 0), (10, .v (.slice A1 S1.length c1)), (7, .p 0 0), (1, vI n), (2, vI t)], [⟨26, [vI 0, vI 0, vS emp]⟩, ⟨113, [vI t, vI (n + 1), vI 0, vI (n + 1), .v (.slice none 0 0)]⟩]⟩ [] [] (by kernel_rfl) on wn ?_
                  refine l_nil (q_block_normal (q_then_normal ?_))
                  refine c_region ?_
                  refine JL_run 3 [] [15, 13, 14, 12, 10, 7, 1, 2] 2 ⟨[(15, vI (((k : Nat) : Int) + 1)), (13, .v (.slice A4 (L ++ [(⟨(S1.getD k default).client, (S1.getD k default).id, (S1.getD k default).acked, (S1.getD k default).last, (S1.getD k default).replies⟩ : CSession)]).length c4)), (14, vB true), (12, .p 1 0), (10, .v (.slice A1 S1.length c1)), (7, .p 0 0), (1, vI n), (2, vI t)], [⟨26, [vI 0, vI 0, vS emp]⟩, ⟨113, [vI t, vI (n + 1), vI 0, vI (n + 1), .v (.slice none 0 0)]⟩]⟩ [inR (((k : Nat) : Int) + 1)] [] (by kernel_rfl) (oc (by unfold inR; omega) on) wn ?_
                  refine l_nil (q_loop (x := (⟨k, b, A, c, L⟩ : Nat × Bool × Option Addr × Nat × List CSession)) (⟨k + 1, true, A4, c4, L ++ [(⟨(S1.getD k default).client, (S1.getD k default).id, (S1.getD k default).acked, (S1.getD k default).last, (S1.getD k default).replies⟩ : CSession)]⟩ : Nat × Bool × Option Addr × Nat × List CSession) (by first | exact hI.more (by assumption) (by omega) | exact hI.hit (by assumption) (by omega) (decide_eq_true (by assumption)) | exact hI.skip (by assumption) (by omega) (decide_eq_false (by assumption))) (by show S1.length - (k + 1) < S1.length - k; omega) (s_start [15, 14, 13, 12, 10, 7, 1, 2] 2 (by kernel_rfl) rfl))
                | false =>
                  refine JL_run 8 [(2, .idx (oad A1) k), (4, .ext [.int .i64 (S1.getD k default).client])] [81, 15, 14, 13, 12, 10, 7, 1, 2] 2 ⟨[(81, vB (decide (t < (S1.getD k default).client))), (15, vI ((k : Nat) : Int)), (14, vB false), (13, .v (.slice A L.length c)), (12, .p 1 0), (10, .v (.slice A1 S1.length c1)), (7, .p 0 0), (1, vI n), (2, vI t)], [⟨26, [vI 0, vI 0, vS emp]⟩, ⟨113, [vI t, vI (n + 1), vI 0, vI (n + 1), .v (.slice none 0 0)]⟩]⟩ [A1 = some (oad A1), ((k : Nat) : Int) = ((k : Nat) : Int), k < S1.length] [(((oad A1).add (k * 5)).add 0, [.int .i64 (S1.getD k default).client])] (by kernel_rfl) (oc (hrow1.1 k (by omega)) (oc rfl (oc (by omega) on))) (fun w hk hr => ⟨(rowA_fld (i := k) (hr _ (.tail _ (.tail _ (.head _)))) (by omega) 0 1 rfl), trivial⟩) ?_
                  refine l_nil (q_then_normal ?_)
                  cases h9 : decide (t < (S1.getD k default).client) with
                  | true =>
                    have h9 := of_decide_eq_true h9
                    refine c_if true rfl ?_
                    refine c_seq ?_
                    refine c_region ?_
                    refine JL_run 3 [] [84, 82, 15, 12, 10, 7, 1, 2] 3 ⟨[(84, .s 2 0 1 1), (82, .v (.slice A L.length c)), (15, vI ((k : Nat) : Int)), (12, .p 1 0), (10, .v (.slice A1 S1.length c1)), (7, .p 0 0), (1, vI n), (2, vI t)], [⟨26, [vI 0, vI 0, vS emp]⟩, ⟨113, [vI t, vI (n + 1), vI 0, vI (n + 1), .v (.slice none 0 0)]⟩, ⟨113, [vI t, vI (n + 1), vI 0, vI (n + 1), .v (.slice none 0 0)]⟩]⟩ [] [] (by kernel_rfl) on wn ?_
                    refine l_appendA (α := CSession) 113 56 A c (L) (.s 2 0 1 1) ([(⟨t, n + 1, 0, n + 1, Sl.nil⟩ : CSession)]) Try.underlying46 (by kernel_rfl) rfl rfl rfl (fun bs w hS => by obtain ⟨q1, q2, q3, q4⟩ := src_loc (i := 2) (off := 0) (k := 1) (c := 1) (q := 5) (vs := [.int .i64 t, .int .i64 (n + 1), .int .i64 0, .int .i64 (n + 1), .slice none 0 0]) hS rfl rfl; exact ⟨some q1, q2, q3, q4⟩) (by first | omega | (simp only [List.length_append, List.length_nil, List.length_cons]; omega)) (by first | omega | (simp only [List.length_append, List.length_nil, List.length_cons]; omega)) ?_
                    intro A5 c5
                    refine JL_run 1 [] [13, 15, 12, 10, 7, 1, 2] 2 ⟨[(13, .v (.slice A5 (L ++ [(⟨t, n + 1, 0, n + 1, Sl.nil⟩ : CSession)]).length c5)), (15, vI ((k : Nat) : Int)), (12, .p 1 0), (10, .v (.slice A1 S1.length c1)), (7, .p 0 0), (1, vI n), (2, vI t)], [⟨26, [vI 0, vI 0, vS emp]⟩, ⟨113, [vI t, vI (n + 1), vI 0, vI (n + 1), .v (.slice none 0 0)]⟩]⟩ [] [] (by kernel_rfl) on wn ?_
                    refine l_nil (q_then_normal ?_)
                    refine c_region ?_
                    refine JL_run 1 [] [14, 13, 15, 12, 10, 7, 1, 2] 2 ⟨[(14, vB true), (13, .v (.slice A5 (L ++ [(⟨t, n + 1, 0, n + 1, Sl.nil⟩ : CSession)]).length c5)), (15, vI ((k : Nat) : Int)), (12, .p 1 0), (10, .v (.slice A1 S1.length c1)), (7, .p 0 0), (1, vI n), (2, vI t)], [⟨26, [vI 0, vI 0, vS emp]⟩, ⟨113, [vI t, vI (n + 1), vI 0, vI (n + 1), .v (.slice none 0 0)]⟩]⟩ [] [] (by kernel_rfl) on wn ?_
                    refine l_nil (q_then_normal ?_)
                    refine c_region ?_
                    refine JL_run 6 [(3, .idx (oad A1) k), (4, .ext [.int .i64 (S1.getD k default).client, .int .i64 (S1.getD k default).id, .int .i64 (S1.getD k default).acked, .int .i64 (S1.getD k default).last, .slice (S1.getD k default).replies.A (S1.getD k default).replies.n (S1.getD k default).replies.c])] [91, 86, 14, 15, 12, 10, 7, 1, 2] 3 ⟨[(91, .s 2 0 1 1), (86, .v (.slice A5 (L ++ [(⟨t, n + 1, 0, n + 1, Sl.nil⟩ : CSession)]).length c5)), (14, vB true), (15, vI ((k : Nat) : Int)), (12, .p 1 0), (10, .v (.slice A1 S1.length c1)), (7, .p 0 0), (1, vI n), (2, vI t)], [⟨26, [vI 0, vI 0, vS emp]⟩, ⟨113, [vI t, vI (n + 1), vI 0, vI (n + 1), .v (.slice none 0 0)]⟩, ⟨113, [vI (S1.getD k default).client, vI (S1.getD k default).id, vI (S1.getD k default).acked, vI (S1.getD k default).last, .v (.slice (S1.getD k default).replies.A (S1.getD k default).replies.n (S1.getD k default).replies.c)]⟩]⟩ [A1 = some (oad A1), ((k : Nat) : Int) = ((k : Nat) : Int), k < S1.length] [((oad A1).add (k * 5), [.int .i64 (S1.getD k default).client, .int .i64 (S1.getD k default).id, .int .i64 (S1.getD k default).acked, .int .i64 (S1.getD k default).last, .slice (S1.getD k default).replies.A (S1.getD k default).replies.n (S1.getD k default).replies.c])] (by kernel_rfl) (oc (hrow1.1 k (by omega)) (oc rfl (oc (by omega) on))) (fun w hk hr => ⟨(rowA_all (i := k) (hr _ (.tail _ (.tail _ (.head _)))) (by omega) rfl), trivial⟩) ?_
                    refine l_appendA (α := CSession) 113 56 A5 c5 (L ++ [(⟨t, n + 1, 0, n + 1, Sl.nil⟩ : CSession)]) (.s 2 0 1 1) ([(⟨(S1.getD k default).client, (S1.getD k default).id, (S1.getD k default).acked, (S1.getD k default).last, (S1.getD k default).replies⟩ : CSession)]) Try.underlying46 (by kernel_rfl) rfl rfl rfl (fun bs w hS => by obtain ⟨q1, q2, q3, q4⟩ := src_loc (i := 2) (off := 0) (k := 1) (c := 1) (q := 5) (vs := [.int .i64 (S1.getD k default).client, .int .i64 (S1.getD k default).id, .int .i64 (S1.getD k default).acked, .int .i64 (S1.getD k default).last, .slice (S1.getD k default).replies.A (S1.getD k default).replies.n (S1.getD k default).replies.c]) hS rfl rfl; exact ⟨some q1, q2, q3, q4⟩) (by first | omega | (simp only [List.length_append, List.length_nil, List.length_cons]; omega)) (by first | omega | (simp only [List.length_append, List.length_nil, List.length_cons]; omega)) ?_
                    intro A6 c6
                    refine JL_run 1 [] [13, 14, 15, 12, 10, 7, 1, 2] 2 ⟨[(13, .v (.slice A6 (L ++ [(⟨t, n + 1, 0, n + 1, Sl.nil⟩ : CSession)] ++ [(⟨(S1.getD k default).client, (S1.getD k default).id, (S1.getD k default).acked, (S1.getD k default).last, (S1.getD k default).replies⟩ : CSession)]).length c6)), (14, vB true), (15, vI ((k : Nat) : Int)), (12, .p 1 0), (10, .v (.slice A1 S1.length c1)), (7, .p 0 0), (1, vI n), (2, vI t)], [⟨26, [vI 0, vI 0, vS emp]⟩, ⟨113, [vI t, vI (n + 1), vI 0, vI (n + 1), .v (.slice none 0 0)]⟩]⟩ [] [] (by kernel_rfl) on wn ?_
                    refine l_nil (q_block_normal (q_then_normal ?_))
                    refine c_region ?_
                    refine JL_run 3 [] [15, 13, 14, 12, 10, 7, 1, 2] 2 ⟨[(15, vI (((k : Nat) : Int) + 1)), (13, .v (.slice A6 (L ++ [(⟨t, n + 1, 0, n + 1, Sl.nil⟩ : CSession)] ++ [(⟨(S1.getD k default).client, (S1.getD k default).id, (S1.getD k default).acked, (S1.getD k default).last, (S1.getD k default).replies⟩ : CSession)]).length c6)), (14, vB true), (12, .p 1 0), (10, .v (.slice A1 S1.length c1)), (7, .p 0 0), (1, vI n), (2, vI t)], [⟨26, [vI 0, vI 0, vS emp]⟩, ⟨113, [vI t, vI (n + 1), vI 0, vI (n + 1), .v (.slice none 0 0)]⟩]⟩ [inR (((k : Nat) : Int) + 1)] [] (by kernel_rfl) (oc (by unfold inR; omega) on) wn ?_
                    refine l_nil (q_loop (x := (⟨k, b, A, c, L⟩ : Nat × Bool × Option Addr × Nat × List CSession)) (⟨k + 1, true, A6, c6, L ++ [(⟨t, n + 1, 0, n + 1, Sl.nil⟩ : CSession)] ++ [(⟨(S1.getD k default).client, (S1.getD k default).id, (S1.getD k default).acked, (S1.getD k default).last, (S1.getD k default).replies⟩ : CSession)]⟩ : Nat × Bool × Option Addr × Nat × List CSession) (by first | exact hI.more (by assumption) (by omega) | exact hI.hit (by assumption) (by omega) (decide_eq_true (by assumption)) | exact hI.skip (by assumption) (by omega) (decide_eq_false (by assumption))) (by show S1.length - (k + 1) < S1.length - k; omega) (s_start [15, 14, 13, 12, 10, 7, 1, 2] 2 (by kernel_rfl) rfl))
                  | false =>
                    have h9 := of_decide_eq_false h9
                    refine c_if false rfl ?_
                    refine c_skip ?_
                    refine q_then_normal ?_
                    refine c_region ?_
                    refine JL_run 6 [(3, .idx (oad A1) k), (4, .ext [.int .i64 (S1.getD k default).client, .int .i64 (S1.getD k default).id, .int .i64 (S1.getD k default).acked, .int .i64 (S1.getD k default).last, .slice (S1.getD k default).replies.A (S1.getD k default).replies.n (S1.getD k default).replies.c])] [91, 86, 15, 14, 12, 10, 7, 1, 2] 3 ⟨[(91, .s 2 0 1 1), (86, .v (.slice A L.length c)), (15, vI ((k : Nat) : Int)), (14, vB false), (12, .p 1 0), (10, .v (.slice A1 S1.length c1)), (7, .p 0 0), (1, vI n), (2, vI t)], [⟨26, [vI 0, vI 0, vS emp]⟩, ⟨113, [vI t, vI (n + 1), vI 0, vI (n + 1), .v (.slice none 0 0)]⟩, ⟨113, [vI (S1.getD k default).client, vI (S1.getD k default).id, vI (S1.getD k default).acked, vI (S1.getD k default).last, .v (.slice (S1.getD k default).replies.A (S1.getD k default).replies.n (S1.getD k default).replies.c)]⟩]⟩ [A1 = some (oad A1), ((k : Nat) : Int) = ((k : Nat) : Int), k < S1.length] [((oad A1).add (k * 5), [.int .i64 (S1.getD k default).client, .int .i64 (S1.getD k default).id, .int .i64 (S1.getD k default).acked, .int .i64 (S1.getD k default).last, .slice (S1.getD k default).replies.A (S1.getD k default).replies.n (S1.getD k default).replies.c])] (by kernel_rfl) (oc (hrow1.1 k (by omega)) (oc rfl (oc (by omega) on))) (fun w hk hr => ⟨(rowA_all (i := k) (hr _ (.tail _ (.tail _ (.head _)))) (by omega) rfl), trivial⟩) ?_
                    refine l_appendA (α := CSession) 113 56 A c (L) (.s 2 0 1 1) ([(⟨(S1.getD k default).client, (S1.getD k default).id, (S1.getD k default).acked, (S1.getD k default).last, (S1.getD k default).replies⟩ : CSession)]) Try.underlying46 (by kernel_rfl) rfl rfl rfl (fun bs w hS => by obtain ⟨q1, q2, q3, q4⟩ := src_loc (i := 2) (off := 0) (k := 1) (c := 1) (q := 5) (vs := [.int .i64 (S1.getD k default).client, .int .i64 (S1.getD k default).id, .int .i64 (S1.getD k default).acked, .int .i64 (S1.getD k default).last, .slice (S1.getD k default).replies.A (S1.getD k default).replies.n (S1.getD k default).replies.c]) hS rfl rfl; exact ⟨some q1, q2, q3, q4⟩) (by first | omega | (simp only [List.length_append, List.length_nil, List.length_cons]; omega)) (by first | omega | (simp only [List.length_append, List.length_nil, List.length_cons]; omega)) ?_
                    intro A7 c7
                    refine JL_run 1 [] [13, 15, 14, 12, 10, 7, 1, 2] 2 ⟨[(13, .v (.slice A7 (L ++ [(⟨(S1.getD k default).client, (S1.getD k default).id, (S1.getD k default).acked, (S1.getD k default).last, (S1.getD k default).replies⟩ : CSession)]).length c7)), (15, vI ((k : Nat) : Int)), (14, vB false), (12, .p 1 0), (10, .v (.slice A1 S1.length c1)), (7, .p 0 0), (1, vI n), (2, vI t)], [⟨26, [vI 0, vI 0, vS emp]⟩, ⟨113, [vI t, vI (n + 1), vI 0, vI (n + 1), .v (.slice none 0 0)]⟩]⟩ [] [] (by kernel_rfl) on wn ?_
                    refine l_nil (q_block_normal (q_then_normal ?_))
                    refine c_region ?_
                    refine JL_run 3 [] [15, 13, 14, 12, 10, 7, 1, 2] 2 ⟨[(15, vI (((k : Nat) : Int) + 1)), (13, .v (.slice A7 (L ++ [(⟨(S1.getD k default).client, (S1.getD k default).id, (S1.getD k default).acked, (S1.getD k default).last, (S1.getD k default).replies⟩ : CSession)]).length c7)), (14, vB false), (12, .p 1 0), (10, .v (.slice A1 S1.length c1)), (7, .p 0 0), (1, vI n), (2, vI t)], [⟨26, [vI 0, vI 0, vS emp]⟩, ⟨113, [vI t, vI (n + 1), vI 0, vI (n + 1), .v (.slice none 0 0)]⟩]⟩ [inR (((k : Nat) : Int) + 1)] [] (by kernel_rfl) (oc (by unfold inR; omega) on) wn ?_
                    refine l_nil (q_loop (x := (⟨k, b, A, c, L⟩ : Nat × Bool × Option Addr × Nat × List CSession)) (⟨k + 1, false, A7, c7, L ++ [(⟨(S1.getD k default).client, (S1.getD k default).id, (S1.getD k default).acked, (S1.getD k default).last, (S1.getD k default).replies⟩ : CSession)]⟩ : Nat × Bool × Option Addr × Nat × List CSession) (by first | exact hI.more (by assumption) (by omega) | exact hI.hit (by assumption) (by omega) (decide_eq_true (by assumption)) | exact hI.skip (by assumption) (by omega) (decide_eq_false (by assumption))) (by show S1.length - (k + 1) < S1.length - k; omega) (s_start [15, 14, 13, 12, 10, 7, 1, 2] 2 (by kernel_rfl) rfl))
              | false =>
                have h7 := of_decide_eq_false h7
                refine c_if false rfl ?_
                refine c_exit ?_
                refine q_then_exit (q_then_exit (q_block_hit (q_then_normal ?_)))
                refine c_seq ?_
                refine c_seq ?_
                refine c_region ?_
                refine JL_run 2 [] [94, 13, 12, 7, 1] 2 ⟨[(94, vB (!b)), (13, .v (.slice A L.length c)), (12, .p 1 0), (7, .p 0 0), (1, vI n)], [⟨26, [vI 0, vI 0, vS emp]⟩, ⟨113, [vI t, vI (n + 1), vI 0, vI (n + 1), .v (.slice none 0 0)]⟩]⟩ [] [] (by kernel_rfl) on wn ?_
                refine l_nil (q_then_normal ?_)
                cases h10 : b with
                | true =>
                  refine c_if false rfl ?_
                  refine c_skip ?_
                  refine q_then_normal ?_
                  refine c_seq ?_
                  refine c_region ?_
                  refine JL_run 7 [] [8, 6, 7] 1 ⟨[(8, vI 0), (6, .v (.slice A L.length c)), (7, .p 0 0)], [⟨26, [vI 0, vI (n + 1), vS emp]⟩]⟩ [inR (n + 1)] [] (by kernel_rfl) (oc (by unfold inR; omega) on) wn ?_
                  refine l_nil (q_then_normal ?_)
                  refine c_ret ?_
                  refine q_ret (.inl rfl) [.v (.slice A L.length c), .v (.agg #[.int .i64 0, .int .i64 (n + 1), .string emp]), vI 0] rfl (fun bs w hS => ?_)
                  have hm1 : mSess (S1.map CSession.abs) n = 0 := by rw [hF1]; assumption
                  rw [← hF1]
                  have hvy : L = mIns (fun x : CSession => decide (t < x.client)) (⟨t, n + 1, 0, n + 1, Sl.nil⟩ : CSession) S1 := (hI.fin1 (by assumption) (by omega))
                  have hvx := insS_map hvy
                  have hm : mJoin (S1.map CSession.abs) n t = (mIns (fun x : DSession => decide (t < x.client)) ⟨t, n + 1, 0, n + 1, []⟩ (S1.map CSession.abs), ⟨0, n + 1, emp⟩, 0) := by
                    unfold mJoin sIdx
                    simp only [hJ, sgetD, List.length_map]
                    repeat (first | rw [if_pos (by first | assumption | omega)] | rw [if_neg (by first | assumption | omega | (intro h0; first | exact absurd h0 (by assumption) | (simp_all; done)))])
                    all_goals rfl
                  refine ⟨⟨A, c, L⟩, ?_, ?_, hS.outS (y := (⟨A, c, L⟩ : Sl CSession)) (out_sessG (.head _) hS.res (fun x hx => ?_))⟩
                  · rw [hm] <;> rfl
                  · exact Eq.trans hvx (congrArg Prod.fst hm).symm
                  · rw [hvy] at hx
                    rcases ins_mem hx with hx | hx
                    · subst hx; exact Sl.rd_nil _ _
                    · exact own_in (.tail _ (.head _)) hS.res hnm1 hx
                | false =>
                  refine c_if true rfl ?_
                  refine c_region ?_
                  refine JL_run 3 [] [97, 95, 7, 1] 3 ⟨[(97, .s 2 0 1 1), (95, .v (.slice A L.length c)), (7, .p 0 0), (1, vI n)], [⟨26, [vI 0, vI 0, vS emp]⟩, ⟨113, [vI t, vI (n + 1), vI 0, vI (n + 1), .v (.slice none 0 0)]⟩, ⟨113, [vI t, vI (n + 1), vI 0, vI (n + 1), .v (.slice none 0 0)]⟩]⟩ [] [] (by kernel_rfl) on wn ?_
                  refine l_appendA (α := CSession) 113 56 A c (L) (.s 2 0 1 1) ([(⟨t, n + 1, 0, n + 1, Sl.nil⟩ : CSession)]) Try.underlying46 (by kernel_rfl) rfl rfl rfl (fun bs w hS => by obtain ⟨q1, q2, q3, q4⟩ := src_loc (i := 2) (off := 0) (k := 1) (c := 1) (q := 5) (vs := [.int .i64 t, .int .i64 (n + 1), .int .i64 0, .int .i64 (n + 1), .slice none 0 0]) hS rfl rfl; exact ⟨some q1, q2, q3, q4⟩) (by first | omega | (simp only [List.length_append, List.length_nil, List.length_cons]; omega)) (by first | omega | (simp only [List.length_append, List.length_nil, List.length_cons]; omega)) ?_
                  intro A8 c8
                  refine JL_run 1 [] [13, 7, 1] 1 ⟨[(13, .v (.slice A8 (L ++ [(⟨t, n + 1, 0, n + 1, Sl.nil⟩ : CSession)]).length c8)), (7, .p 0 0), (1, vI n)], [⟨26, [vI 0, vI 0, vS emp]⟩]⟩ [] [] (by kernel_rfl) on wn ?_
                  refine l_nil (q_then_normal ?_)
                  refine c_seq ?_
                  refine c_region ?_
                  refine JL_run 7 [] [8, 6, 7] 1 ⟨[(8, vI 0), (6, .v (.slice A8 (L ++ [(⟨t, n + 1, 0, n + 1, Sl.nil⟩ : CSession)]).length c8)), (7, .p 0 0)], [⟨26, [vI 0, vI (n + 1), vS emp]⟩]⟩ [inR (n + 1)] [] (by kernel_rfl) (oc (by unfold inR; omega) on) wn ?_
                  refine l_nil (q_then_normal ?_)
                  refine c_ret ?_
                  refine q_ret (.inl rfl) [.v (.slice A8 (L ++ [(⟨t, n + 1, 0, n + 1, Sl.nil⟩ : CSession)]).length c8), .v (.agg #[.int .i64 0, .int .i64 (n + 1), .string emp]), vI 0] rfl (fun bs w hS => ?_)
                  have hm1 : mSess (S1.map CSession.abs) n = 0 := by rw [hF1]; assumption
                  rw [← hF1]
                  have hvy : L ++ [(⟨t, n + 1, 0, n + 1, Sl.nil⟩ : CSession)] = mIns (fun x : CSession => decide (t < x.client)) (⟨t, n + 1, 0, n + 1, Sl.nil⟩ : CSession) S1 := (hI.fin0 (by assumption) (by omega))
                  have hvx := insS_map hvy
                  have hm : mJoin (S1.map CSession.abs) n t = (mIns (fun x : DSession => decide (t < x.client)) ⟨t, n + 1, 0, n + 1, []⟩ (S1.map CSession.abs), ⟨0, n + 1, emp⟩, 0) := by
                    unfold mJoin sIdx
                    simp only [hJ, sgetD, List.length_map]
                    repeat (first | rw [if_pos (by first | assumption | omega)] | rw [if_neg (by first | assumption | omega | (intro h0; first | exact absurd h0 (by assumption) | (simp_all; done)))])
                    all_goals rfl
                  refine ⟨⟨A8, c8, L ++ [(⟨t, n + 1, 0, n + 1, Sl.nil⟩ : CSession)]⟩, ?_, ?_, hS.outS (y := (⟨A8, c8, L ++ [(⟨t, n + 1, 0, n + 1, Sl.nil⟩ : CSession)]⟩ : Sl CSession)) (out_sessG (.head _) hS.res (fun x hx => ?_))⟩
                  · rw [hm] <;> rfl
                  · exact Eq.trans hvx (congrArg Prod.fst hm).symm
                  · rw [hvy] at hx
                    rcases ins_mem hx with hx | hx
                    · subst hx; exact Sl.rd_nil _ _
                    · exact own_in (.tail _ (.head _)) hS.res hnm1 hx
        | false =>
          have h4 := of_decide_eq_false h4
          exact absurd h1 h4
    | false =>
      simp only [inB, Bool.and_eq_true, Bool.and_eq_false_iff, decide_eq_true_eq, decide_eq_false_iff_not] at h2
      refine JL_run 4 [] [29, 9, 7, 0, 1, 2] 1 ⟨[(29, vB true), (9, vI (mSess (s.xs.map CSession.abs) n)), (7, .p 0 0), (0, .v (.slice s.A s.n s.c)), (1, vI n), (2, vI t)], [⟨26, [vI 0, vI 0, vS emp]⟩]⟩ [] [] (by kernel_rfl) on wn ?_
      refine l_nil (q_then_normal ?_)
      refine c_if true rfl ?_
      refine c_region ?_
      refine JL_run 1 [] [9, 7, 0, 1, 2] 1 ⟨[(9, vI 2), (7, .p 0 0), (0, .v (.slice s.A s.n s.c)), (1, vI n), (2, vI t)], [⟨26, [vI 0, vI 0, vS emp]⟩]⟩ [] [] (by kernel_rfl) on wn ?_
      refine l_nil (q_then_normal ?_)
      refine c_seq ?_
      refine c_seq ?_
      refine c_region ?_
      refine JL_run 2 [] [31, 9, 7, 0, 1, 2] 1 ⟨[(31, vB true), (9, vI 2), (7, .p 0 0), (0, .v (.slice s.A s.n s.c)), (1, vI n), (2, vI t)], [⟨26, [vI 0, vI 0, vS emp]⟩]⟩ [] [] (by kernel_rfl) on wn ?_
      refine l_nil (q_then_normal ?_)
      refine c_if true rfl ?_
      refine c_seq ?_
      refine c_region ?_
      refine JL_run 5 [] [8, 6, 7] 1 ⟨[(8, vI 2), (6, .v (.slice none 0 0)), (7, .p 0 0)], [⟨26, [vI 0, vI 0, vS emp]⟩]⟩ [] [] (by kernel_rfl) on wn ?_
      refine l_nil (q_then_normal ?_)
      refine c_ret ?_
      refine q_then_ret (q_ret (.inl rfl) [.v (.slice none 0 0), .v (.agg #[.int .i64 0, .int .i64 0, .string emp]), vI 2] rfl (fun bs w hS => ?_))
      have hm : mJoin (s.xs.map CSession.abs) n t = ([], zRep, 2) := by
        unfold mJoin sIdx
        repeat (first | rw [if_pos (by first | assumption | omega)] | rw [if_neg (by first | assumption | omega | (intro h0; first | exact absurd h0 (by assumption) | (simp_all; done)))])
        all_goals rfl
      refine ⟨Sl.nil, ?_, ?_, hS.outS (Sl.rd_nil _ _)⟩
      · rw [hm] <;> rfl
      · rw [hm] <;> rfl
  | false =>
    have h1 := of_decide_eq_false h1
    refine JL_run 8 [] [29, 9, 7, 0, 1, 2] 1 ⟨[(29, vB false), (9, vI (mSess (s.xs.map CSession.abs) n)), (7, .p 0 0), (0, .v (.slice s.A s.n s.c)), (1, vI n), (2, vI t)], [⟨26, [vI 0, vI 0, vS emp]⟩]⟩ [] [] (by kernel_rfl) on wn ?_
    refine l_nil (q_then_normal ?_)
    refine c_if false rfl ?_
    refine c_skip ?_
    refine q_then_normal ?_
    refine c_seq ?_
    refine c_seq ?_
    refine c_region ?_
    refine JL_run 2 [] [31, 9, 7, 0, 1, 2] 1 ⟨[(31, vB (!(decide (mSess (s.xs.map CSession.abs) n = 0)))), (9, vI (mSess (s.xs.map CSession.abs) n)), (7, .p 0 0), (0, .v (.slice s.A s.n s.c)), (1, vI n), (2, vI t)], [⟨26, [vI 0, vI 0, vS emp]⟩]⟩ [] [] (by kernel_rfl) on wn ?_
    refine l_nil (q_then_normal ?_)
    cases h11 : decide (mSess (s.xs.map CSession.abs) n = 0) with
    | true =>
      have h11 := of_decide_eq_true h11
      exact absurd h11 h1
    | false =>
      have h11 := of_decide_eq_false h11
      refine c_if true rfl ?_
      refine c_seq ?_
      refine c_region ?_
      refine JL_run 5 [] [8, 6, 7] 1 ⟨[(8, vI (mSess (s.xs.map CSession.abs) n)), (6, .v (.slice none 0 0)), (7, .p 0 0)], [⟨26, [vI 0, vI 0, vS emp]⟩]⟩ [] [] (by kernel_rfl) on wn ?_
      refine l_nil (q_then_normal ?_)
      refine c_ret ?_
      refine q_then_ret (q_ret (.inl rfl) [.v (.slice none 0 0), .v (.agg #[.int .i64 0, .int .i64 0, .string emp]), vI (mSess (s.xs.map CSession.abs) n)] rfl (fun bs w hS => ?_))
      have hm : mJoin (s.xs.map CSession.abs) n t = ([], zRep, mSess (s.xs.map CSession.abs) n) := by
        unfold mJoin sIdx
        repeat (first | rw [if_pos (by first | assumption | omega)] | rw [if_neg (by first | assumption | omega | (intro h0; first | exact absurd h0 (by assumption) | (simp_all; done)))])
        all_goals rfl
      refine ⟨Sl.nil, ?_, ?_, hS.outS (Sl.rd_nil _ _)⟩
      · rw [hm] <;> rfl
      · rw [hm] <;> rfl

theorem law_SessionJoins {B : Nat → Prop} (s : Sl CSession) (n t : Int) (w : World) (hs : s.rd B w) (hsm : Rds.small s) (ht : inR t) : Calls Try.prog 8 #[.slice s.A s.n s.c, .int .i64 n, .int .i64 t] w fun e w' => e = .returned (.bool true) ∧ Kp [] w w' := by
  have oks := Sl.rd.ok hs
  have ncs := Sl.ok.nc oks
  have hns : s.n = s.xs.length := rfl
  refine calls_J0 50 Try.func8 rfl rfl [.slice s.A s.n s.c, .int .i64 n, .int .i64 t] rfl ?_
  refine c_seq ?_
  refine c_region ?_
  refine JL_run 1 [] [0, 1, 2] 0 ⟨[(0, .v (.slice s.A s.n s.c)), (1, vI n), (2, vI t)], []⟩ [] [] (by kernel_rfl) on wn ?_
  refine l_nil (q_then_normal ?_)
  refine c_seq ?_
  refine c_region ?_
  refine JL_run 1 [] [14, 0, 1, 2] 0 ⟨[(14, .v (.slice s.A s.n s.c)), (0, .v (.slice s.A s.n s.c)), (1, vI n), (2, vI t)], []⟩ [] [] (by kernel_rfl) on wn ?_
  refine l_sub_call (σ := Sl CSession) 30 [] [.v (.slice s.A s.n s.c)] (fun y1 => .slice y1.A y1.n y1.c) (fun y1 => y1.xs.map CSession.abs = s.xs.map CSession.abs) Try.call30 rfl rfl rfl rfl (fun bs w hS => law_kept s w (Sl.rd.kp hs hS.kp) hsm) ?_
  rintro fp1 y1 hF1 hok1
  refine JL_run 1 [] [7, 0, 1, 2] 0 ⟨[(7, .v (.slice y1.A y1.n y1.c)), (0, .v (.slice s.A s.n s.c)), (1, vI n), (2, vI t)], []⟩ [] [] (by kernel_rfl) on wn ?_
  refine l_nil (q_then_normal ?_)
  refine c_seq ?_
  refine c_region ?_
  refine JL_run 3 [] [19, 18, 17, 7, 0, 1, 2] 0 ⟨[(19, vI t), (18, vI n), (17, .v (.slice y1.A y1.n y1.c)), (7, .v (.slice y1.A y1.n y1.c)), (0, .v (.slice s.A s.n s.c)), (1, vI n), (2, vI t)], []⟩ [] [] (by kernel_rfl) on wn ?_
  refine l_sub_call (σ := Sl CSession) 31 [] [.v (.slice y1.A y1.n y1.c), vI n, vI t] (fun y2 => .tuple #[.slice y2.A y2.n y2.c, .agg #[.int .i64 ((mJoin (y1.xs.map CSession.abs) n t).2.1).code, .int .i64 ((mJoin (y1.xs.map CSession.abs) n t).2.1).n, .string ((mJoin (y1.xs.map CSession.abs) n t).2.1).text], .int .i64 ((mJoin (y1.xs.map CSession.abs) n t).2.2)]) (fun y2 => y2.xs.map CSession.abs = (mJoin (y1.xs.map CSession.abs) n t).1) Try.call31 rfl rfl rfl rfl (fun bs w hS => session_Join y1 n t w (hS.res _ (.head _)) ht) ?_
  rintro fp2 y2 hF2 hok2
  refine JL_run 8 [] [10, 8, 9, 7, 0, 1, 2] 1 ⟨[(10, vI ((mJoin (y1.xs.map CSession.abs) n t).2.2)), (8, .v (.slice y2.A y2.n y2.c)), (9, .p 0 0), (7, .v (.slice y1.A y1.n y1.c)), (0, .v (.slice s.A s.n s.c)), (1, vI n), (2, vI t)], [⟨26, [vI ((mJoin (y1.xs.map CSession.abs) n t).2.1).code, vI ((mJoin (y1.xs.map CSession.abs) n t).2.1).n, vS ((mJoin (y1.xs.map CSession.abs) n t).2.1).text]⟩]⟩ [] [] (by kernel_rfl) on wn ?_
  refine l_nil (q_then_normal ?_)
  refine c_seq ?_
  refine c_region ?_
  refine JL_run 3 [] [27, 26, 25, 10, 8, 9, 7, 0] 1 ⟨[(27, vI t), (26, vI n), (25, .v (.slice s.A s.n s.c)), (10, vI ((mJoin (y1.xs.map CSession.abs) n t).2.2)), (8, .v (.slice y2.A y2.n y2.c)), (9, .p 0 0), (7, .v (.slice y1.A y1.n y1.c)), (0, .v (.slice s.A s.n s.c))], [⟨26, [vI ((mJoin (y1.xs.map CSession.abs) n t).2.1).code, vI ((mJoin (y1.xs.map CSession.abs) n t).2.1).n, vS ((mJoin (y1.xs.map CSession.abs) n t).2.1).text]⟩]⟩ [] [] (by kernel_rfl) on wn ?_
  refine l_sub_call (σ := Sl CSession) 32 [] [.v (.slice s.A s.n s.c), vI n, vI t] (fun y3 => .tuple #[.slice y3.A y3.n y3.c, .agg #[.int .i64 ((mJoin (s.xs.map CSession.abs) n t).2.1).code, .int .i64 ((mJoin (s.xs.map CSession.abs) n t).2.1).n, .string ((mJoin (s.xs.map CSession.abs) n t).2.1).text], .int .i64 ((mJoin (s.xs.map CSession.abs) n t).2.2)]) (fun y3 => y3.xs.map CSession.abs = (mJoin (s.xs.map CSession.abs) n t).1) Try.call32 rfl rfl rfl rfl (fun bs w hS => ref_JoinedOf s n t w (Sl.rd.kp hs hS.kp) ht) ?_
  rintro fp3 y3 hF3 hok3
  refine JL_run 8 [] [13, 11, 12, 10, 8, 9, 7, 0] 2 ⟨[(13, vI ((mJoin (s.xs.map CSession.abs) n t).2.2)), (11, .v (.slice y3.A y3.n y3.c)), (12, .p 1 0), (10, vI ((mJoin (y1.xs.map CSession.abs) n t).2.2)), (8, .v (.slice y2.A y2.n y2.c)), (9, .p 0 0), (7, .v (.slice y1.A y1.n y1.c)), (0, .v (.slice s.A s.n s.c))], [⟨26, [vI ((mJoin (y1.xs.map CSession.abs) n t).2.1).code, vI ((mJoin (y1.xs.map CSession.abs) n t).2.1).n, vS ((mJoin (y1.xs.map CSession.abs) n t).2.1).text]⟩, ⟨26, [vI ((mJoin (s.xs.map CSession.abs) n t).2.1).code, vI ((mJoin (s.xs.map CSession.abs) n t).2.1).n, vS ((mJoin (s.xs.map CSession.abs) n t).2.1).text]⟩]⟩ [] [] (by kernel_rfl) on wn ?_
  refine l_nil (q_then_normal ?_)
  refine c_seq ?_
  refine c_region ?_
  refine JL_run 4 [(2, .val (.bool ((decide (((mJoin (y1.xs.map CSession.abs) n t).2.1).code = ((mJoin (s.xs.map CSession.abs) n t).2.1).code)) && ((decide (((mJoin (y1.xs.map CSession.abs) n t).2.1).n = ((mJoin (s.xs.map CSession.abs) n t).2.1).n)) && ((decide (((mJoin (y1.xs.map CSession.abs) n t).2.1).text = ((mJoin (s.xs.map CSession.abs) n t).2.1).text)) && true)))))] [35, 13, 11, 10, 8, 7, 0] 0 ⟨[(35, vB ((decide (((mJoin (y1.xs.map CSession.abs) n t).2.1).code = ((mJoin (s.xs.map CSession.abs) n t).2.1).code)) && ((decide (((mJoin (y1.xs.map CSession.abs) n t).2.1).n = ((mJoin (s.xs.map CSession.abs) n t).2.1).n)) && ((decide (((mJoin (y1.xs.map CSession.abs) n t).2.1).text = ((mJoin (s.xs.map CSession.abs) n t).2.1).text)) && true)))), (13, vI ((mJoin (s.xs.map CSession.abs) n t).2.2)), (11, .v (.slice y3.A y3.n y3.c)), (10, vI ((mJoin (y1.xs.map CSession.abs) n t).2.2)), (8, .v (.slice y2.A y2.n y2.c)), (7, .v (.slice y1.A y1.n y1.c)), (0, .v (.slice s.A s.n s.c))], []⟩ [∀ w, (do eqGuard .eql 26 (.tmp 32) (.tmp 33) (.agg #[.int .i64 ((mJoin (y1.xs.map CSession.abs) n t).2.1).code, .int .i64 ((mJoin (y1.xs.map CSession.abs) n t).2.1).n, .string ((mJoin (y1.xs.map CSession.abs) n t).2.1).text]) (.agg #[.int .i64 ((mJoin (s.xs.map CSession.abs) n t).2.1).code, .int .i64 ((mJoin (s.xs.map CSession.abs) n t).2.1).n, .string ((mJoin (s.xs.map CSession.abs) n t).2.1).text]); binOp .eql 26 (.agg #[.int .i64 ((mJoin (y1.xs.map CSession.abs) n t).2.1).code, .int .i64 ((mJoin (y1.xs.map CSession.abs) n t).2.1).n, .string ((mJoin (y1.xs.map CSession.abs) n t).2.1).text]) (.agg #[.int .i64 ((mJoin (s.xs.map CSession.abs) n t).2.1).code, .int .i64 ((mJoin (s.xs.map CSession.abs) n t).2.1).n, .string ((mJoin (s.xs.map CSession.abs) n t).2.1).text]) : Sem Value).run Try.prog w = .ok (.bool ((decide (((mJoin (y1.xs.map CSession.abs) n t).2.1).code = ((mJoin (s.xs.map CSession.abs) n t).2.1).code)) && ((decide (((mJoin (y1.xs.map CSession.abs) n t).2.1).n = ((mJoin (s.xs.map CSession.abs) n t).2.1).n)) && ((decide (((mJoin (y1.xs.map CSession.abs) n t).2.1).text = ((mJoin (s.xs.map CSession.abs) n t).2.1).text)) && true)))) w] [] (by kernel_rfl) (oc (eq_agg (by kernel_rfl) (by kernel_rfl)) on) wn ?_
  cases h1 : (decide (((mJoin (y1.xs.map CSession.abs) n t).2.1).code = ((mJoin (s.xs.map CSession.abs) n t).2.1).code)) && ((decide (((mJoin (y1.xs.map CSession.abs) n t).2.1).n = ((mJoin (s.xs.map CSession.abs) n t).2.1).n)) && ((decide (((mJoin (y1.xs.map CSession.abs) n t).2.1).text = ((mJoin (s.xs.map CSession.abs) n t).2.1).text)) && true)) with
  | true =>
    refine JL_run 5 [] [40, 11, 8, 7, 0] 0 ⟨[(40, vB (decide ((mJoin (y1.xs.map CSession.abs) n t).2.2 = (mJoin (s.xs.map CSession.abs) n t).2.2))), (11, .v (.slice y3.A y3.n y3.c)), (8, .v (.slice y2.A y2.n y2.c)), (7, .v (.slice y1.A y1.n y1.c)), (0, .v (.slice s.A s.n s.c))], []⟩ [] [] (by kernel_rfl) on wn ?_
    cases h2 : decide ((mJoin (y1.xs.map CSession.abs) n t).2.2 = (mJoin (s.xs.map CSession.abs) n t).2.2) with
    | true =>
      have h2 := of_decide_eq_true h2
      refine JL_run 2 [] [42, 41, 40, 7, 0] 0 ⟨[(42, .v (.slice y3.A y3.n y3.c)), (41, .v (.slice y2.A y2.n y2.c)), (40, vB true), (7, .v (.slice y1.A y1.n y1.c)), (0, .v (.slice s.A s.n s.c))], []⟩ [] [] (by kernel_rfl) on wn ?_
      refine l_pure 33 [] [.v (.slice y2.A y2.n y2.c), .v (.slice y3.A y3.n y3.c)] (.bool true) Try.call33 rfl rfl rfl rfl (fun bs w hS => same_sessions _ _ w (hS.res _ (.tail _ (.head _))) (hS.res _ (.head _)) (by rw [hF2, hF3, hF1])) ?_
      refine JL_run 4 [] [47, 46, 45] 0 ⟨[(47, .v (.slice s.A s.n s.c)), (46, .v (.slice y1.A y1.n y1.c)), (45, vB true)], []⟩ [] [] (by kernel_rfl) on wn ?_
      refine l_pure 33 [] [.v (.slice y1.A y1.n y1.c), .v (.slice s.A s.n s.c)] (.bool true) Try.call33 rfl rfl rfl rfl (fun bs w hS => same_sessions _ _ w (hS.res _ (.tail _ (.tail _ (.head _)))) (Sl.rd.kp hs hS.kp) hF1) ?_
      refine JL_run 2 [] [6] 0 ⟨[(6, vB true)], []⟩ [] [] (by kernel_rfl) on wn ?_
      refine l_nil (q_then_normal ?_)
      refine c_ret ?_
      refine q_ret (.inl rfl) [vB true] rfl (fun bs w hS => ?_)
      refine ⟨?_, hS.kp⟩
      simp [retOf, den]
    | false =>
      have h2 := of_decide_eq_false h2
      exfalso; first | (simp at h2; done) | (rw [hF1] at h2; simp at h2; done)
  | false =>
    exfalso; first | (simp at h1; done) | (rw [hF1] at h1; simp at h1; done)

end Go.Proofs.Ytececkgjacccmad.W
