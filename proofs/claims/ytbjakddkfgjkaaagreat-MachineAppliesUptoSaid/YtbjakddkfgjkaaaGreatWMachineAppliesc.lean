/-
  The functions that the law MachineApplies reaches, walked: each returns what its model says.
  Conditions: those that each theorem states.
-/
import Derived.Test.YtbjakddkfgjkaaaGreatWMachineAppliesb
set_option linter.unusedVariables false
set_option linter.unusedSimpArgs false
set_option maxRecDepth 100000
set_option maxHeartbeats 2000000
namespace Go.Proofs.YtbjakddkfgjkaaaGreat.W
open Go.Proofs.YtbjakddkfgjkaaaGreat.Fw Go.RowKit
attribute [local irreducible] JM nx

theorem ref_KeptOf {B : Nat → Prop} (s : Sl CSession) (n t q : Int) (r : DReply) (w : World) (hs : s.rd B w) (ht : inR t) (hq : inR q) (hr : r.text.size ≤ 9223372036854775807) : Calls Tryz.prog 42 #[.slice s.A s.n s.c, .int .i64 n, .int .i64 t, .int .i64 q, .agg #[.int .i64 r.code, .int .i64 r.n, .string r.text]] w fun e w' => ∃ y : Sl CSession, e = .returned (.tuple #[.slice y.A y.n y.c, .int .i64 (mKeep (s.xs.map CSession.abs) n t q r).2]) ∧ y.xs.map CSession.abs = (mKeep (s.xs.map CSession.abs) n t q r).1 ∧ FreshS w w' y := by
 have oks := Sl.rd.ok hs
 have ncs := Sl.ok.nc oks
 have hns : s.n = s.xs.length := rfl
 have hml : (s.xs.map CSession.abs).length = s.n := by simp
 refine M0 Tryz.func42 (J := ?_)
 refine Mp Tryz.call92 (fun bs w hS => ref_SessionsFault s n w (Sl.rd.kp hs hS.kp)) (J := ?_)
 refine Mdn (mSess (s.xs.map CSession.abs) n = 0) (T := fun h1 => ?_) (F := fun h1 => ?_)
 rotate_left
 · refine Mt [.slice none 0 0, .int .i64 (mSess (s.xs.map CSession.abs) n)] fun bs w hS => ?_
   have hm : mKeep (s.xs.map CSession.abs) n t q r = ([], mSess (s.xs.map CSession.abs) n) := by
     unfold mKeep sIdx
     repeat (first | rw [if_pos (by first | assumption | omega)] | rw [if_neg (by first | assumption | omega | (intro h0; first | exact absurd h0 (by assumption) | (simp_all; done)))])
     all_goals rfl
   refine ⟨Sl.nil, ?_, ?_, hS.outS (Sl.rd_nil _ _)⟩
   · rw [hm] <;> rfl
   · rw [hm] <;> rfl
 obtain ⟨hi0, hi1, hln, hall⟩ := mSess_bd h1
 have hln2 : s.xs.length ≤ 4 := by simpa using hln
 refine Mf (σ := Sl CSession) (v := fun y1 => .slice y1.A y1.n y1.c) (F := fun y1 => y1.xs.map CSession.abs = s.xs.map CSession.abs) (r := fun y1 => sessR 118 141 y1) Tryz.call19 (fun bs w hS => ref_SessionsCopy s w (Sl.rd.kp hs hS.kp) (small_sess (by assumption))) (J := ?_)
 rintro y1 hF1
 refine m_split2 ?_
 obtain ⟨A1, c1, S1⟩ := y1
 have hF1 : S1.map CSession.abs = s.xs.map CSession.abs := hF1
 refine m_perm (R' := [ownL (keptR 141) S1, rowA 118 A1 c1 (S1 : List CSession)]) (List.Perm.refl _) ?_
 have hnm1 := sess_texts (y := (⟨A1, c1, S1⟩ : Sl CSession)) (hs) hF1
 have hlen1 : S1.length = s.xs.length := by simpa using congrArg List.length hF1
 refine m_know (F := ∀ i, i < S1.length → Rds.ok (S1.getD i default)) (fun bs w hS i hi => Rds.okof (B := anyB) (w := w) (own_elt (hS.res _ (.head _)) hnm1 (mem_of_getD hi))) fun okown1 => ?_
 refine m_know (F := RowOk A1 c1 (S1 : List CSession)) (fun bs w hS => rowA_rok (hS.res _ (.tail _ (.head _)))) fun hrow1 => ?_
 have nchrow1 := hrow1.2
 have hml1 : (S1.map CSession.abs).length = S1.length := by simp
 have hm1 : mSess (S1.map CSession.abs) n = 0 := by rw [hF1]; assumption
 refine Mp (v := .int .i64 (mIdx (fun x : CSession => decide (x.client = t)) S1)) Tryz.call98 (fun bs w hS => tackroomref_sessionAt (⟨A1, c1, S1⟩ : Sl CSession) t w (own_sess (hS.res _ (.head _)) (hS.res _ (.tail _ (.head _))) hnm1)) (J := ?_)
 have hJe : mIdx (fun x : CSession => decide (x.client = t)) S1 = mIdx (fun x : DSession => decide (x.client = t)) (S1.map CSession.abs) := mIdx_map CSession.abs (fun x : DSession => decide (x.client = t)) S1
 rw [hJe]
 have hJb := mIdx_bd (fun x : DSession => decide (x.client = t)) (S1.map CSession.abs)
 generalize hJ : mIdx (fun x : DSession => decide (x.client = t)) (S1.map CSession.abs) = J at hJb ⊢
 rw [List.length_map] at hJb
 refine Md (J < 0) (T := fun h2 => ?_) (F := fun h2 => ?_)
 · have h0J : ¬ 0 ≤ J := by omega
   refine Mt [.slice none 0 0, .int .i64 11] fun bs w hS => ?_
   rw [← hF1]
   have hm : mKeep (S1.map CSession.abs) n t q r = ([], 11) := by
     unfold mKeep sIdx
     simp only [hJ, sgetD, List.length_map]
     repeat (first | rw [if_pos (by first | assumption | omega)] | rw [if_neg (by first | assumption | omega | (intro h0; first | exact absurd h0 (by assumption) | (simp_all; done)))])
     all_goals rfl
   refine ⟨Sl.nil, ?_, ?_, hS.outS (Sl.rd_nil _ _)⟩
   · rw [hm] <;> rfl
   · rw [hm] <;> rfl
 have h0J : 0 ≤ J := by omega
 have hk5 := sess_all hm1 (k := J.toNat) (by omega)
 have hk6 : (S1.getD J.toNat default).replies.xs.length ≤ 4 := mReplies_len hk5.2.2.2.2
 have hk7 : (S1.getD J.toNat default).replies.n = (S1.getD J.toNat default).replies.xs.length := rfl
 refine m_rowA (α := DKept) 141 ?_
 refine Ml (σ := Nat × Bool × Option Addr × Nat × List DKept) (fun ⟨k, b, A, c, L⟩ => InsI (fun k : DKept => decide (q < k.seq)) (⟨q, r⟩ : DKept) (S1.getD J.toNat default).replies.xs k b L ∧ ∀ j, j < k → ¬ ((S1.getD J.toNat default).replies.xs.getD j default).seq = q) (fun ⟨k, b, A, c, L⟩ => (S1.getD J.toNat default).replies.xs.length - k) (fun ⟨k, b, A, c, L⟩ => [rowA 141 A c (L : List DKept), ownL (keptR 141) S1, rowA 118 A1 c1 (S1 : List CSession)]) [17, 16, 15, 14, 13, 9, 3] (fun ⟨k, b, A, c, L⟩ => [(17, vI (k : Int)), (16, vB b), (15, .v (.slice A L.length c))]) (fun _ => []) (⟨0, false, none, 0, []⟩) ⟨(show InsI (fun k : DKept => decide (q < k.seq)) (⟨q, r⟩ : DKept) (S1.getD J.toNat default).replies.xs 0 false [] from InsI.start _ _ _), fun j hj => absurd hj (Nat.not_lt_zero _)⟩ (B := ?_)
 rintro ⟨k, b, A, c, L⟩ ⟨hI, hX⟩ _ on1
 have hIl := hI.len
 have hIk := hI.le
 refine Mi (pc (pIo 35 J J.toNat S1.length (.tail _ (.tail _ (.head _)))) (pFo 37 J.toNat 4 1 (.tail _ (.tail _ (.head _))))) (J := ?_)
 refine Md ((k : Int) < (((S1.getD J.toNat default).replies.n : Nat) : Int)) (T := fun h3 => ?_) (F := fun h3 => ?_)
 · refine Mi (pc (pIo 44 J J.toNat S1.length (.tail _ (.tail _ (.head _)))) (pc (pFo 46 J.toNat 4 1 (.tail _ (.tail _ (.head _)))) (pA 48 49 (k : Int) k (s := (S1.getD J.toNat default).replies) (fun w hk hr => (own_elt (hr _ (.tail _ (.head _))) hnm1 (mem_of_getD (i := J.toNat) (by omega))))))) (J := ?_)
   refine Md (((S1.getD J.toNat default).replies.at k).seq = q) (T := fun h4 => ?_) (F := fun h4 => ?_)
   · refine Mt [.slice none 0 0, .int .i64 7] fun bs w hS => ?_
     clear on1
     rw [← hF1]
     have hx7 : 0 ≤ kIdx (S1.getD J.toNat default).replies.xs q := by have h9 := mIdx_nonneg (fun k : DKept => decide (k.seq = q)) (S1.getD J.toNat default).replies.xs; rw [List.any_eq_true.2 ⟨_, mem_of_getD (L := (S1.getD J.toNat default).replies.xs) (i := k) (by have h8 : (S1.getD J.toNat default).replies.n = (S1.getD J.toNat default).replies.xs.length := rfl; omega), decide_eq_true (by assumption)⟩] at h9; exact of_decide_eq_true h9
     have hm : mKeep (S1.map CSession.abs) n t q r = ([], 7) := by
       unfold mKeep sIdx
       simp only [hJ, sgetD, List.length_map]
       repeat (first | rw [if_pos (by first | assumption | omega)] | rw [if_neg (by first | assumption | omega | (intro h0; first | exact absurd h0 (by assumption) | (simp_all; done)))])
       all_goals rfl
     refine ⟨Sl.nil, ?_, ?_, hS.outS (Sl.rd_nil _ _)⟩
     · rw [hm] <;> rfl
     · rw [hm] <;> rfl
   refine Mbn (b) [(16, false)] (T := fun h5 => ?_) (F := fun h5 => ?_)
   · refine M1 (J := ?_)
     refine Mal (α := DKept) 40 ([(⟨((S1.getD J.toNat default).replies.at k).seq, ⟨((S1.getD J.toNat default).replies.at k).reply.code, ((S1.getD J.toNat default).replies.at k).reply.n, ((S1.getD J.toNat default).replies.at k).reply.text⟩⟩ : DKept)]) (h63 := (by first | omega | (simp only [List.length_append, List.length_nil, List.length_cons]; omega))) (hb := (by first | omega | (simp only [List.length_append, List.length_nil, List.length_cons]; omega))) (J := ?_)
     intro A3 c3
     refine Mi (pR ((k : Int) + 1)) (J := ?_)
     exact on1 (⟨k + 1, true, A3, c3, L ++ [(⟨((S1.getD J.toNat default).replies.at k).seq, ⟨((S1.getD J.toNat default).replies.at k).reply.code, ((S1.getD J.toNat default).replies.at k).reply.n, ((S1.getD J.toNat default).replies.at k).reply.text⟩⟩ : DKept)]⟩ : Nat × Bool × Option Addr × Nat × List DKept) ⟨(by first | exact hI.more (by assumption) (by omega) | exact hI.hit (by assumption) (by omega) (decide_eq_true (by assumption)) | exact hI.skip (by assumption) (by omega) (decide_eq_false (by assumption))), fun j hj => by rcases Nat.lt_succ_iff_lt_or_eq.1 hj with h | h; exact hX j h; subst h; assumption⟩ (by show (S1.getD J.toNat default).replies.xs.length - (k + 1) < (S1.getD J.toNat default).replies.xs.length - k; omega)
   refine Md (q < ((S1.getD J.toNat default).replies.at k).seq) (T := fun h6 => ?_) (F := fun h6 => ?_)
   rotate_left
   · refine M1 (J := ?_)
     refine Mal (α := DKept) 40 ([(⟨((S1.getD J.toNat default).replies.at k).seq, ⟨((S1.getD J.toNat default).replies.at k).reply.code, ((S1.getD J.toNat default).replies.at k).reply.n, ((S1.getD J.toNat default).replies.at k).reply.text⟩⟩ : DKept)]) (h63 := (by first | omega | (simp only [List.length_append, List.length_nil, List.length_cons]; omega))) (hb := (by first | omega | (simp only [List.length_append, List.length_nil, List.length_cons]; omega))) (J := ?_)
     intro A6 c6
     refine Mi (pR ((k : Int) + 1)) (J := ?_)
     exact on1 (⟨k + 1, false, A6, c6, L ++ [(⟨((S1.getD J.toNat default).replies.at k).seq, ⟨((S1.getD J.toNat default).replies.at k).reply.code, ((S1.getD J.toNat default).replies.at k).reply.n, ((S1.getD J.toNat default).replies.at k).reply.text⟩⟩ : DKept)]⟩ : Nat × Bool × Option Addr × Nat × List DKept) ⟨(by first | exact hI.more (by assumption) (by omega) | exact hI.hit (by assumption) (by omega) (decide_eq_true (by assumption)) | exact hI.skip (by assumption) (by omega) (decide_eq_false (by assumption))), fun j hj => by rcases Nat.lt_succ_iff_lt_or_eq.1 hj with h | h; exact hX j h; subst h; assumption⟩ (by show (S1.getD J.toNat default).replies.xs.length - (k + 1) < (S1.getD J.toNat default).replies.xs.length - k; omega)
   refine M1 (J := ?_)
   refine Mal (α := DKept) 40 ([(⟨q, ⟨r.code, r.n, r.text⟩⟩ : DKept)]) (h63 := (by first | omega | (simp only [List.length_append, List.length_nil, List.length_cons]; omega))) (hb := (by first | omega | (simp only [List.length_append, List.length_nil, List.length_cons]; omega))) (J := ?_)
   intro A4 c4
   refine M1 (J := ?_)
   refine Mal (α := DKept) 40 ([(⟨((S1.getD J.toNat default).replies.at k).seq, ⟨((S1.getD J.toNat default).replies.at k).reply.code, ((S1.getD J.toNat default).replies.at k).reply.n, ((S1.getD J.toNat default).replies.at k).reply.text⟩⟩ : DKept)]) (h63 := (by first | omega | (simp only [List.length_append, List.length_nil, List.length_cons]; omega))) (hb := (by first | omega | (simp only [List.length_append, List.length_nil, List.length_cons]; omega))) (J := ?_)
   intro A5 c5
   refine Mi (pR ((k : Int) + 1)) (J := ?_)
   exact on1 (⟨k + 1, true, A5, c5, L ++ [(⟨q, ⟨r.code, r.n, r.text⟩⟩ : DKept)] ++ [(⟨((S1.getD J.toNat default).replies.at k).seq, ⟨((S1.getD J.toNat default).replies.at k).reply.code, ((S1.getD J.toNat default).replies.at k).reply.n, ((S1.getD J.toNat default).replies.at k).reply.text⟩⟩ : DKept)]⟩ : Nat × Bool × Option Addr × Nat × List DKept) ⟨(by first | exact hI.more (by assumption) (by omega) | exact hI.hit (by assumption) (by omega) (decide_eq_true (by assumption)) | exact hI.skip (by assumption) (by omega) (decide_eq_false (by assumption))), fun j hj => by rcases Nat.lt_succ_iff_lt_or_eq.1 hj with h | h; exact hX j h; subst h; assumption⟩ (by show (S1.getD J.toNat default).replies.xs.length - (k + 1) < (S1.getD J.toNat default).replies.xs.length - k; omega)
 refine Mbn (b) (T := fun h7 => ?_) (F := fun h7 => ?_)
 · refine Mi (pIo 83 J J.toNat S1.length (.tail _ (.tail _ (.head _)))) (J := ?_)
   refine m_perm (R' := [rowA 118 A1 c1 (S1 : List CSession), rowA 141 A c (L : List DKept), ownL (keptR 141) S1]) (Pf 2 rfl) ?_
   refine Ms J.toNat 4 (⟨(S1.getD J.toNat default).client, (S1.getD J.toNat default).id, (S1.getD J.toNat default).acked, (S1.getD J.toNat default).last, ⟨A, c, L⟩⟩ : CSession) (by omega) (J := ?_)
   intro L7 hL7 hlL7
   have hgL7 : L7.getD J.toNat default = (⟨(S1.getD J.toNat default).client, (S1.getD J.toNat default).id, (S1.getD J.toNat default).acked, (S1.getD J.toNat default).last, ⟨A, c, L⟩⟩ : CSession) := by rw [hL7]; exact getD_set (by omega)
   have hbL7 : L7 = List.set S1 J.toNat (⟨(S1.getD J.toNat default).client, (S1.getD J.toNat default).id, (S1.getD J.toNat default).acked, (S1.getD J.toNat default).last, ⟨A, c, L⟩⟩ : CSession) := by rw [hL7]
   refine Mi (pc (pIo 87 J J.toNat S1.length (.head _)) (pEk 88 J.toNat hgL7 (.head _))) (J := ?_)
   have hvk : L = mIns (fun k : DKept => decide (q < k.seq)) ⟨q, r⟩ (S1.getD J.toNat default).replies.xs := (hI.fin1 (by assumption) (by omega))
   have hszk : ∀ z, z ∈ L → z.reply.text.size ≤ 9223372036854775807 := fun z hz => by rcases ins_mem (hvk ▸ hz) with hz | hz; subst hz; exact hr; exact hnm1 _ (mem_of_getD (L := S1) (i := J.toNat) (by omega)) z hz
   refine Mp (v := .bool (mReplies (⟨(S1.getD J.toNat default).client, (S1.getD J.toNat default).id, (S1.getD J.toNat default).acked, (S1.getD J.toNat default).last, L⟩ : DSession))) Tryz.call108 (fun bs w hS => ref_repliesMay (⟨(S1.getD J.toNat default).client, (S1.getD J.toNat default).id, (S1.getD J.toNat default).acked, (S1.getD J.toNat default).last, ⟨A, c, L⟩⟩ : CSession) w (Rr (B := anyB) (hS.res _ (.tail _ (.head _))) (fun _ _ => trivial) hszk) ⟨hk5.2.2.1, hk5.2.2.2.1⟩) (J := ?_)
   have hmr : mReplies (⟨(S1.getD J.toNat default).client, (S1.getD J.toNat default).id, (S1.getD J.toNat default).acked, (S1.getD J.toNat default).last, L⟩ : DSession) = mReplies (kIns (S1.getD J.toNat default).abs q r) := by rw [hvk]; rfl
   rw [hmr]
   refine Mbn (mReplies (kIns (S1.getD J.toNat default).abs q r)) (T := fun h8 => ?_) (F := fun h8 => ?_)
   rotate_left
   · refine Mt [.slice none 0 0, .int .i64 2] fun bs w hS => ?_
     clear on1
     rw [← hF1]
     have hkn : ¬ 0 ≤ kIdx (S1.getD J.toNat default).replies.xs q := by unfold kIdx; rw [mIdxL_none (L := (S1.getD J.toNat default).replies.xs) (p := fun k : DKept => decide (k.seq = q)) fun j hj => decide_eq_false (hX j (by omega))]; omega
     have hm : mKeep (S1.map CSession.abs) n t q r = ([], 2) := by
       unfold mKeep sIdx
       simp only [hJ, sgetD, List.length_map]
       repeat (first | rw [if_pos (by first | assumption | omega)] | rw [if_neg (by first | assumption | omega | (intro h0; first | exact absurd h0 (by assumption) | (simp_all; done)))])
       all_goals rfl
     refine ⟨Sl.nil, ?_, ?_, hS.outS (Sl.rd_nil _ _)⟩
     · rw [hm] <;> rfl
     · rw [hm] <;> rfl
   refine Mt [.slice A1 S1.length c1, .int .i64 0] fun bs w hS => ?_
   clear on1
   rw [← hF1]
   have hkn : ¬ 0 ≤ kIdx (S1.getD J.toNat default).replies.xs q := by unfold kIdx; rw [mIdxL_none (L := (S1.getD J.toNat default).replies.xs) (p := fun k : DKept => decide (k.seq = q)) fun j hj => decide_eq_false (hX j (by omega))]; omega
   have hvx := setS_map hbL7
   have hxe : ((⟨(S1.getD J.toNat default).client, (S1.getD J.toNat default).id, (S1.getD J.toNat default).acked, (S1.getD J.toNat default).last, ⟨A, c, L⟩⟩ : CSession)).abs = kIns (S1.getD J.toNat default).abs q r := by exact congrArg (fun l => (⟨(S1.getD J.toNat default).client, (S1.getD J.toNat default).id, (S1.getD J.toNat default).acked, (S1.getD J.toNat default).last, l⟩ : DSession)) hvk
   rw [hxe] at hvx
   have hm : mKeep (S1.map CSession.abs) n t q r = ((S1.map CSession.abs).set J.toNat (kIns (S1.getD J.toNat default).abs q r), 0) := by
     unfold mKeep sIdx
     simp only [hJ, sgetD, List.length_map]
     repeat (first | rw [if_pos (by first | assumption | omega)] | rw [if_neg (by first | assumption | omega | (intro h0; first | exact absurd h0 (by assumption) | (simp_all; done)))])
     all_goals rfl
   refine ⟨⟨A1, c1, L7⟩, ?_, ?_, hS.outS (y := (⟨A1, c1, L7⟩ : Sl CSession)) (out_sessG (.head _) hS.res (fun x hx => ?_))⟩
   · have hll : S1.length = L7.length := by rw [hbL7, List.length_set]
     rw [hm]
     exact congrArg (fun q => Ending.returned (.tuple #[.slice A1 q c1, .int .i64 0])) hll
   · exact Eq.trans hvx (congrArg Prod.fst hm).symm
   · rw [hbL7] at hx
     rcases mem_set hx with hx | hx
     · subst hx; exact allR_row (.tail _ (.head _)) (hS.res _ (.tail _ (.head _))) hszk
     · exact own_in (.tail _ (.tail _ (.head _))) hS.res hnm1 hx
 refine M1 (J := ?_)
 refine Mal (α := DKept) 40 ([(⟨q, ⟨r.code, r.n, r.text⟩⟩ : DKept)]) (h63 := (by first | omega | (simp only [List.length_append, List.length_nil, List.length_cons]; omega))) (hb := (by first | omega | (simp only [List.length_append, List.length_nil, List.length_cons]; omega))) (J := ?_)
 intro A8 c8
 refine Mi (pIo 83 J J.toNat S1.length (.tail _ (.tail _ (.head _)))) (J := ?_)
 refine m_perm (R' := [rowA 118 A1 c1 (S1 : List CSession), rowA 141 A8 c8 (L ++ [(⟨q, ⟨r.code, r.n, r.text⟩⟩ : DKept)] : List DKept), ownL (keptR 141) S1]) (Pf 2 rfl) ?_
 refine Ms J.toNat 4 (⟨(S1.getD J.toNat default).client, (S1.getD J.toNat default).id, (S1.getD J.toNat default).acked, (S1.getD J.toNat default).last, ⟨A8, c8, L ++ [(⟨q, ⟨r.code, r.n, r.text⟩⟩ : DKept)]⟩⟩ : CSession) (by omega) (J := ?_)
 intro L9 hL9 hlL9
 have hgL9 : L9.getD J.toNat default = (⟨(S1.getD J.toNat default).client, (S1.getD J.toNat default).id, (S1.getD J.toNat default).acked, (S1.getD J.toNat default).last, ⟨A8, c8, L ++ [(⟨q, ⟨r.code, r.n, r.text⟩⟩ : DKept)]⟩⟩ : CSession) := by rw [hL9]; exact getD_set (by omega)
 have hbL9 : L9 = List.set S1 J.toNat (⟨(S1.getD J.toNat default).client, (S1.getD J.toNat default).id, (S1.getD J.toNat default).acked, (S1.getD J.toNat default).last, ⟨A8, c8, L ++ [(⟨q, ⟨r.code, r.n, r.text⟩⟩ : DKept)]⟩⟩ : CSession) := by rw [hL9]
 refine Mi (pc (pIo 87 J J.toNat S1.length (.head _)) (pEk 88 J.toNat hgL9 (.head _))) (J := ?_)
 have hvk : L ++ [(⟨q, ⟨r.code, r.n, r.text⟩⟩ : DKept)] = mIns (fun k : DKept => decide (q < k.seq)) ⟨q, r⟩ (S1.getD J.toNat default).replies.xs := (hI.fin0 (by assumption) (by omega))
 have hszk : ∀ z, z ∈ L ++ [(⟨q, ⟨r.code, r.n, r.text⟩⟩ : DKept)] → z.reply.text.size ≤ 9223372036854775807 := fun z hz => by rcases ins_mem (hvk ▸ hz) with hz | hz; subst hz; exact hr; exact hnm1 _ (mem_of_getD (L := S1) (i := J.toNat) (by omega)) z hz
 refine Mp (v := .bool (mReplies (⟨(S1.getD J.toNat default).client, (S1.getD J.toNat default).id, (S1.getD J.toNat default).acked, (S1.getD J.toNat default).last, L ++ [(⟨q, ⟨r.code, r.n, r.text⟩⟩ : DKept)]⟩ : DSession))) Tryz.call108 (fun bs w hS => ref_repliesMay (⟨(S1.getD J.toNat default).client, (S1.getD J.toNat default).id, (S1.getD J.toNat default).acked, (S1.getD J.toNat default).last, ⟨A8, c8, L ++ [(⟨q, ⟨r.code, r.n, r.text⟩⟩ : DKept)]⟩⟩ : CSession) w (Rr (B := anyB) (hS.res _ (.tail _ (.head _))) (fun _ _ => trivial) hszk) ⟨hk5.2.2.1, hk5.2.2.2.1⟩) (J := ?_)
 have hmr : mReplies (⟨(S1.getD J.toNat default).client, (S1.getD J.toNat default).id, (S1.getD J.toNat default).acked, (S1.getD J.toNat default).last, L ++ [(⟨q, ⟨r.code, r.n, r.text⟩⟩ : DKept)]⟩ : DSession) = mReplies (kIns (S1.getD J.toNat default).abs q r) := by rw [hvk]; rfl
 rw [hmr]
 refine Mbn (mReplies (kIns (S1.getD J.toNat default).abs q r)) (T := fun h9 => ?_) (F := fun h9 => ?_)
 rotate_left
 · refine Mt [.slice none 0 0, .int .i64 2] fun bs w hS => ?_
   clear on1
   rw [← hF1]
   have hkn : ¬ 0 ≤ kIdx (S1.getD J.toNat default).replies.xs q := by unfold kIdx; rw [mIdxL_none (L := (S1.getD J.toNat default).replies.xs) (p := fun k : DKept => decide (k.seq = q)) fun j hj => decide_eq_false (hX j (by omega))]; omega
   have hm : mKeep (S1.map CSession.abs) n t q r = ([], 2) := by
     unfold mKeep sIdx
     simp only [hJ, sgetD, List.length_map]
     repeat (first | rw [if_pos (by first | assumption | omega)] | rw [if_neg (by first | assumption | omega | (intro h0; first | exact absurd h0 (by assumption) | (simp_all; done)))])
     all_goals rfl
   refine ⟨Sl.nil, ?_, ?_, hS.outS (Sl.rd_nil _ _)⟩
   · rw [hm] <;> rfl
   · rw [hm] <;> rfl
 refine Mt [.slice A1 S1.length c1, .int .i64 0] fun bs w hS => ?_
 clear on1
 rw [← hF1]
 have hkn : ¬ 0 ≤ kIdx (S1.getD J.toNat default).replies.xs q := by unfold kIdx; rw [mIdxL_none (L := (S1.getD J.toNat default).replies.xs) (p := fun k : DKept => decide (k.seq = q)) fun j hj => decide_eq_false (hX j (by omega))]; omega
 have hvx := setS_map hbL9
 have hxe : ((⟨(S1.getD J.toNat default).client, (S1.getD J.toNat default).id, (S1.getD J.toNat default).acked, (S1.getD J.toNat default).last, ⟨A8, c8, L ++ [(⟨q, ⟨r.code, r.n, r.text⟩⟩ : DKept)]⟩⟩ : CSession)).abs = kIns (S1.getD J.toNat default).abs q r := by exact congrArg (fun l => (⟨(S1.getD J.toNat default).client, (S1.getD J.toNat default).id, (S1.getD J.toNat default).acked, (S1.getD J.toNat default).last, l⟩ : DSession)) hvk
 rw [hxe] at hvx
 have hm : mKeep (S1.map CSession.abs) n t q r = ((S1.map CSession.abs).set J.toNat (kIns (S1.getD J.toNat default).abs q r), 0) := by
   unfold mKeep sIdx
   simp only [hJ, sgetD, List.length_map]
   repeat (first | rw [if_pos (by first | assumption | omega)] | rw [if_neg (by first | assumption | omega | (intro h0; first | exact absurd h0 (by assumption) | (simp_all; done)))])
   all_goals rfl
 refine ⟨⟨A1, c1, L9⟩, ?_, ?_, hS.outS (y := (⟨A1, c1, L9⟩ : Sl CSession)) (out_sessG (.head _) hS.res (fun x hx => ?_))⟩
 · have hll : S1.length = L9.length := by rw [hbL9, List.length_set]
   rw [hm]
   exact congrArg (fun q => Ending.returned (.tuple #[.slice A1 q c1, .int .i64 0])) hll
 · exact Eq.trans hvx (congrArg Prod.fst hm).symm
 · rw [hbL9] at hx
   rcases mem_set hx with hx | hx
   · subst hx; exact allR_row (.tail _ (.head _)) (hS.res _ (.tail _ (.head _))) hszk
   · exact own_in (.tail _ (.tail _ (.head _))) hS.res hnm1 hx

theorem lock_begin_1 (x : CLock) (t : ByteArray) (w : World) : Calls Tryz.prog 190 #[.agg #[.string x.name, .int .i64 x.holder, .int .i64 x.fence, .slice x.line.A x.line.n x.line.c], .string t] w fun e w' => e = .returned (.int .i64 (cmpS x.name t)) ∧ Kp [] w w' := by
 refine M0 Tryz.func190 (J := ?_)
 refine Mp Tryz.call147 (fun bs w hS => strings_Compare x.name t w) (J := ?_)
 exact Mt [.int .i64 (cmpS x.name t)] fun bs w hS => ⟨rfl, hS.kp⟩

theorem bs_lock_begin_1 {B : Nat → Prop} (s : Sl CLock) (t : ByteArray) (w : World) (hs : s.rd B w) (hn : s.n ≤ 1048576) : Calls Tryz.prog 145 #[.slice s.A s.n s.c, .string t, .func (.func 190) #[] #[]] w fun e w' => e = .returned (.tuple #[.int .i64 (mBS (fun x : CLock => cmpS x.name t) s.xs : Nat), .bool (mBSf (fun x : CLock => cmpS x.name t) s.xs)]) ∧ Kp [] w w' := by
 have oks := Sl.rd.ok hs
 have ncs := Sl.ok.nc oks
 have hns : s.n = s.xs.length := rfl
 refine Mj Tryz.func145 (WS.start w) (J := ?_)
 refine Ml (σ := Nat × Nat × Nat) (fun ⟨i, j, f⟩ => i ≤ j ∧ j ≤ s.n ∧ j - i ≤ f ∧ mBS (fun x : CLock => cmpS x.name t) s.xs = bsGo (fun j => decide (cmpS (s.at j).name t < 0)) f i j) (fun ⟨i, j, f⟩ => f) (fun _ => []) [10, 9, 8, 0, 1, 2] (fun ⟨i, j, f⟩ => [(10, vI (j : Int)), (9, vI (i : Int))]) (fun _ => []) (⟨0, s.n, s.n⟩) ⟨Nat.zero_le _, Nat.le_refl _, Nat.le_refl _, rfl⟩ (B := ?_)
 rintro ⟨i, j, f⟩ ⟨h1, h2, h3, hI⟩ _ on1
 have hdiv : ((i : Int) + (j : Int)) / 2 = (((i + j) / 2 : Nat) : Int) := by omega
 refine Md ((i : Int) < (j : Int)) (T := fun h1 => ?_) (F := fun h1 => ?_)
 rotate_left
 · refine Md ((i : Int) < (s.n : Int)) (T := fun h3 => ?_) (F := fun h3 => ?_)
   rotate_left
   · refine Mt [.int .i64 (i : Int), .bool false] fun bs w hS => ?_
     have hij : i = j := by omega
     subst hij
     have hr : mBS (fun x : CLock => cmpS x.name t) s.xs = i := by rw [hI]; exact bsGo_end _ _ _ _ (Nat.le_refl _)
     refine ⟨?_, hS.kp⟩
     have hr2 : mBSf (fun x : CLock => cmpS x.name t) s.xs = false := by
       unfold mBSf; rw [hr]
       rw [decide_eq_false (show ¬ i < s.xs.length by omega)]; rfl
     rw [hr, hr2]
     rfl
   refine Mi (pA 43 44 (i : Int) i (rdk hs)) (J := ?_)
   refine Mp Tryz.call190 (fun bs w hS => lock_begin_1 (s.at i) t w) (J := ?_)
   refine Mt [.int .i64 (i : Int), .bool (decide (cmpS (s.at i).name t = 0))] fun bs w hS => ?_
   have hij : i = j := by omega
   subst hij
   have hr : mBS (fun x : CLock => cmpS x.name t) s.xs = i := by rw [hI]; exact bsGo_end _ _ _ _ (Nat.le_refl _)
   refine ⟨?_, hS.kp⟩
   have hr2 : mBSf (fun x : CLock => cmpS x.name t) s.xs = (decide (cmpS (s.at i).name t = 0)) := by
     unfold mBSf; rw [hr]
     rw [decide_eq_true (show i < s.xs.length by omega)]; rfl
   rw [hr, hr2]
   rfl
 refine Mi (pc (pR ((i : Int) + (j : Int))) (pc (pG [(21, .val (.int .u64 ((i : Int) + (j : Int))))] (oc ((conv_i64_u64 Tryz.underlying3 Tryz.underlying203 (by omega) (by omega)) : ∀ w, (convert 3 203 (.int .i64 ((i : Int) + (j : Int))) : Sem Value).run Tryz.prog w = .ok (.int .u64 ((i : Int) + (j : Int))) w) on)) (pc (pG [(22, .val (.int .u64 (((i : Int) + (j : Int)) / 2)))] (oc (shr_u64 : ∀ w, (do eqGuard .shr 203 (.tmp 21) (.const (.int .u64 1)) (.int .u64 ((i : Int) + (j : Int))) (.int .u64 1); binOp .shr 203 (.int .u64 ((i : Int) + (j : Int))) (.int .u64 1) : Sem Value).run Tryz.prog w = .ok (.int .u64 (((i : Int) + (j : Int)) / 2)) w) on)) (pc (pG [(23, .val (.int .i64 (((i : Int) + (j : Int)) / 2)))] (oc ((conv_u64_i64 Tryz.underlying203 Tryz.underlying3 (by omega) (by omega)) : ∀ w, (convert 203 3 (.int .u64 (((i : Int) + (j : Int)) / 2)) : Sem Value).run Tryz.prog w = .ok (.int .i64 (((i : Int) + (j : Int)) / 2)) w) on)) (pA 27 28 (((i : Int) + (j : Int)) / 2) (((i : Int) + (j : Int)) / 2).toNat (rdk hs)))))) (J := ?_)
 refine Mp Tryz.call190 (fun bs w hS => lock_begin_1 (s.at (((i : Int) + (j : Int)) / 2).toNat) t w) (J := ?_)
 refine Md (cmpS (s.at (((i : Int) + (j : Int)) / 2).toNat).name t < 0) (T := fun h2 => ?_) (F := fun h2 => ?_)
 rotate_left
 · have hf1 : f = (f - 1) + 1 := by omega
   rw [hf1] at hI
   have hI2 := hI.trans (bsGo_down (by omega) (decide_eq_false (by assumption)))
   exact on1 (⟨i, (i + j) / 2, f - 1⟩ : Nat × Nat × Nat) ⟨by omega, by omega, by omega, hI2⟩ (by show f - 1 < f; omega)
 refine Mi (pR ((((i : Int) + (j : Int)) / 2) + 1)) (J := ?_)
 have hf1 : f = (f - 1) + 1 := by omega
 rw [hf1] at hI
 have hI2 := hI.trans (bsGo_up (by omega) (decide_eq_true (by assumption)))
 exact on1 (⟨(i + j) / 2 + 1, j, f - 1⟩ : Nat × Nat × Nat) ⟨by omega, by omega, by omega, hI2⟩ (by show f - 1 < f; omega)

theorem ref_asked {B : Nat → Prop} (s : Sl CLock) (t : ByteArray) (who : Int) (w : World) (hs : s.rd B w) (ht : t.size ≤ 9223372036854775807) : Calls Tryz.prog 101 #[.slice s.A s.n s.c, .string t, .int .i64 who] w fun e w' => e = .returned (.int .i64 (mAsk (s.xs.map CLock.abs) t who)) ∧ Kp [] w w' := by
 have oks := Sl.rd.ok hs
 have ncs := Sl.ok.nc oks
 have hns : s.n = s.xs.length := rfl
 refine M0 Tryz.func101 (J := ?_)
 refine Mp Tryz.call93 (fun bs w hS => ref_LocksFault s w (Sl.rd.kp hs hS.kp)) (J := ?_)
 refine Md (mLocks (s.xs.map CLock.abs) = 0) (T := fun h1 => ?_) (F := fun h1 => ?_)
 rotate_left
 · refine Md (mLocks (s.xs.map CLock.abs) = 0) (T := fun h5 => ?_) (F := fun h5 => ?_)
   · exact absurd h5 h1
   refine Mt [.int .i64 (mLocks (s.xs.map CLock.abs))] fun bs w hS => ?_
   refine ⟨?_, hS.kp⟩
   have hm : mAsk (s.xs.map CLock.abs) t who = mLocks (s.xs.map CLock.abs) := by
     unfold mAsk
     repeat (first | rw [if_pos (by first | assumption | omega)] | rw [if_neg (by first | assumption | omega | (simp_all; done))])
     try rfl
     try omega
   rw [hm] <;> rfl
 refine Mp (vs := fun bs => [.string t]) Tryz.call107 (fun bs w hS => ref_NameMay _ w (by first | assumption | omega | (simp only [emp_size]; omega))) (J := ?_)
 refine Mbn (mName t) (T := fun h2 => ?_) (F := fun h2 => ?_)
 rotate_left
 · refine Mq 19 false rfl (J := ?_)
   refine Mt [.int .i64 4] fun bs w hS => ?_
   refine ⟨?_, hS.kp⟩
   have hm : mAsk (s.xs.map CLock.abs) t who = 4 := by
     unfold mAsk
     repeat (first | rw [if_pos (by first | assumption | omega)] | rw [if_neg (by first | assumption | omega | (simp_all; done))])
     try rfl
     try omega
   rw [hm] <;> rfl
 refine Md (mLocks (s.xs.map CLock.abs) = 0) (T := fun h3 => ?_) (F := fun h3 => ?_)
 rotate_left
 · exact absurd h1 h3
 refine Mp Tryz.call51 (fun bs w hS => ref_In who 1 9 w) (J := ?_)
 refine Mbn (inB who 1 9) (T := fun h4 => ?_) (F := fun h4 => ?_)
 rotate_left
 · simp only [inB, Bool.and_eq_true, Bool.and_eq_false_iff, decide_eq_true_eq, decide_eq_false_iff_not] at h4
   refine Mt [.int .i64 2] fun bs w hS => ?_
   refine ⟨?_, hS.kp⟩
   have hm : mAsk (s.xs.map CLock.abs) t who = 2 := by
     unfold mAsk
     repeat (first | rw [if_pos (by first | assumption | omega)] | rw [if_neg (by first | assumption | omega | (simp_all; done))])
     try rfl
     try omega
   rw [hm] <;> rfl
 simp only [inB, Bool.and_eq_true, Bool.and_eq_false_iff, decide_eq_true_eq, decide_eq_false_iff_not] at h4
 refine Mt [.int .i64 (mLocks (s.xs.map CLock.abs))] fun bs w hS => ?_
 refine ⟨?_, hS.kp⟩
 have hm : mAsk (s.xs.map CLock.abs) t who = mLocks (s.xs.map CLock.abs) := by
   unfold mAsk
   repeat (first | rw [if_pos (by first | assumption | omega)] | rw [if_neg (by first | assumption | omega | (simp_all; done))])
   try rfl
   try omega
 rw [hm] <;> rfl

theorem lock_begin {B : Nat → Prop} (s : Sl CLock) (t : ByteArray) (who : Int) (w : World) (hs : s.rd B w) (ht : t.size ≤ 9223372036854775807) : Calls Tryz.prog 148 #[.slice s.A s.n s.c, .string t, .int .i64 who] w fun e w' => (¬ mAsk (s.xs.map CLock.abs) t who = 0 ∧ e = .returned (.tuple #[.slice none 0 0, .int .i64 0, .bool false, .int .i64 (mAsk (s.xs.map CLock.abs) t who)]) ∧ Kp [] w w') ∨ (mAsk (s.xs.map CLock.abs) t who = 0 ∧ ∃ y : Sl CLock, e = .returned (.tuple #[.slice y.A y.n y.c, .int .i64 ((mBS (fun x : CLock => cmpS x.name t) s.xs : Nat) : Int), .bool (mBSf (fun x : CLock => cmpS x.name t) s.xs), .int .i64 0]) ∧ y.xs.map CLock.abs = s.xs.map CLock.abs ∧ Kp [] w w' ∧ Fresh w w' (locksR 115 3 y)) := by
 have oks := Sl.rd.ok hs
 have ncs := Sl.ok.nc oks
 have hns : s.n = s.xs.length := rfl
 refine M0 Tryz.func148 (J := ?_)
 refine Mp Tryz.call64 (fun bs w hS => lock_Check s w (Sl.rd.kp hs hS.kp)) (J := ?_)
 refine Mdn (mLocks (s.xs.map CLock.abs) = 0) (T := fun h1 => ?_) (F := fun h1 => ?_)
 rotate_left
 · refine Mt [.slice none 0 0, .int .i64 0, .bool false, .int .i64 (mLocks (s.xs.map CLock.abs))] fun bs w hS => ?_
   have hm : mAsk (s.xs.map CLock.abs) t who = mLocks (s.xs.map CLock.abs) := by
     unfold mAsk
     repeat (first | rw [if_pos (by first | assumption | omega)] | rw [if_neg (by first | assumption | omega | (simp_all; done))])
     try rfl
     try omega
   refine .inl ⟨?_, ?_, hS.kp⟩
   · rw [hm]; first | assumption | omega
   · rw [hm] <;> rfl
 have hln := (mLocks_bd h1).1
 have hln2 : s.xs.length ≤ 5 := by simpa using hln
 refine Mp (vs := fun bs => [.string t]) Tryz.call129 (fun bs w hS => lock_Name _ w (by first | assumption | omega | (simp only [emp_size]; omega))) (J := ?_)
 refine Mbn (mName t) (T := fun h2 => ?_) (F := fun h2 => ?_)
 rotate_left
 · refine Mt [.slice none 0 0, .int .i64 0, .bool false, .int .i64 4] fun bs w hS => ?_
   have hm : mAsk (s.xs.map CLock.abs) t who = 4 := by
     unfold mAsk
     repeat (first | rw [if_pos (by first | assumption | omega)] | rw [if_neg (by first | assumption | omega | (simp_all; done))])
     try rfl
     try omega
   refine .inl ⟨?_, ?_, hS.kp⟩
   · rw [hm]; first | assumption | omega
   · rw [hm] <;> rfl
 refine Mp Tryz.call130 (fun bs w hS => lock_client who w) (J := ?_)
 refine Mbn (inB who 1 9) (T := fun h3 => ?_) (F := fun h3 => ?_)
 rotate_left
 · simp only [inB, Bool.and_eq_true, Bool.and_eq_false_iff, decide_eq_true_eq, decide_eq_false_iff_not] at h3
   refine Mt [.slice none 0 0, .int .i64 0, .bool false, .int .i64 2] fun bs w hS => ?_
   have hm : mAsk (s.xs.map CLock.abs) t who = 2 := by
     unfold mAsk
     repeat (first | rw [if_pos (by first | assumption | omega)] | rw [if_neg (by first | assumption | omega | (simp_all; done))])
     try rfl
     try omega
   refine .inl ⟨?_, ?_, hS.kp⟩
   · rw [hm]; first | assumption | omega
   · rw [hm] <;> rfl
 simp only [inB, Bool.and_eq_true, Bool.and_eq_false_iff, decide_eq_true_eq, decide_eq_false_iff_not] at h3
 refine Mp Tryz.call145 (fun bs w hS => bs_lock_begin_1 s t w (Sl.rd.kp hs hS.kp) (show s.xs.length ≤ 1048576 by omega)) (J := ?_)
 refine Mf (σ := Sl CLock) (v := fun y1 => .slice y1.A y1.n y1.c) (F := fun y1 => y1.xs.map CLock.abs = s.xs.map CLock.abs) (r := fun y1 => locksR 115 3 y1) Tryz.call68 (fun bs w hS => lock_Copy s w (Sl.rd.kp hs hS.kp) (small_locks (by assumption))) (J := ?_)
 rintro y1 hF1
 refine Mt [.slice y1.A y1.n y1.c, .int .i64 ((mBS (fun x : CLock => cmpS x.name t) s.xs : Nat) : Int), .bool (mBSf (fun x : CLock => cmpS x.name t) s.xs), .int .i64 0] fun bs w hS => ?_
 have hm : mAsk (s.xs.map CLock.abs) t who = 0 := by
   unfold mAsk
   repeat (first | rw [if_pos (by first | assumption | omega)] | rw [if_neg (by first | assumption | omega | (simp_all; done))])
   try rfl
   try omega
 exact .inr ⟨hm, y1, rfl, hF1, hS.kp, hS.out1⟩

theorem ref_withLock {B : Nat → Prop} (s : Sl CLock) (x : CLock) (w : World) (hs : s.rd B w) (hb : s.n ≤ 1048575) : Calls Tryz.prog 102 #[.slice s.A s.n s.c, .agg #[.string x.name, .int .i64 x.holder, .int .i64 x.fence, .slice x.line.A x.line.n x.line.c]] w fun e w' => ∃ y : Sl CLock, e = .returned y.val ∧ y.xs = mIns (fun z : CLock => Op.bytesLess x.name.toList z.name.toList) x s.xs ∧ Kp [] w w' ∧ Fresh w w' (rowA 115 y.A y.c y.xs) := by
 have oks := Sl.rd.ok hs
 have ncs := Sl.ok.nc oks
 have hns : s.n = s.xs.length := rfl
 refine M0 Tryz.func102 (J := ?_)
 refine m_rowA (α := CLock) 115 ?_
 refine Ml (σ := Nat × Bool × Option Addr × Nat × List CLock) (fun ⟨k, b, A, c, L⟩ => InsI (fun z : CLock => Op.bytesLess x.name.toList z.name.toList) x s.xs k b L) (fun ⟨k, b, A, c, L⟩ => s.xs.length - k) (fun ⟨k, b, A, c, L⟩ => [rowA 115 A c (L : List CLock)]) [7, 6, 5, 3, 0] (fun ⟨k, b, A, c, L⟩ => [(7, vI (k : Int)), (6, vB b), (5, .v (.slice A L.length c))]) (fun _ => []) (⟨0, false, none, 0, []⟩) (show InsI (fun z : CLock => Op.bytesLess x.name.toList z.name.toList) x s.xs 0 false [] from InsI.start _ _ _) (B := ?_)
 rintro ⟨k, b, A, c, L⟩ hI _ on1
 have hIl := hI.len
 have hIk := hI.le
 refine Md ((k : Int) < (s.n : Int)) (T := fun h1 => ?_) (F := fun h1 => ?_)
 rotate_left
 · refine Mbn (b) (T := fun h4 => ?_) (F := fun h4 => ?_)
   · exact Mt [.slice A L.length c] fun bs w hS => ⟨⟨A, c, L⟩, rfl, (hI.fin1 (by assumption) (by omega)), hS.kp, hS.out1⟩
   refine M1 (J := ?_)
   refine Mal (α := CLock) 56 ([(⟨x.name, x.holder, x.fence, x.line⟩ : CLock)]) (h63 := (by first | omega | (simp only [List.length_append, List.length_nil, List.length_cons]; omega))) (hb := (by first | omega | (simp only [List.length_append, List.length_nil, List.length_cons]; omega))) (J := ?_)
   intro A5 c5
   exact Mt [.slice A5 (L ++ [(⟨x.name, x.holder, x.fence, x.line⟩ : CLock)]).length c5] fun bs w hS => ⟨⟨A5, c5, L ++ [(⟨x.name, x.holder, x.fence, x.line⟩ : CLock)]⟩, rfl, (hI.fin0 (by assumption) (by omega)), hS.kp, hS.out1⟩
 refine Mda 12 [] [] [rowA 115 A c (L : List CLock)] Tryz_mixed (J := ?_)
 refine Mbn (b) [(6, false)] (T := fun h2 => ?_) (F := fun h2 => ?_)
 · refine Mz (J := ?_)
   refine Mi (pA 33 34 (k : Int) k (rdk hs)) (J := ?_)
   refine M1 (J := ?_)
   refine Mal (α := CLock) 56 ([(⟨(s.at k).name, (s.at k).holder, (s.at k).fence, (s.at k).line⟩ : CLock)]) (h63 := (by first | omega | (simp only [List.length_append, List.length_nil, List.length_cons]; omega))) (hb := (by first | omega | (simp only [List.length_append, List.length_nil, List.length_cons]; omega))) (J := ?_)
   intro A1 c1
   refine Mi (pR ((k : Int) + 1)) (J := ?_)
   exact on1 (⟨k + 1, true, A1, c1, L ++ [(⟨(s.at k).name, (s.at k).holder, (s.at k).fence, (s.at k).line⟩ : CLock)]⟩ : Nat × Bool × Option Addr × Nat × List CLock) (by first | exact hI.more (by assumption) (by omega) | exact hI.hit (by assumption) (by omega) (by assumption) | exact hI.skip (by assumption) (by omega) (by assumption)) (by show s.xs.length - (k + 1) < s.xs.length - k; omega)
 refine Mih (pc (pI 19 (k : Int) k (rdk hs)) (pF 21 k 0 1 (rdk hs))) (J := ?_)
 refine Mz (J := ?_)
 refine Mbn (Op.bytesLess ((s.at k).name).toList (x.name).toList || decide ((s.at k).name = x.name)) (T := fun h3 => ?_) (F := fun h3 => ?_)
 · rw [bytes_total] at h3
   simp only [Bool.not_eq_true', Bool.not_eq_false', Bool.not_eq_true, Bool.not_eq_false] at h3
   refine Mi (pA 33 34 (k : Int) k (rdk hs)) (J := ?_)
   refine M1 (J := ?_)
   refine Mal (α := CLock) 56 ([(⟨(s.at k).name, (s.at k).holder, (s.at k).fence, (s.at k).line⟩ : CLock)]) (h63 := (by first | omega | (simp only [List.length_append, List.length_nil, List.length_cons]; omega))) (hb := (by first | omega | (simp only [List.length_append, List.length_nil, List.length_cons]; omega))) (J := ?_)
   intro A2 c2
   refine Mi (pR ((k : Int) + 1)) (J := ?_)
   exact on1 (⟨k + 1, false, A2, c2, L ++ [(⟨(s.at k).name, (s.at k).holder, (s.at k).fence, (s.at k).line⟩ : CLock)]⟩ : Nat × Bool × Option Addr × Nat × List CLock) (by first | exact hI.more (by assumption) (by omega) | exact hI.hit (by assumption) (by omega) (by assumption) | exact hI.skip (by assumption) (by omega) (by assumption)) (by show s.xs.length - (k + 1) < s.xs.length - k; omega)
 rw [bytes_total] at h3
 simp only [Bool.not_eq_true', Bool.not_eq_false', Bool.not_eq_true, Bool.not_eq_false] at h3
 refine M1 (J := ?_)
 refine Mal (α := CLock) 56 ([(⟨x.name, x.holder, x.fence, x.line⟩ : CLock)]) (h63 := (by first | omega | (simp only [List.length_append, List.length_nil, List.length_cons]; omega))) (hb := (by first | omega | (simp only [List.length_append, List.length_nil, List.length_cons]; omega))) (J := ?_)
 intro A3 c3
 refine Mi (pA 33 34 (k : Int) k (rdk hs)) (J := ?_)
 refine M1 (J := ?_)
 refine Mal (α := CLock) 56 ([(⟨(s.at k).name, (s.at k).holder, (s.at k).fence, (s.at k).line⟩ : CLock)]) (h63 := (by first | omega | (simp only [List.length_append, List.length_nil, List.length_cons]; omega))) (hb := (by first | omega | (simp only [List.length_append, List.length_nil, List.length_cons]; omega))) (J := ?_)
 intro A4 c4
 refine Mi (pR ((k : Int) + 1)) (J := ?_)
 exact on1 (⟨k + 1, true, A4, c4, L ++ [(⟨x.name, x.holder, x.fence, x.line⟩ : CLock)] ++ [(⟨(s.at k).name, (s.at k).holder, (s.at k).fence, (s.at k).line⟩ : CLock)]⟩ : Nat × Bool × Option Addr × Nat × List CLock) (by first | exact hI.more (by assumption) (by omega) | exact hI.hit (by assumption) (by omega) (by assumption) | exact hI.skip (by assumption) (by omega) (by assumption)) (by show s.xs.length - (k + 1) < s.xs.length - k; omega)

theorem lock_Take {B : Nat → Prop} (s : Sl CLock) (t : ByteArray) (who : Int) (wait : Bool) (w : World) (hs : s.rd B w) (ht : t.size ≤ 9223372036854775807) : Calls Tryz.prog 84 #[.slice s.A s.n s.c, .string t, .int .i64 who, .bool wait] w fun e w' => ∃ y : Sl CLock, e = .returned (.tuple #[.slice y.A y.n y.c, .agg #[.int .i64 ((mTake (s.xs.map CLock.abs) t who wait).2.1).code, .int .i64 ((mTake (s.xs.map CLock.abs) t who wait).2.1).n, .string ((mTake (s.xs.map CLock.abs) t who wait).2.1).text], .int .i64 (mTake (s.xs.map CLock.abs) t who wait).2.2]) ∧ y.xs.map CLock.abs = (mTake (s.xs.map CLock.abs) t who wait).1 ∧ FreshS w w' y := by
 have oks := Sl.rd.ok hs
 have ncs := Sl.ok.nc oks
 have hns : s.n = s.xs.length := rfl
 refine M0 Tryz.func84 (J := ?_)
 by_cases h1 : mAsk (s.xs.map CLock.abs) t who = 0
 rotate_left
 · refine Mp (v := .tuple #[.slice none 0 0, .int .i64 0, .bool false, .int .i64 (mAsk (s.xs.map CLock.abs) t who)]) Tryz.call148 (fun bs w hS => (lock_begin s t who w (Sl.rd.kp hs hS.kp) (by first | assumption | omega | (simp only [emp_size]; omega))).mono (fun e w' h => (h.resolve_right (fun h9 => h1 h9.1)).2)) (J := ?_)
   refine Mdn (mAsk (s.xs.map CLock.abs) t who = 0) (T := fun h12 => ?_) (F := fun h12 => ?_)
   · exact absurd h12 h1
   refine Mt [.slice none 0 0, .agg #[.int .i64 0, .int .i64 0, .string emp], .int .i64 (mAsk (s.xs.map CLock.abs) t who)] fun bs w hS => ?_
   have hm : mTake (s.xs.map CLock.abs) t who wait = ([], zRep, mAsk (s.xs.map CLock.abs) t who) := by
     unfold mTake
     repeat (first | rw [if_pos (by first | assumption | omega)] | rw [if_neg (by first | assumption | omega | (intro h0; first | exact absurd h0 (by assumption) | (simp_all; done)))])
     all_goals rfl
   refine ⟨Sl.nil, ?_, ?_, hS.outS (Sl.rd_nil _ _)⟩
   · rw [hm] <;> rfl
   · rw [hm] <;> rfl
 refine Mf (σ := Sl CLock) (v := fun y1 => .tuple #[.slice y1.A y1.n y1.c, .int .i64 ((mBS (fun x : CLock => cmpS x.name t) s.xs : Nat) : Int), .bool (mBSf (fun x : CLock => cmpS x.name t) s.xs), .int .i64 0]) (F := fun y1 => y1.xs.map CLock.abs = s.xs.map CLock.abs) (r := fun y1 => locksR 115 3 y1) Tryz.call148 (fun bs w hS => (lock_begin s t who w (Sl.rd.kp hs hS.kp) (by first | assumption | omega | (simp only [emp_size]; omega))).mono (fun e w' h => (h.resolve_left (fun h9 => h9.1 h1)).2)) (J := ?_)
 rintro y1 hF1
 refine m_split2 ?_
 obtain ⟨A1, c1, S1⟩ := y1
 have hF1 : S1.map CLock.abs = s.xs.map CLock.abs := hF1
 refine m_perm (R' := [ownL (lineR 3) S1, rowA 115 A1 c1 (S1 : List CLock)]) (List.Perm.refl _) ?_
 have hnm1 := locks_names (y := (⟨A1, c1, S1⟩ : Sl CLock)) hs hF1
 have hlen1 : S1.length = s.xs.length := by simpa using congrArg List.length hF1
 refine m_know (F := ∀ i, i < S1.length → Rds.ok (S1.getD i default)) (fun bs w hS i hi => Rds.okof (B := anyB) (w := w) (own_eltL (hS.res _ (.head _)) hnm1 (mem_of_getD hi))) fun okown1 => ?_
 refine m_know (F := RowOk A1 c1 (S1 : List CLock)) (fun bs w hS => rowA_rok (hS.res _ (.tail _ (.head _)))) fun hrow1 => ?_
 have nchrow1 := hrow1.2
 have hask := mAsk_ok h1
 have hm1 : mLocks (S1.map CLock.abs) = 0 := by rw [hF1]; exact hask.1
 have hw1 := hask.2.2.1
 have hw2 := hask.2.2.2
 have hln5 : S1.length ≤ 5 := by have h9 := (mLocks_bd hm1).1; simpa using h9
 have hbsS : mBS (fun x : CLock => cmpS x.name t) s.xs = mBS (fun x : CLock => cmpS x.name t) S1 := mBS_abs (L := s.xs) (L2 := S1) (f := CLock.abs) (c := fun x : DLock => cmpS x.name t) rfl hF1.symm
 have hbfS : mBSf (fun x : CLock => cmpS x.name t) s.xs = mBSf (fun x : CLock => cmpS x.name t) S1 := mBSf_abs (L := s.xs) (L2 := S1) (f := CLock.abs) (c := fun x : DLock => cmpS x.name t) rfl hF1.symm
 rw [hbsS, hbfS]
 have hbs := bsf_lock (L := S1) hm1 t
 have hJb := mIdx_bd (fun x : DLock => decide (x.name = t)) (S1.map CLock.abs)
 rw [List.length_map] at hJb
 generalize hJ : mIdx (fun x : DLock => decide (x.name = t)) (S1.map CLock.abs) = J at hbs hJb
 have hkl := mBS_le (fun x : CLock => cmpS x.name t) S1
 generalize hk : mBS (fun x : CLock => cmpS x.name t) S1 = k at hbs hkl ⊢
 generalize hf : mBSf (fun x : CLock => cmpS x.name t) S1 = fb at hbs ⊢
 refine Mq 24 false rfl (J := ?_)
 refine Mbn (fb) [(12, false)] (T := fun h2 => ?_) (F := fun h2 => ?_)
 rotate_left
 · have h0J := of_decide_eq_false (hbs.1.symm.trans h2)
   refine Md ((S1.length : Int) = 5) (T := fun h11 => ?_) (F := fun h11 => ?_)
   · refine Mt [.slice A1 S1.length c1, .agg #[.int .i64 8, .int .i64 0, .string emp], .int .i64 0] fun bs w hS => ?_
     have hask0 : mAsk (S1.map CLock.abs) t who = 0 := by rw [hF1]; assumption
     rw [← hF1]
     have hq1 : (S1.getD k default).abs.holder = (S1.getD k default).holder := rfl
     have hq2 : (S1.getD k default).abs.fence = (S1.getD k default).fence := rfl
     have hq3 : (S1.getD k default).abs.line = (S1.getD k default).line.xs := rfl
     have hq4 : (S1.getD k default).abs.name = (S1.getD k default).name := rfl
     have hm : mTake (S1.map CLock.abs) t who wait = (S1.map CLock.abs, ⟨8, 0, emp⟩, 0) := by
       unfold mTake lIdx
       simp only [hJ, Int.toNat_natCast, lgetD, List.length_map]
       repeat (first | rw [if_pos (by first | assumption | omega)] | rw [if_neg (by first | assumption | omega | (intro h0; first | exact absurd h0 (by assumption) | (simp_all; done)))])
       all_goals rfl
     refine ⟨⟨A1, c1, S1⟩, ?_, ?_, hS.outS (y := (⟨A1, c1, S1⟩ : Sl CLock)) (out_locksG (.tail _ (.head _)) hS.res (fun x hx => ?_))⟩
     · rw [hm] <;> rfl
     · exact (congrArg Prod.fst hm).symm
     · exact ⟨hnm1 x hx, own_inL (.head _) hS.res hx⟩
   refine M1 (J := ?_)
   refine m_perm (R' := [rowA 115 A1 c1 (S1 : List CLock), ownL (lineR 3) S1]) (Pf 1 rfl) ?_
   refine Mtu (σ := Option Addr × Nat) (v := fun q7 => .slice q7.1 (S1.take k ++ [(⟨t, who, 1, Sl.nil⟩ : CLock)] ++ S1.drop k).length q7.2) (F := fun q7 => True) (r := fun q7 => rowA 115 q7.1 q7.2 (S1.take k ++ [(⟨t, who, 1, Sl.nil⟩ : CLock)] ++ S1.drop k : List CLock)) (vs := fun bs => [.slice A1 S1.length c1, .int .i64 (k : Int), .slice (some (adr bs 1 0)) 1 1]) Tryz.call149 (fun bs w hS => (insR_Lock A1 c1 S1 k _ (⟨t, who, 1, Sl.nil⟩ : CLock) (bs.getD 1 0) 115 w (hS.res _ (.head _)) hS.head1.2.2 rfl (by omega) (by omega) (hS.loc 1 ⟨115, [vS t, vI who, vI 1, .v (.slice none 0 0)]⟩ (by kernel_rfl) (by simp)) (hS.ne_head (i := 1) (b := ⟨115, [vS t, vI who, vI 1, .v (.slice none 0 0)]⟩) (by kernel_rfl))).mono (fun e w' ⟨y, h1, h2⟩ => ⟨y, h1, trivial, h2⟩)) (J := ?_)
   rintro q7 _
   refine Mt [.slice q7.1 (S1.take k ++ [(⟨t, who, 1, Sl.nil⟩ : CLock)] ++ S1.drop k).length q7.2, .agg #[.int .i64 0, .int .i64 1, .string emp], .int .i64 0] fun bs w hS => ?_
   have hask0 : mAsk (S1.map CLock.abs) t who = 0 := by rw [hF1]; assumption
   rw [← hF1]
   have hq1 : (S1.getD k default).abs.holder = (S1.getD k default).holder := rfl
   have hq2 : (S1.getD k default).abs.fence = (S1.getD k default).fence := rfl
   have hq3 : (S1.getD k default).abs.line = (S1.getD k default).line.xs := rfl
   have hq4 : (S1.getD k default).abs.name = (S1.getD k default).name := rfl
   have hvy : S1.take k ++ [(⟨t, who, 1, Sl.nil⟩ : CLock)] ++ S1.drop k = mIns (fun x : CLock => Op.bytesLess t.toList x.name.toList) (⟨t, who, 1, Sl.nil⟩ : CLock) S1 := ins_at ((ins_lock hm1 (by rw [hJ]; omega)).trans hk)
   have hvx := insL_map hvy
   have hm : mTake (S1.map CLock.abs) t who wait = (mIns (fun x : DLock => Op.bytesLess t.toList x.name.toList) ⟨t, who, 1, []⟩ (S1.map CLock.abs), ⟨0, 1, emp⟩, 0) := by
     unfold mTake lIdx
     simp only [hJ, Int.toNat_natCast, lgetD, List.length_map]
     repeat (first | rw [if_pos (by first | assumption | omega)] | rw [if_neg (by first | assumption | omega | (intro h0; first | exact absurd h0 (by assumption) | (simp_all; done)))])
     all_goals rfl
   refine ⟨⟨q7.1, q7.2, S1.take k ++ [(⟨t, who, 1, Sl.nil⟩ : CLock)] ++ S1.drop k⟩, ?_, ?_, hS.outS (y := (⟨q7.1, q7.2, S1.take k ++ [(⟨t, who, 1, Sl.nil⟩ : CLock)] ++ S1.drop k⟩ : Sl CLock)) (out_locksG (.head _) hS.res (fun x hx => ?_))⟩
   · rw [hm] <;> rfl
   · exact Eq.trans hvx (congrArg Prod.fst hm).symm
   · rw [hvy] at hx
     rcases ins_mem hx with hx | hx
     · subst hx; exact ⟨ht, Sl.rd_nil _ _⟩
     · exact ⟨hnm1 x hx, own_inL (.tail _ (.head _)) hS.res hx⟩
 have hkJ := hbs.2 h2
 subst hkJ
 have hk5 := lock_all hm1 (k := k) (by omega)
 obtain ⟨hk51, hk52, hk53, hk54, hk55, hk56⟩ := hk5
 have hk7 : (S1.getD k default).line.n = (S1.getD k default).line.xs.length := rfl
 refine Mi (pc (pIo 52 (k : Int) k S1.length (.tail _ (.head _))) (pFo 57 k 1 1 (.tail _ (.head _)))) (J := ?_)
 refine Md ((S1.getD k default).holder = who) (T := fun h3 => ?_) (F := fun h3 => ?_)
 · refine Mda 9 [] [0] [ownL (lineR 3) S1, rowA 115 A1 c1 (S1 : List CLock)] Tryz_mixed (J := ?_)
   refine Mih (pFo 64 k 2 1 (.tail _ (.head _))) (J := ?_)
   refine Mz (J := ?_)
   refine Mt [.slice A1 S1.length c1, .agg #[.int .i64 0, .int .i64 (S1.getD k default).fence, .string emp], .int .i64 0] fun bs w hS => ?_
   have hask0 : mAsk (S1.map CLock.abs) t who = 0 := by rw [hF1]; assumption
   rw [← hF1]
   have hq1 : (S1.getD k default).abs.holder = (S1.getD k default).holder := rfl
   have hq2 : (S1.getD k default).abs.fence = (S1.getD k default).fence := rfl
   have hq3 : (S1.getD k default).abs.line = (S1.getD k default).line.xs := rfl
   have hq4 : (S1.getD k default).abs.name = (S1.getD k default).name := rfl
   have hlt : lTake (S1.getD k default).abs who wait = ((S1.getD k default).abs, ⟨0, (S1.getD k default).fence, emp⟩) := by
     unfold lTake
     simp only [hq1, hq2, hq3, hq4]
     repeat (first | rw [if_pos (by first | assumption | omega | exact .inl (by assumption) | exact .inr (by assumption))] | rw [if_neg (by first | assumption | omega | (rintro (h8 | h8) <;> simp_all; done))])
     all_goals rfl
   have hm : mTake (S1.map CLock.abs) t who wait = (S1.map CLock.abs, ⟨0, (S1.getD k default).fence, emp⟩, 0) := by
     unfold mTake lIdx
     simp only [hJ, Int.toNat_natCast, lgetD, List.length_map]
     rw [hlt]
     repeat (first | rw [if_pos (by first | assumption | omega)] | rw [if_neg (by first | assumption | omega | (intro h0; first | exact absurd h0 (by assumption) | (simp_all; done)))])
     all_goals (show ((S1.map CLock.abs).set k (S1.getD k default).abs, _, _) = _; rw [← lgetD, set_getD (by rw [List.length_map]; omega)])
   refine ⟨⟨A1, c1, S1⟩, ?_, ?_, hS.outS (y := (⟨A1, c1, S1⟩ : Sl CLock)) (out_locksG (.tail _ (.head _)) hS.res (fun x hx => ?_))⟩
   · rw [hm] <;> rfl
   · exact (congrArg Prod.fst hm).symm
   · exact ⟨hnm1 x hx, own_inL (.head _) hS.res hx⟩
 refine Mi (pFo 70 k 1 1 (.tail _ (.head _))) (J := ?_)
 refine Md ((S1.getD k default).holder = 0) (T := fun h4 => ?_) (F := fun h4 => ?_)
 · refine Mi (pFo 76 k 2 1 (.tail _ (.head _))) (J := ?_)
   refine Md ((S1.getD k default).fence = 1073741824) (T := fun h5 => ?_) (F := fun h5 => ?_)
   · refine Mt [.slice A1 S1.length c1, .agg #[.int .i64 8, .int .i64 0, .string emp], .int .i64 0] fun bs w hS => ?_
     have hask0 : mAsk (S1.map CLock.abs) t who = 0 := by rw [hF1]; assumption
     rw [← hF1]
     have hq1 : (S1.getD k default).abs.holder = (S1.getD k default).holder := rfl
     have hq2 : (S1.getD k default).abs.fence = (S1.getD k default).fence := rfl
     have hq3 : (S1.getD k default).abs.line = (S1.getD k default).line.xs := rfl
     have hq4 : (S1.getD k default).abs.name = (S1.getD k default).name := rfl
     have hlt : lTake (S1.getD k default).abs who wait = ((S1.getD k default).abs, ⟨8, 0, emp⟩) := by
       unfold lTake
       simp only [hq1, hq2, hq3, hq4]
       repeat (first | rw [if_pos (by first | assumption | omega | exact .inl (by assumption) | exact .inr (by assumption))] | rw [if_neg (by first | assumption | omega | (rintro (h8 | h8) <;> simp_all; done))])
       all_goals rfl
     have hm : mTake (S1.map CLock.abs) t who wait = (S1.map CLock.abs, ⟨8, 0, emp⟩, 0) := by
       unfold mTake lIdx
       simp only [hJ, Int.toNat_natCast, lgetD, List.length_map]
       rw [hlt]
       repeat (first | rw [if_pos (by first | assumption | omega)] | rw [if_neg (by first | assumption | omega | (intro h0; first | exact absurd h0 (by assumption) | (simp_all; done)))])
       all_goals (show ((S1.map CLock.abs).set k (S1.getD k default).abs, _, _) = _; rw [← lgetD, set_getD (by rw [List.length_map]; omega)])
     refine ⟨⟨A1, c1, S1⟩, ?_, ?_, hS.outS (y := (⟨A1, c1, S1⟩ : Sl CLock)) (out_locksG (.tail _ (.head _)) hS.res (fun x hx => ?_))⟩
     · rw [hm] <;> rfl
     · exact (congrArg Prod.fst hm).symm
     · exact ⟨hnm1 x hx, own_inL (.head _) hS.res hx⟩
   refine Mi (pFo 85 k 1 1 (.tail _ (.head _))) (J := ?_)
   refine Md ((S1.getD k default).holder = 0) (T := fun h6 => ?_) (F := fun h6 => ?_)
   rotate_left
   · exact absurd h4 h6
   refine Mi (pc (pFo 93 k 2 1 (.tail _ (.head _))) (pR ((S1.getD k default).fence + 1))) (J := ?_)
   refine m_perm (R' := [rowA 115 A1 c1 (S1 : List CLock), ownL (lineR 3) S1]) (Pf 1 rfl) ?_
   refine Ms k 1 (⟨(S1.getD k default).name, who, (S1.getD k default).fence, (S1.getD k default).line⟩ : CLock) (by omega) (J := ?_)
   intro L3 hL3 hlL3
   have hgL3 : L3.getD k default = (⟨(S1.getD k default).name, who, (S1.getD k default).fence, (S1.getD k default).line⟩ : CLock) := by rw [hL3]; exact getD_set (by omega)
   have hbL3 : L3 = List.set S1 k (⟨(S1.getD k default).name, who, (S1.getD k default).fence, (S1.getD k default).line⟩ : CLock) := by rw [hL3]
   refine Ms k 2 (⟨(S1.getD k default).name, who, (S1.getD k default).fence + 1, (S1.getD k default).line⟩ : CLock) (by omega) (hg := hgL3) (J := ?_)
   intro L4 hL4 hlL4
   have hgL4 : L4.getD k default = (⟨(S1.getD k default).name, who, (S1.getD k default).fence + 1, (S1.getD k default).line⟩ : CLock) := by rw [hL4]; exact getD_set (by omega)
   have hbL4 : L4 = List.set S1 k (⟨(S1.getD k default).name, who, (S1.getD k default).fence + 1, (S1.getD k default).line⟩ : CLock) := by rw [hL4, hbL3, List.set_set]
   refine Mda 9 [] [0] [rowA 115 A1 c1 (L4 : List CLock), ownL (lineR 3) S1] Tryz_mixed (J := ?_)
   refine Mih (pFk 103 k 2 1 hgL4 (.head _)) (J := ?_)
   refine Mz (J := ?_)
   refine Mt [.slice A1 S1.length c1, .agg #[.int .i64 0, .int .i64 ((S1.getD k default).fence + 1), .string emp], .int .i64 0] fun bs w hS => ?_
   have hask0 : mAsk (S1.map CLock.abs) t who = 0 := by rw [hF1]; assumption
   rw [← hF1]
   have hq1 : (S1.getD k default).abs.holder = (S1.getD k default).holder := rfl
   have hq2 : (S1.getD k default).abs.fence = (S1.getD k default).fence := rfl
   have hq3 : (S1.getD k default).abs.line = (S1.getD k default).line.xs := rfl
   have hq4 : (S1.getD k default).abs.name = (S1.getD k default).name := rfl
   have hvx := setL_map hbL4
   have hlt : lTake (S1.getD k default).abs who wait = (((⟨(S1.getD k default).name, who, (S1.getD k default).fence + 1, (S1.getD k default).line⟩ : CLock)).abs, ⟨0, (S1.getD k default).fence + 1, emp⟩) := by
     unfold lTake
     simp only [hq1, hq2, hq3, hq4]
     repeat (first | rw [if_pos (by first | assumption | omega | exact .inl (by assumption) | exact .inr (by assumption))] | rw [if_neg (by first | assumption | omega | (rintro (h8 | h8) <;> simp_all; done))])
     all_goals rfl
   have hm : mTake (S1.map CLock.abs) t who wait = ((S1.map CLock.abs).set k ((⟨(S1.getD k default).name, who, (S1.getD k default).fence + 1, (S1.getD k default).line⟩ : CLock)).abs, ⟨0, (S1.getD k default).fence + 1, emp⟩, 0) := by
     unfold mTake lIdx
     simp only [hJ, Int.toNat_natCast, lgetD, List.length_map]
     rw [hlt]
     repeat (first | rw [if_pos (by first | assumption | omega)] | rw [if_neg (by first | assumption | omega | (intro h0; first | exact absurd h0 (by assumption) | (simp_all; done)))])
     all_goals rfl
   refine ⟨⟨A1, c1, L4⟩, ?_, ?_, hS.outS (y := (⟨A1, c1, L4⟩ : Sl CLock)) (out_locksG (.head _) hS.res (fun x hx => ?_))⟩
   · have hll : S1.length = L4.length := by rw [hbL4, List.length_set]
     rw [hm]
     exact congrArg (fun q => Ending.returned (.tuple #[.slice A1 q c1, .agg #[.int .i64 0, .int .i64 ((S1.getD k default).fence + 1), .string emp], .int .i64 0])) hll
   · exact Eq.trans hvx (congrArg Prod.fst hm).symm
   · rw [hbL4] at hx
     rcases mem_set hx with hx | hx
     · subst hx; exact ⟨hnm1 (S1.getD k default) (mem_of_getD (L := S1) (i := k) (by omega)), own_inL (x := (S1.getD k default)) (.tail _ (.head _)) hS.res (mem_of_getD (L := S1) (i := k) (by omega))⟩
     · exact ⟨hnm1 x hx, own_inL (.tail _ (.head _)) hS.res hx⟩
 refine Mi (pFo 85 k 1 1 (.tail _ (.head _))) (J := ?_)
 refine Md ((S1.getD k default).holder = 0) (T := fun h7 => ?_) (F := fun h7 => ?_)
 · exact absurd h7 h4
 refine Mbn (wait) (T := fun h8 => ?_) (F := fun h8 => ?_)
 rotate_left
 · refine Mda 9 [] [0] [ownL (lineR 3) S1, rowA 115 A1 c1 (S1 : List CLock)] Tryz_mixed (J := ?_)
   refine Mih (pFo 120 k 1 1 (.tail _ (.head _))) (J := ?_)
   refine Mz (J := ?_)
   refine Mt [.slice A1 S1.length c1, .agg #[.int .i64 10, .int .i64 (S1.getD k default).holder, .string emp], .int .i64 0] fun bs w hS => ?_
   have hask0 : mAsk (S1.map CLock.abs) t who = 0 := by rw [hF1]; assumption
   rw [← hF1]
   have hq1 : (S1.getD k default).abs.holder = (S1.getD k default).holder := rfl
   have hq2 : (S1.getD k default).abs.fence = (S1.getD k default).fence := rfl
   have hq3 : (S1.getD k default).abs.line = (S1.getD k default).line.xs := rfl
   have hq4 : (S1.getD k default).abs.name = (S1.getD k default).name := rfl
   have hlt : lTake (S1.getD k default).abs who wait = ((S1.getD k default).abs, ⟨10, (S1.getD k default).holder, emp⟩) := by
     unfold lTake
     simp only [hq1, hq2, hq3, hq4]
     repeat (first | rw [if_pos (by first | assumption | omega | exact .inl (by assumption) | exact .inr (by assumption))] | rw [if_neg (by first | assumption | omega | (rintro (h8 | h8) <;> simp_all; done))])
     all_goals rfl
   have hm : mTake (S1.map CLock.abs) t who wait = (S1.map CLock.abs, ⟨10, (S1.getD k default).holder, emp⟩, 0) := by
     unfold mTake lIdx
     simp only [hJ, Int.toNat_natCast, lgetD, List.length_map]
     rw [hlt]
     repeat (first | rw [if_pos (by first | assumption | omega)] | rw [if_neg (by first | assumption | omega | (intro h0; first | exact absurd h0 (by assumption) | (simp_all; done)))])
     all_goals (show ((S1.map CLock.abs).set k (S1.getD k default).abs, _, _) = _; rw [← lgetD, set_getD (by rw [List.length_map]; omega)])
   refine ⟨⟨A1, c1, S1⟩, ?_, ?_, hS.outS (y := (⟨A1, c1, S1⟩ : Sl CLock)) (out_locksG (.tail _ (.head _)) hS.res (fun x hx => ?_))⟩
   · rw [hm] <;> rfl
   · exact (congrArg Prod.fst hm).symm
   · exact ⟨hnm1 x hx, own_inL (.head _) hS.res hx⟩
 refine Mi (pFo 112 k 3 1 (.tail _ (.head _))) (J := ?_)
 refine Mp (v := .bool (((S1.getD k default).line.xs.take (S1.getD k default).line.n).any fun z => decide (z = who))) Tryz.call150 (fun bs w hS => has_ints (S1.getD k default).line (S1.getD k default).line.n who w (And.right (own_eltL (hS.res _ (.head _)) hnm1 (mem_of_getD (i := k) (by omega)))) (by omega)) (J := ?_)
 have hlh : (((S1.getD k default).line.xs.take (S1.getD k default).line.n).any fun z => decide (z = who)) = lHas (S1.getD k default).abs who := by rw [take_all (Nat.le_refl _)]; rfl
 rw [hlh]
 refine Mb (lHas (S1.getD k default).abs who) (T := fun h9 => ?_) (F := fun h9 => ?_)
 · refine Mda 9 [] [0] [ownL (lineR 3) S1, rowA 115 A1 c1 (S1 : List CLock)] Tryz_mixed (J := ?_)
   refine Mih (pFo 120 k 1 1 (.tail _ (.head _))) (J := ?_)
   refine Mz (J := ?_)
   refine Mt [.slice A1 S1.length c1, .agg #[.int .i64 10, .int .i64 (S1.getD k default).holder, .string emp], .int .i64 0] fun bs w hS => ?_
   have hask0 : mAsk (S1.map CLock.abs) t who = 0 := by rw [hF1]; assumption
   rw [← hF1]
   have hq1 : (S1.getD k default).abs.holder = (S1.getD k default).holder := rfl
   have hq2 : (S1.getD k default).abs.fence = (S1.getD k default).fence := rfl
   have hq3 : (S1.getD k default).abs.line = (S1.getD k default).line.xs := rfl
   have hq4 : (S1.getD k default).abs.name = (S1.getD k default).name := rfl
   have hlt : lTake (S1.getD k default).abs who wait = ((S1.getD k default).abs, ⟨10, (S1.getD k default).holder, emp⟩) := by
     unfold lTake
     simp only [hq1, hq2, hq3, hq4]
     repeat (first | rw [if_pos (by first | assumption | omega | exact .inl (by assumption) | exact .inr (by assumption))] | rw [if_neg (by first | assumption | omega | (rintro (h8 | h8) <;> simp_all; done))])
     all_goals rfl
   have hm : mTake (S1.map CLock.abs) t who wait = (S1.map CLock.abs, ⟨10, (S1.getD k default).holder, emp⟩, 0) := by
     unfold mTake lIdx
     simp only [hJ, Int.toNat_natCast, lgetD, List.length_map]
     rw [hlt]
     repeat (first | rw [if_pos (by first | assumption | omega)] | rw [if_neg (by first | assumption | omega | (intro h0; first | exact absurd h0 (by assumption) | (simp_all; done)))])
     all_goals (show ((S1.map CLock.abs).set k (S1.getD k default).abs, _, _) = _; rw [← lgetD, set_getD (by rw [List.length_map]; omega)])
   refine ⟨⟨A1, c1, S1⟩, ?_, ?_, hS.outS (y := (⟨A1, c1, S1⟩ : Sl CLock)) (out_locksG (.tail _ (.head _)) hS.res (fun x hx => ?_))⟩
   · rw [hm] <;> rfl
   · exact (congrArg Prod.fst hm).symm
   · exact ⟨hnm1 x hx, own_inL (.head _) hS.res hx⟩
 refine Mi (pFo 126 k 3 1 (.tail _ (.head _))) (J := ?_)
 refine Md ((((S1.getD k default).line.n : Nat) : Int) = 3) (T := fun h10 => ?_) (F := fun h10 => ?_)
 · refine Mt [.slice A1 S1.length c1, .agg #[.int .i64 8, .int .i64 0, .string emp], .int .i64 0] fun bs w hS => ?_
   have hask0 : mAsk (S1.map CLock.abs) t who = 0 := by rw [hF1]; assumption
   rw [← hF1]
   have hq1 : (S1.getD k default).abs.holder = (S1.getD k default).holder := rfl
   have hq2 : (S1.getD k default).abs.fence = (S1.getD k default).fence := rfl
   have hq3 : (S1.getD k default).abs.line = (S1.getD k default).line.xs := rfl
   have hq4 : (S1.getD k default).abs.name = (S1.getD k default).name := rfl
   have hlt : lTake (S1.getD k default).abs who wait = ((S1.getD k default).abs, ⟨8, 0, emp⟩) := by
     unfold lTake
     simp only [hq1, hq2, hq3, hq4]
     repeat (first | rw [if_pos (by first | assumption | omega | exact .inl (by assumption) | exact .inr (by assumption))] | rw [if_neg (by first | assumption | omega | (rintro (h8 | h8) <;> simp_all; done))])
     all_goals rfl
   have hm : mTake (S1.map CLock.abs) t who wait = (S1.map CLock.abs, ⟨8, 0, emp⟩, 0) := by
     unfold mTake lIdx
     simp only [hJ, Int.toNat_natCast, lgetD, List.length_map]
     rw [hlt]
     repeat (first | rw [if_pos (by first | assumption | omega)] | rw [if_neg (by first | assumption | omega | (intro h0; first | exact absurd h0 (by assumption) | (simp_all; done)))])
     all_goals (show ((S1.map CLock.abs).set k (S1.getD k default).abs, _, _) = _; rw [← lgetD, set_getD (by rw [List.length_map]; omega)])
   refine ⟨⟨A1, c1, S1⟩, ?_, ?_, hS.outS (y := (⟨A1, c1, S1⟩ : Sl CLock)) (out_locksG (.tail _ (.head _)) hS.res (fun x hx => ?_))⟩
   · rw [hm] <;> rfl
   · exact (congrArg Prod.fst hm).symm
   · exact ⟨hnm1 x hx, own_inL (.head _) hS.res hx⟩
 refine m_part2 (rowA 3 (S1.getD k default).line.A (S1.getD k default).line.c ((S1.getD k default).line.xs : List Int)) (ownL (lineR 3) (List.eraseIdx S1 k)) (ownL_get_fp (lineR 3) (i := k) (by omega)) (fun w h => ownL_get_p (lineR 3) (i := k) (by omega) w h) ?_
 refine Mi (pFo 135 k 3 1 (.tail _ (.tail _ (.head _)))) (J := ?_)
 refine M1 (J := ?_)
 refine Mal (α := Int) 8 ([who]) (h63 := (by first | omega | (simp only [List.length_append, List.length_nil, List.length_cons]; omega))) (hb := (by first | omega | (simp only [List.length_append, List.length_nil, List.length_cons]; omega))) (J := ?_)
 intro A5 c5
 refine m_perm (R' := [rowA 115 A1 c1 (S1 : List CLock), rowA 3 A5 c5 ((S1.getD k default).line.xs ++ [who] : List Int), ownL (lineR 3) (List.eraseIdx S1 k)]) (Pf 2 rfl) ?_
 refine Ms k 3 (⟨(S1.getD k default).name, (S1.getD k default).holder, (S1.getD k default).fence, ⟨A5, c5, (S1.getD k default).line.xs ++ [who]⟩⟩ : CLock) (by omega) (J := ?_)
 intro L6 hL6 hlL6
 have hgL6 : L6.getD k default = (⟨(S1.getD k default).name, (S1.getD k default).holder, (S1.getD k default).fence, ⟨A5, c5, (S1.getD k default).line.xs ++ [who]⟩⟩ : CLock) := by rw [hL6]; exact getD_set (by omega)
 have hbL6 : L6 = List.set S1 k (⟨(S1.getD k default).name, (S1.getD k default).holder, (S1.getD k default).fence, ⟨A5, c5, (S1.getD k default).line.xs ++ [who]⟩⟩ : CLock) := by rw [hL6]
 refine Mda 9 [] [0] [rowA 115 A1 c1 (L6 : List CLock), rowA 3 A5 c5 ((S1.getD k default).line.xs ++ [who] : List Int), ownL (lineR 3) (List.eraseIdx S1 k)] Tryz_mixed (J := ?_)
 refine Mih (pFk 145 k 1 1 hgL6 (.head _)) (J := ?_)
 refine Mz (J := ?_)
 refine Mt [.slice A1 S1.length c1, .agg #[.int .i64 10, .int .i64 (S1.getD k default).holder, .string emp], .int .i64 0] fun bs w hS => ?_
 have hask0 : mAsk (S1.map CLock.abs) t who = 0 := by rw [hF1]; assumption
 rw [← hF1]
 have hq1 : (S1.getD k default).abs.holder = (S1.getD k default).holder := rfl
 have hq2 : (S1.getD k default).abs.fence = (S1.getD k default).fence := rfl
 have hq3 : (S1.getD k default).abs.line = (S1.getD k default).line.xs := rfl
 have hq4 : (S1.getD k default).abs.name = (S1.getD k default).name := rfl
 have hvx := setL_map hbL6
 have hlt : lTake (S1.getD k default).abs who wait = (((⟨(S1.getD k default).name, (S1.getD k default).holder, (S1.getD k default).fence, ⟨A5, c5, (S1.getD k default).line.xs ++ [who]⟩⟩ : CLock)).abs, ⟨10, (S1.getD k default).holder, emp⟩) := by
   unfold lTake
   simp only [hq1, hq2, hq3, hq4]
   repeat (first | rw [if_pos (by first | assumption | omega | exact .inl (by assumption) | exact .inr (by assumption))] | rw [if_neg (by first | assumption | omega | (rintro (h8 | h8) <;> simp_all; done))])
   all_goals rfl
 have hm : mTake (S1.map CLock.abs) t who wait = ((S1.map CLock.abs).set k ((⟨(S1.getD k default).name, (S1.getD k default).holder, (S1.getD k default).fence, ⟨A5, c5, (S1.getD k default).line.xs ++ [who]⟩⟩ : CLock)).abs, ⟨10, (S1.getD k default).holder, emp⟩, 0) := by
   unfold mTake lIdx
   simp only [hJ, Int.toNat_natCast, lgetD, List.length_map]
   rw [hlt]
   repeat (first | rw [if_pos (by first | assumption | omega)] | rw [if_neg (by first | assumption | omega | (intro h0; first | exact absurd h0 (by assumption) | (simp_all; done)))])
   all_goals rfl
 refine ⟨⟨A1, c1, L6⟩, ?_, ?_, hS.outS (y := (⟨A1, c1, L6⟩ : Sl CLock)) (out_locksG (.head _) hS.res (fun x hx => ?_))⟩
 · have hll : S1.length = L6.length := by rw [hbL6, List.length_set]
   rw [hm]
   exact congrArg (fun q => Ending.returned (.tuple #[.slice A1 q c1, .agg #[.int .i64 10, .int .i64 (S1.getD k default).holder, .string emp], .int .i64 0])) hll
 · exact Eq.trans hvx (congrArg Prod.fst hm).symm
 · rw [hbL6] at hx
   rcases mem_set_ne hx with hx | hx
   · subst hx; exact ⟨hnm1 (S1.getD k default) (mem_of_getD (L := S1) (i := k) (by omega)), allR_row (.tail _ (.head _)) (hS.res _ (.tail _ (.head _))) (fun _ _ => trivial)⟩
   · exact ⟨hnm1 x (List.mem_of_mem_eraseIdx hx), own_inL (.tail _ (.tail _ (.head _))) hS.res hx⟩

theorem ref_TakenOf {B : Nat → Prop} (s : Sl CLock) (t : ByteArray) (who : Int) (wait : Bool) (w : World) (hs : s.rd B w) (ht : t.size ≤ 9223372036854775807) : Calls Tryz.prog 38 #[.slice s.A s.n s.c, .string t, .int .i64 who, .bool wait] w fun e w' => ∃ y : Sl CLock, e = .returned (.tuple #[.slice y.A y.n y.c, .agg #[.int .i64 ((mTake (s.xs.map CLock.abs) t who wait).2.1).code, .int .i64 ((mTake (s.xs.map CLock.abs) t who wait).2.1).n, .string ((mTake (s.xs.map CLock.abs) t who wait).2.1).text], .int .i64 (mTake (s.xs.map CLock.abs) t who wait).2.2]) ∧ y.xs.map CLock.abs = (mTake (s.xs.map CLock.abs) t who wait).1 ∧ FreshS w w' y := by
 have oks := Sl.rd.ok hs
 have ncs := Sl.ok.nc oks
 have hns : s.n = s.xs.length := rfl
 refine M0 Tryz.func38 (J := ?_)
 refine Mp Tryz.call101 (fun bs w hS => ref_asked s t who w (Sl.rd.kp hs hS.kp) (by first | assumption | omega | (simp only [emp_size]; omega))) (J := ?_)
 refine Mdn (mAsk (s.xs.map CLock.abs) t who = 0) (T := fun h1 => ?_) (F := fun h1 => ?_)
 rotate_left
 · refine Mt [.slice none 0 0, .agg #[.int .i64 0, .int .i64 0, .string emp], .int .i64 (mAsk (s.xs.map CLock.abs) t who)] fun bs w hS => ?_
   have hm : mTake (s.xs.map CLock.abs) t who wait = ([], zRep, mAsk (s.xs.map CLock.abs) t who) := by
     unfold mTake
     repeat (first | rw [if_pos (by first | assumption | omega)] | rw [if_neg (by first | assumption | omega | (intro h0; first | exact absurd h0 (by assumption) | (simp_all; done)))])
     all_goals rfl
   refine ⟨Sl.nil, ?_, ?_, hS.outS (Sl.rd_nil _ _)⟩
   · rw [hm] <;> rfl
   · rw [hm] <;> rfl
 refine Mf (σ := Sl CLock) (v := fun y1 => .slice y1.A y1.n y1.c) (F := fun y1 => y1.xs.map CLock.abs = s.xs.map CLock.abs) (r := fun y1 => locksR 115 3 y1) Tryz.call18 (fun bs w hS => ref_LocksCopy s w (Sl.rd.kp hs hS.kp) (small_locks (mAsk_ok (by assumption)).1)) (J := ?_)
 rintro y1 hF1
 refine m_split2 ?_
 obtain ⟨A1, c1, S1⟩ := y1
 have hF1 : S1.map CLock.abs = s.xs.map CLock.abs := hF1
 refine m_perm (R' := [ownL (lineR 3) S1, rowA 115 A1 c1 (S1 : List CLock)]) (List.Perm.refl _) ?_
 have hnm1 := locks_names (y := (⟨A1, c1, S1⟩ : Sl CLock)) (hs) hF1
 have hlen1 : S1.length = s.xs.length := by simpa using congrArg List.length hF1
 refine m_know (F := ∀ i, i < S1.length → Rds.ok (S1.getD i default)) (fun bs w hS i hi => Rds.okof (B := anyB) (w := w) (own_eltL (hS.res _ (.head _)) hnm1 (mem_of_getD hi))) fun okown1 => ?_
 refine m_know (F := RowOk A1 c1 (S1 : List CLock)) (fun bs w hS => rowA_rok (hS.res _ (.tail _ (.head _)))) fun hrow1 => ?_
 have nchrow1 := hrow1.2
 have hask := mAsk_ok h1
 have hm1 : mLocks (S1.map CLock.abs) = 0 := by rw [hF1]; exact hask.1
 have hw1 := hask.2.2.1
 have hw2 := hask.2.2.2
 have hln5 : S1.length ≤ 5 := by have h9 := (mLocks_bd hm1).1; simpa using h9
 refine Mp (v := .int .i64 (mIdx (fun x : CLock => decide (x.name = t)) S1)) Tryz.call100 (fun bs w hS => tackroomref_lockAt (⟨A1, c1, S1⟩ : Sl CLock) t w (own_locks (hS.res _ (.head _)) (hS.res _ (.tail _ (.head _))) hnm1)) (J := ?_)
 have hJe : mIdx (fun x : CLock => decide (x.name = t)) S1 = mIdx (fun x : DLock => decide (x.name = t)) (S1.map CLock.abs) := mIdx_map CLock.abs (fun x : DLock => decide (x.name = t)) S1
 rw [hJe]
 have hJb := mIdx_bd (fun x : DLock => decide (x.name = t)) (S1.map CLock.abs)
 generalize hJ : mIdx (fun x : DLock => decide (x.name = t)) (S1.map CLock.abs) = J at hJb ⊢
 rw [List.length_map] at hJb
 refine Md (J < 0) (T := fun h2 => ?_) (F := fun h2 => ?_)
 · have h0J : ¬ 0 ≤ J := by omega
   refine Md ((5 : Int) ≤ (S1.length : Int)) (T := fun h3 => ?_) (F := fun h3 => ?_)
   · refine Mt [.slice A1 S1.length c1, .agg #[.int .i64 8, .int .i64 0, .string emp], .int .i64 0] fun bs w hS => ?_
     have hask0 : mAsk (S1.map CLock.abs) t who = 0 := by rw [hF1]; assumption
     rw [← hF1]
     have hq1 : (S1.getD J.toNat default).abs.holder = (S1.getD J.toNat default).holder := rfl
     have hq2 : (S1.getD J.toNat default).abs.fence = (S1.getD J.toNat default).fence := rfl
     have hq3 : (S1.getD J.toNat default).abs.line = (S1.getD J.toNat default).line.xs := rfl
     have hq4 : (S1.getD J.toNat default).abs.name = (S1.getD J.toNat default).name := rfl
     have hm : mTake (S1.map CLock.abs) t who wait = (S1.map CLock.abs, ⟨8, 0, emp⟩, 0) := by
       unfold mTake lIdx
       simp only [hJ, lgetD, List.length_map]
       repeat (first | rw [if_pos (by first | assumption | omega)] | rw [if_neg (by first | assumption | omega | (intro h0; first | exact absurd h0 (by assumption) | (simp_all; done)))])
       all_goals rfl
     refine ⟨⟨A1, c1, S1⟩, ?_, ?_, hS.outS (y := (⟨A1, c1, S1⟩ : Sl CLock)) (out_locksG (.tail _ (.head _)) hS.res (fun x hx => ?_))⟩
     · rw [hm] <;> rfl
     · exact (congrArg Prod.fst hm).symm
     · exact ⟨hnm1 x hx, own_inL (.head _) hS.res hx⟩
   refine Mf (σ := Sl CLock) (v := fun y3 => .slice y3.A y3.n y3.c) (F := fun y3 => y3.xs = mIns (fun z : CLock => Op.bytesLess t.toList z.name.toList) (⟨t, who, 1, Sl.nil⟩ : CLock) S1) (r := fun y3 => rowA 115 y3.A y3.c (y3.xs : List CLock)) (vs := fun bs => [.slice A1 S1.length c1, .agg #[.string t, .int .i64 who, .int .i64 1, .slice none 0 0]]) Tryz.call102 (fun bs w hS => ref_withLock (⟨A1, c1, S1⟩ : Sl CLock) (⟨t, who, 1, Sl.nil⟩ : CLock) w (own_locks (hS.res _ (.head _)) (hS.res _ (.tail _ (.head _))) hnm1) (by show S1.length ≤ _; omega)) (J := ?_)
   rintro y3 hF3
   obtain ⟨A3, c3, rfl⟩ := Sl.of_xs hF3
   refine m_weak (rowA 115 A3 c3 (mIns (fun z : CLock => Op.bytesLess t.toList z.name.toList) (⟨t, who, 1, Sl.nil⟩ : CLock) S1 : List CLock)) (List.Sublist.refl _) (fun w h => h) ?_
   refine Mt [.slice A3 (mIns (fun z : CLock => Op.bytesLess t.toList z.name.toList) (⟨t, who, 1, Sl.nil⟩ : CLock) S1).length c3, .agg #[.int .i64 0, .int .i64 1, .string emp], .int .i64 0] fun bs w hS => ?_
   have hask0 : mAsk (S1.map CLock.abs) t who = 0 := by rw [hF1]; assumption
   rw [← hF1]
   have hq1 : (S1.getD J.toNat default).abs.holder = (S1.getD J.toNat default).holder := rfl
   have hq2 : (S1.getD J.toNat default).abs.fence = (S1.getD J.toNat default).fence := rfl
   have hq3 : (S1.getD J.toNat default).abs.line = (S1.getD J.toNat default).line.xs := rfl
   have hq4 : (S1.getD J.toNat default).abs.name = (S1.getD J.toNat default).name := rfl
   have hvy : mIns (fun z : CLock => Op.bytesLess t.toList z.name.toList) (⟨t, who, 1, Sl.nil⟩ : CLock) S1 = mIns (fun x : CLock => Op.bytesLess t.toList x.name.toList) (⟨t, who, 1, Sl.nil⟩ : CLock) S1 := rfl
   have hvx := insL_map hvy
   have hm : mTake (S1.map CLock.abs) t who wait = (mIns (fun x : DLock => Op.bytesLess t.toList x.name.toList) ⟨t, who, 1, []⟩ (S1.map CLock.abs), ⟨0, 1, emp⟩, 0) := by
     unfold mTake lIdx
     simp only [hJ, lgetD, List.length_map]
     repeat (first | rw [if_pos (by first | assumption | omega)] | rw [if_neg (by first | assumption | omega | (intro h0; first | exact absurd h0 (by assumption) | (simp_all; done)))])
     all_goals rfl
   refine ⟨⟨A3, c3, mIns (fun z : CLock => Op.bytesLess t.toList z.name.toList) (⟨t, who, 1, Sl.nil⟩ : CLock) S1⟩, ?_, ?_, hS.outS (y := (⟨A3, c3, mIns (fun z : CLock => Op.bytesLess t.toList z.name.toList) (⟨t, who, 1, Sl.nil⟩ : CLock) S1⟩ : Sl CLock)) (out_locksG (.head _) hS.res (fun x hx => ?_))⟩
   · rw [hm] <;> rfl
   · exact Eq.trans hvx (congrArg Prod.fst hm).symm
   · rw [hvy] at hx
     rcases ins_mem hx with hx | hx
     · subst hx; exact ⟨ht, Sl.rd_nil _ _⟩
     · exact ⟨hnm1 x hx, own_inL (.tail _ (.head _)) hS.res hx⟩
 have h0J : 0 ≤ J := by omega
 have hk5 := lock_all hm1 (k := J.toNat) (by omega)
 obtain ⟨hk51, hk52, hk53, hk54, hk55, hk56⟩ := hk5
 have hk7 : (S1.getD J.toNat default).line.n = (S1.getD J.toNat default).line.xs.length := rfl
 refine Mi (pc (pIo 43 J J.toNat S1.length (.tail _ (.head _))) (pFo 45 J.toNat 1 1 (.tail _ (.head _)))) (J := ?_)
 refine Md ((S1.getD J.toNat default).holder = 0) (T := fun h4 => ?_) (F := fun h4 => ?_)
 · refine Mi (pc (pIo 49 J J.toNat S1.length (.tail _ (.head _))) (pFo 51 J.toNat 2 1 (.tail _ (.head _)))) (J := ?_)
   refine Md ((1073741824 : Int) ≤ (S1.getD J.toNat default).fence) (T := fun h5 => ?_) (F := fun h5 => ?_)
   · refine Mt [.slice A1 S1.length c1, .agg #[.int .i64 8, .int .i64 0, .string emp], .int .i64 0] fun bs w hS => ?_
     have hask0 : mAsk (S1.map CLock.abs) t who = 0 := by rw [hF1]; assumption
     rw [← hF1]
     have hq1 : (S1.getD J.toNat default).abs.holder = (S1.getD J.toNat default).holder := rfl
     have hq2 : (S1.getD J.toNat default).abs.fence = (S1.getD J.toNat default).fence := rfl
     have hq3 : (S1.getD J.toNat default).abs.line = (S1.getD J.toNat default).line.xs := rfl
     have hq4 : (S1.getD J.toNat default).abs.name = (S1.getD J.toNat default).name := rfl
     have hlt : lTake (S1.getD J.toNat default).abs who wait = ((S1.getD J.toNat default).abs, ⟨8, 0, emp⟩) := by
       unfold lTake
       simp only [hq1, hq2, hq3, hq4]
       repeat (first | rw [if_pos (by first | assumption | omega | exact .inl (by assumption) | exact .inr (by assumption))] | rw [if_neg (by first | assumption | omega | (rintro (h8 | h8) <;> simp_all; done))])
       all_goals rfl
     have hm : mTake (S1.map CLock.abs) t who wait = (S1.map CLock.abs, ⟨8, 0, emp⟩, 0) := by
       unfold mTake lIdx
       simp only [hJ, lgetD, List.length_map]
       rw [hlt]
       repeat (first | rw [if_pos (by first | assumption | omega)] | rw [if_neg (by first | assumption | omega | (intro h0; first | exact absurd h0 (by assumption) | (simp_all; done)))])
       all_goals (show ((S1.map CLock.abs).set J.toNat (S1.getD J.toNat default).abs, _, _) = _; rw [← lgetD, set_getD (by rw [List.length_map]; omega)])
     refine ⟨⟨A1, c1, S1⟩, ?_, ?_, hS.outS (y := (⟨A1, c1, S1⟩ : Sl CLock)) (out_locksG (.tail _ (.head _)) hS.res (fun x hx => ?_))⟩
     · rw [hm] <;> rfl
     · exact (congrArg Prod.fst hm).symm
     · exact ⟨hnm1 x hx, own_inL (.head _) hS.res hx⟩
   refine Mi (pIo 58 J J.toNat S1.length (.tail _ (.head _))) (J := ?_)
   refine m_perm (R' := [rowA 115 A1 c1 (S1 : List CLock), ownL (lineR 3) S1]) (Pf 1 rfl) ?_
   refine Ms J.toNat 1 (⟨(S1.getD J.toNat default).name, who, (S1.getD J.toNat default).fence, (S1.getD J.toNat default).line⟩ : CLock) (by omega) (J := ?_)
   intro L5 hL5 hlL5
   have hgL5 : L5.getD J.toNat default = (⟨(S1.getD J.toNat default).name, who, (S1.getD J.toNat default).fence, (S1.getD J.toNat default).line⟩ : CLock) := by rw [hL5]; exact getD_set (by omega)
   have hbL5 : L5 = List.set S1 J.toNat (⟨(S1.getD J.toNat default).name, who, (S1.getD J.toNat default).fence, (S1.getD J.toNat default).line⟩ : CLock) := by rw [hL5]
   refine Mi (pc (pIo 62 J J.toNat S1.length (.head _)) (pc (pFk 64 J.toNat 2 1 hgL5 (.head _)) (pc (pR ((S1.getD J.toNat default).fence + 1)) (pIo 66 J J.toNat S1.length (.head _))))) (J := ?_)
   refine Ms J.toNat 2 (⟨(S1.getD J.toNat default).name, who, (S1.getD J.toNat default).fence + 1, (S1.getD J.toNat default).line⟩ : CLock) (by omega) (hg := hgL5) (J := ?_)
   intro L6 hL6 hlL6
   have hgL6 : L6.getD J.toNat default = (⟨(S1.getD J.toNat default).name, who, (S1.getD J.toNat default).fence + 1, (S1.getD J.toNat default).line⟩ : CLock) := by rw [hL6]; exact getD_set (by omega)
   have hbL6 : L6 = List.set S1 J.toNat (⟨(S1.getD J.toNat default).name, who, (S1.getD J.toNat default).fence + 1, (S1.getD J.toNat default).line⟩ : CLock) := by rw [hL6, hbL5, List.set_set]
   refine Mi (pc (pIo 70 J J.toNat S1.length (.head _)) (pFk 72 J.toNat 1 1 hgL6 (.head _))) (J := ?_)
   refine Md (who = who) (T := fun h6 => ?_) (F := fun h6 => ?_)
   rotate_left
   · exact absurd rfl h6
   refine Mda 10 [] [0] [rowA 115 A1 c1 (L6 : List CLock), ownL (lineR 3) S1] Tryz_mixed (J := ?_)
   refine Mih (pc (pIo 78 J J.toNat S1.length (.head _)) (pFk 80 J.toNat 2 1 hgL6 (.head _))) (J := ?_)
   refine Mz (J := ?_)
   refine Mt [.slice A1 S1.length c1, .agg #[.int .i64 0, .int .i64 ((S1.getD J.toNat default).fence + 1), .string emp], .int .i64 0] fun bs w hS => ?_
   have hask0 : mAsk (S1.map CLock.abs) t who = 0 := by rw [hF1]; assumption
   rw [← hF1]
   have hq1 : (S1.getD J.toNat default).abs.holder = (S1.getD J.toNat default).holder := rfl
   have hq2 : (S1.getD J.toNat default).abs.fence = (S1.getD J.toNat default).fence := rfl
   have hq3 : (S1.getD J.toNat default).abs.line = (S1.getD J.toNat default).line.xs := rfl
   have hq4 : (S1.getD J.toNat default).abs.name = (S1.getD J.toNat default).name := rfl
   have hvx := setL_map hbL6
   have hlt : lTake (S1.getD J.toNat default).abs who wait = (((⟨(S1.getD J.toNat default).name, who, (S1.getD J.toNat default).fence + 1, (S1.getD J.toNat default).line⟩ : CLock)).abs, ⟨0, (S1.getD J.toNat default).fence + 1, emp⟩) := by
     unfold lTake
     simp only [hq1, hq2, hq3, hq4]
     repeat (first | rw [if_pos (by first | assumption | omega | exact .inl (by assumption) | exact .inr (by assumption))] | rw [if_neg (by first | assumption | omega | (rintro (h8 | h8) <;> simp_all; done))])
     all_goals rfl
   have hm : mTake (S1.map CLock.abs) t who wait = ((S1.map CLock.abs).set J.toNat ((⟨(S1.getD J.toNat default).name, who, (S1.getD J.toNat default).fence + 1, (S1.getD J.toNat default).line⟩ : CLock)).abs, ⟨0, (S1.getD J.toNat default).fence + 1, emp⟩, 0) := by
     unfold mTake lIdx
     simp only [hJ, lgetD, List.length_map]
     rw [hlt]
     repeat (first | rw [if_pos (by first | assumption | omega)] | rw [if_neg (by first | assumption | omega | (intro h0; first | exact absurd h0 (by assumption) | (simp_all; done)))])
     all_goals rfl
   refine ⟨⟨A1, c1, L6⟩, ?_, ?_, hS.outS (y := (⟨A1, c1, L6⟩ : Sl CLock)) (out_locksG (.head _) hS.res (fun x hx => ?_))⟩
   · have hll : S1.length = L6.length := by rw [hbL6, List.length_set]
     rw [hm]
     exact congrArg (fun q => Ending.returned (.tuple #[.slice A1 q c1, .agg #[.int .i64 0, .int .i64 ((S1.getD J.toNat default).fence + 1), .string emp], .int .i64 0])) hll
   · exact Eq.trans hvx (congrArg Prod.fst hm).symm
   · rw [hbL6] at hx
     rcases mem_set hx with hx | hx
     · subst hx; exact ⟨hnm1 (S1.getD J.toNat default) (mem_of_getD (L := S1) (i := J.toNat) (by omega)), own_inL (x := (S1.getD J.toNat default)) (.tail _ (.head _)) hS.res (mem_of_getD (L := S1) (i := J.toNat) (by omega))⟩
     · exact ⟨hnm1 x hx, own_inL (.tail _ (.head _)) hS.res hx⟩
 refine Mi (pc (pIo 70 J J.toNat S1.length (.tail _ (.head _))) (pFo 72 J.toNat 1 1 (.tail _ (.head _)))) (J := ?_)
 refine Md ((S1.getD J.toNat default).holder = who) (T := fun h7 => ?_) (F := fun h7 => ?_)
 · refine Mda 10 [] [0] [ownL (lineR 3) S1, rowA 115 A1 c1 (S1 : List CLock)] Tryz_mixed (J := ?_)
   refine Mih (pc (pIo 78 J J.toNat S1.length (.tail _ (.head _))) (pFo 80 J.toNat 2 1 (.tail _ (.head _)))) (J := ?_)
   refine Mz (J := ?_)
   refine Mt [.slice A1 S1.length c1, .agg #[.int .i64 0, .int .i64 (S1.getD J.toNat default).fence, .string emp], .int .i64 0] fun bs w hS => ?_
   have hask0 : mAsk (S1.map CLock.abs) t who = 0 := by rw [hF1]; assumption
   rw [← hF1]
   have hq1 : (S1.getD J.toNat default).abs.holder = (S1.getD J.toNat default).holder := rfl
   have hq2 : (S1.getD J.toNat default).abs.fence = (S1.getD J.toNat default).fence := rfl
   have hq3 : (S1.getD J.toNat default).abs.line = (S1.getD J.toNat default).line.xs := rfl
   have hq4 : (S1.getD J.toNat default).abs.name = (S1.getD J.toNat default).name := rfl
   have hlt : lTake (S1.getD J.toNat default).abs who wait = ((S1.getD J.toNat default).abs, ⟨0, (S1.getD J.toNat default).fence, emp⟩) := by
     unfold lTake
     simp only [hq1, hq2, hq3, hq4]
     repeat (first | rw [if_pos (by first | assumption | omega | exact .inl (by assumption) | exact .inr (by assumption))] | rw [if_neg (by first | assumption | omega | (rintro (h8 | h8) <;> simp_all; done))])
     all_goals rfl
   have hm : mTake (S1.map CLock.abs) t who wait = (S1.map CLock.abs, ⟨0, (S1.getD J.toNat default).fence, emp⟩, 0) := by
     unfold mTake lIdx
     simp only [hJ, lgetD, List.length_map]
     rw [hlt]
     repeat (first | rw [if_pos (by first | assumption | omega)] | rw [if_neg (by first | assumption | omega | (intro h0; first | exact absurd h0 (by assumption) | (simp_all; done)))])
     all_goals (show ((S1.map CLock.abs).set J.toNat (S1.getD J.toNat default).abs, _, _) = _; rw [← lgetD, set_getD (by rw [List.length_map]; omega)])
   refine ⟨⟨A1, c1, S1⟩, ?_, ?_, hS.outS (y := (⟨A1, c1, S1⟩ : Sl CLock)) (out_locksG (.tail _ (.head _)) hS.res (fun x hx => ?_))⟩
   · rw [hm] <;> rfl
   · exact (congrArg Prod.fst hm).symm
   · exact ⟨hnm1 x hx, own_inL (.head _) hS.res hx⟩
 refine Mi (pc (pIo 84 J J.toNat S1.length (.tail _ (.head _))) (pFo 86 J.toNat 1 1 (.tail _ (.head _)))) (J := ?_)
 refine Mb (wait) (T := fun h8 => ?_) (F := fun h8 => ?_)
 rotate_left
 · refine Mda 5 [] [0] [ownL (lineR 3) S1, rowA 115 A1 c1 (S1 : List CLock)] Tryz_mixed (J := ?_)
   refine Mz (J := ?_)
   refine Mt [.slice A1 S1.length c1, .agg #[.int .i64 10, .int .i64 (S1.getD J.toNat default).holder, .string emp], .int .i64 0] fun bs w hS => ?_
   have hask0 : mAsk (S1.map CLock.abs) t who = 0 := by rw [hF1]; assumption
   rw [← hF1]
   have hq1 : (S1.getD J.toNat default).abs.holder = (S1.getD J.toNat default).holder := rfl
   have hq2 : (S1.getD J.toNat default).abs.fence = (S1.getD J.toNat default).fence := rfl
   have hq3 : (S1.getD J.toNat default).abs.line = (S1.getD J.toNat default).line.xs := rfl
   have hq4 : (S1.getD J.toNat default).abs.name = (S1.getD J.toNat default).name := rfl
   have hlt : lTake (S1.getD J.toNat default).abs who wait = ((S1.getD J.toNat default).abs, ⟨10, (S1.getD J.toNat default).holder, emp⟩) := by
     unfold lTake
     simp only [hq1, hq2, hq3, hq4]
     repeat (first | rw [if_pos (by first | assumption | omega | exact .inl (by assumption) | exact .inr (by assumption))] | rw [if_neg (by first | assumption | omega | (rintro (h8 | h8) <;> simp_all; done))])
     all_goals rfl
   have hm : mTake (S1.map CLock.abs) t who wait = (S1.map CLock.abs, ⟨10, (S1.getD J.toNat default).holder, emp⟩, 0) := by
     unfold mTake lIdx
     simp only [hJ, lgetD, List.length_map]
     rw [hlt]
     repeat (first | rw [if_pos (by first | assumption | omega)] | rw [if_neg (by first | assumption | omega | (intro h0; first | exact absurd h0 (by assumption) | (simp_all; done)))])
     all_goals (show ((S1.map CLock.abs).set J.toNat (S1.getD J.toNat default).abs, _, _) = _; rw [← lgetD, set_getD (by rw [List.length_map]; omega)])
   refine ⟨⟨A1, c1, S1⟩, ?_, ?_, hS.outS (y := (⟨A1, c1, S1⟩ : Sl CLock)) (out_locksG (.tail _ (.head _)) hS.res (fun x hx => ?_))⟩
   · rw [hm] <;> rfl
   · exact (congrArg Prod.fst hm).symm
   · exact ⟨hnm1 x hx, own_inL (.head _) hS.res hx⟩
 refine Mi (pc (pIo 92 J J.toNat S1.length (.tail _ (.head _))) (pFo 94 J.toNat 3 1 (.tail _ (.head _)))) (J := ?_)
 refine Mp (v := .bool (((S1.getD J.toNat default).line.xs.take (S1.getD J.toNat default).line.n).any fun z => decide (z = who))) Tryz.call103 (fun bs w hS => ref_has (S1.getD J.toNat default).line (S1.getD J.toNat default).line.n who w (And.right (own_eltL (hS.res _ (.head _)) hnm1 (mem_of_getD (i := J.toNat) (by omega)))) (by omega)) (J := ?_)
 have hlh : (((S1.getD J.toNat default).line.xs.take (S1.getD J.toNat default).line.n).any fun z => decide (z = who)) = lHas (S1.getD J.toNat default).abs who := by rw [take_all (Nat.le_refl _)]; rfl
 rw [hlh]
 refine Mbn (lHas (S1.getD J.toNat default).abs who) (T := fun h9 => ?_) (F := fun h9 => ?_)
 · refine Mda 5 [] [0] [ownL (lineR 3) S1, rowA 115 A1 c1 (S1 : List CLock)] Tryz_mixed (J := ?_)
   refine Mz (J := ?_)
   refine Mt [.slice A1 S1.length c1, .agg #[.int .i64 10, .int .i64 (S1.getD J.toNat default).holder, .string emp], .int .i64 0] fun bs w hS => ?_
   have hask0 : mAsk (S1.map CLock.abs) t who = 0 := by rw [hF1]; assumption
   rw [← hF1]
   have hq1 : (S1.getD J.toNat default).abs.holder = (S1.getD J.toNat default).holder := rfl
   have hq2 : (S1.getD J.toNat default).abs.fence = (S1.getD J.toNat default).fence := rfl
   have hq3 : (S1.getD J.toNat default).abs.line = (S1.getD J.toNat default).line.xs := rfl
   have hq4 : (S1.getD J.toNat default).abs.name = (S1.getD J.toNat default).name := rfl
   have hlt : lTake (S1.getD J.toNat default).abs who wait = ((S1.getD J.toNat default).abs, ⟨10, (S1.getD J.toNat default).holder, emp⟩) := by
     unfold lTake
     simp only [hq1, hq2, hq3, hq4]
     repeat (first | rw [if_pos (by first | assumption | omega | exact .inl (by assumption) | exact .inr (by assumption))] | rw [if_neg (by first | assumption | omega | (rintro (h8 | h8) <;> simp_all; done))])
     all_goals rfl
   have hm : mTake (S1.map CLock.abs) t who wait = (S1.map CLock.abs, ⟨10, (S1.getD J.toNat default).holder, emp⟩, 0) := by
     unfold mTake lIdx
     simp only [hJ, lgetD, List.length_map]
     rw [hlt]
     repeat (first | rw [if_pos (by first | assumption | omega)] | rw [if_neg (by first | assumption | omega | (intro h0; first | exact absurd h0 (by assumption) | (simp_all; done)))])
     all_goals (show ((S1.map CLock.abs).set J.toNat (S1.getD J.toNat default).abs, _, _) = _; rw [← lgetD, set_getD (by rw [List.length_map]; omega)])
   refine ⟨⟨A1, c1, S1⟩, ?_, ?_, hS.outS (y := (⟨A1, c1, S1⟩ : Sl CLock)) (out_locksG (.tail _ (.head _)) hS.res (fun x hx => ?_))⟩
   · rw [hm] <;> rfl
   · exact (congrArg Prod.fst hm).symm
   · exact ⟨hnm1 x hx, own_inL (.head _) hS.res hx⟩
 refine Mi (pc (pIo 101 J J.toNat S1.length (.tail _ (.head _))) (pFo 103 J.toNat 3 1 (.tail _ (.head _)))) (J := ?_)
 refine Md ((3 : Int) ≤ (((S1.getD J.toNat default).line.n : Nat) : Int)) (T := fun h10 => ?_) (F := fun h10 => ?_)
 · refine Mt [.slice A1 S1.length c1, .agg #[.int .i64 8, .int .i64 0, .string emp], .int .i64 0] fun bs w hS => ?_
   have hask0 : mAsk (S1.map CLock.abs) t who = 0 := by rw [hF1]; assumption
   rw [← hF1]
   have hq1 : (S1.getD J.toNat default).abs.holder = (S1.getD J.toNat default).holder := rfl
   have hq2 : (S1.getD J.toNat default).abs.fence = (S1.getD J.toNat default).fence := rfl
   have hq3 : (S1.getD J.toNat default).abs.line = (S1.getD J.toNat default).line.xs := rfl
   have hq4 : (S1.getD J.toNat default).abs.name = (S1.getD J.toNat default).name := rfl
   have hlt : lTake (S1.getD J.toNat default).abs who wait = ((S1.getD J.toNat default).abs, ⟨8, 0, emp⟩) := by
     unfold lTake
     simp only [hq1, hq2, hq3, hq4]
     repeat (first | rw [if_pos (by first | assumption | omega | exact .inl (by assumption) | exact .inr (by assumption))] | rw [if_neg (by first | assumption | omega | (rintro (h8 | h8) <;> simp_all; done))])
     all_goals rfl
   have hm : mTake (S1.map CLock.abs) t who wait = (S1.map CLock.abs, ⟨8, 0, emp⟩, 0) := by
     unfold mTake lIdx
     simp only [hJ, lgetD, List.length_map]
     rw [hlt]
     repeat (first | rw [if_pos (by first | assumption | omega)] | rw [if_neg (by first | assumption | omega | (intro h0; first | exact absurd h0 (by assumption) | (simp_all; done)))])
     all_goals (show ((S1.map CLock.abs).set J.toNat (S1.getD J.toNat default).abs, _, _) = _; rw [← lgetD, set_getD (by rw [List.length_map]; omega)])
   refine ⟨⟨A1, c1, S1⟩, ?_, ?_, hS.outS (y := (⟨A1, c1, S1⟩ : Sl CLock)) (out_locksG (.tail _ (.head _)) hS.res (fun x hx => ?_))⟩
   · rw [hm] <;> rfl
   · exact (congrArg Prod.fst hm).symm
   · exact ⟨hnm1 x hx, own_inL (.head _) hS.res hx⟩
 refine m_part2 (rowA 3 (S1.getD J.toNat default).line.A (S1.getD J.toNat default).line.c ((S1.getD J.toNat default).line.xs : List Int)) (ownL (lineR 3) (List.eraseIdx S1 J.toNat)) (ownL_get_fp (lineR 3) (i := J.toNat) (by omega)) (fun w h => ownL_get_p (lineR 3) (i := J.toNat) (by omega) w h) ?_
 refine Mi (pc (pIo 112 J J.toNat S1.length (.tail _ (.tail _ (.head _)))) (pFo 114 J.toNat 3 1 (.tail _ (.tail _ (.head _))))) (J := ?_)
 refine M1 (J := ?_)
 refine Mal (α := Int) 8 ([who]) (h63 := (by first | omega | (simp only [List.length_append, List.length_nil, List.length_cons]; omega))) (hb := (by first | omega | (simp only [List.length_append, List.length_nil, List.length_cons]; omega))) (J := ?_)
 intro A7 c7
 refine Mi (pIo 118 J J.toNat S1.length (.tail _ (.tail _ (.head _)))) (J := ?_)
 refine m_perm (R' := [rowA 115 A1 c1 (S1 : List CLock), rowA 3 A7 c7 ((S1.getD J.toNat default).line.xs ++ [who] : List Int), ownL (lineR 3) (List.eraseIdx S1 J.toNat)]) (Pf 2 rfl) ?_
 refine Ms J.toNat 3 (⟨(S1.getD J.toNat default).name, (S1.getD J.toNat default).holder, (S1.getD J.toNat default).fence, ⟨A7, c7, (S1.getD J.toNat default).line.xs ++ [who]⟩⟩ : CLock) (by omega) (J := ?_)
 intro L8 hL8 hlL8
 have hgL8 : L8.getD J.toNat default = (⟨(S1.getD J.toNat default).name, (S1.getD J.toNat default).holder, (S1.getD J.toNat default).fence, ⟨A7, c7, (S1.getD J.toNat default).line.xs ++ [who]⟩⟩ : CLock) := by rw [hL8]; exact getD_set (by omega)
 have hbL8 : L8 = List.set S1 J.toNat (⟨(S1.getD J.toNat default).name, (S1.getD J.toNat default).holder, (S1.getD J.toNat default).fence, ⟨A7, c7, (S1.getD J.toNat default).line.xs ++ [who]⟩⟩ : CLock) := by rw [hL8]
 refine Mda 5 [] [0] [rowA 115 A1 c1 (L8 : List CLock), rowA 3 A7 c7 ((S1.getD J.toNat default).line.xs ++ [who] : List Int), ownL (lineR 3) (List.eraseIdx S1 J.toNat)] Tryz_mixed (J := ?_)
 refine Mz (J := ?_)
 refine Mt [.slice A1 S1.length c1, .agg #[.int .i64 10, .int .i64 (S1.getD J.toNat default).holder, .string emp], .int .i64 0] fun bs w hS => ?_
 have hask0 : mAsk (S1.map CLock.abs) t who = 0 := by rw [hF1]; assumption
 rw [← hF1]
 have hq1 : (S1.getD J.toNat default).abs.holder = (S1.getD J.toNat default).holder := rfl
 have hq2 : (S1.getD J.toNat default).abs.fence = (S1.getD J.toNat default).fence := rfl
 have hq3 : (S1.getD J.toNat default).abs.line = (S1.getD J.toNat default).line.xs := rfl
 have hq4 : (S1.getD J.toNat default).abs.name = (S1.getD J.toNat default).name := rfl
 have hvx := setL_map hbL8
 have hlt : lTake (S1.getD J.toNat default).abs who wait = (((⟨(S1.getD J.toNat default).name, (S1.getD J.toNat default).holder, (S1.getD J.toNat default).fence, ⟨A7, c7, (S1.getD J.toNat default).line.xs ++ [who]⟩⟩ : CLock)).abs, ⟨10, (S1.getD J.toNat default).holder, emp⟩) := by
   unfold lTake
   simp only [hq1, hq2, hq3, hq4]
   repeat (first | rw [if_pos (by first | assumption | omega | exact .inl (by assumption) | exact .inr (by assumption))] | rw [if_neg (by first | assumption | omega | (rintro (h8 | h8) <;> simp_all; done))])
   all_goals rfl
 have hm : mTake (S1.map CLock.abs) t who wait = ((S1.map CLock.abs).set J.toNat ((⟨(S1.getD J.toNat default).name, (S1.getD J.toNat default).holder, (S1.getD J.toNat default).fence, ⟨A7, c7, (S1.getD J.toNat default).line.xs ++ [who]⟩⟩ : CLock)).abs, ⟨10, (S1.getD J.toNat default).holder, emp⟩, 0) := by
   unfold mTake lIdx
   simp only [hJ, lgetD, List.length_map]
   rw [hlt]
   repeat (first | rw [if_pos (by first | assumption | omega)] | rw [if_neg (by first | assumption | omega | (intro h0; first | exact absurd h0 (by assumption) | (simp_all; done)))])
   all_goals rfl
 refine ⟨⟨A1, c1, L8⟩, ?_, ?_, hS.outS (y := (⟨A1, c1, L8⟩ : Sl CLock)) (out_locksG (.head _) hS.res (fun x hx => ?_))⟩
 · have hll : S1.length = L8.length := by rw [hbL8, List.length_set]
   rw [hm]
   exact congrArg (fun q => Ending.returned (.tuple #[.slice A1 q c1, .agg #[.int .i64 10, .int .i64 (S1.getD J.toNat default).holder, .string emp], .int .i64 0])) hll
 · exact Eq.trans hvx (congrArg Prod.fst hm).symm
 · rw [hbL8] at hx
   rcases mem_set_ne hx with hx | hx
   · subst hx; exact ⟨hnm1 (S1.getD J.toNat default) (mem_of_getD (L := S1) (i := J.toNat) (by omega)), allR_row (.tail _ (.head _)) (hS.res _ (.tail _ (.head _))) (fun _ _ => trivial)⟩
   · exact ⟨hnm1 x (List.mem_of_mem_eraseIdx hx), own_inL (.tail _ (.tail _ (.head _))) hS.res hx⟩

theorem lock_Free {B : Nat → Prop} (s : Sl CLock) (t : ByteArray) (who : Int) (w : World) (hs : s.rd B w) (ht : t.size ≤ 9223372036854775807) : Calls Tryz.prog 85 #[.slice s.A s.n s.c, .string t, .int .i64 who] w fun e w' => ∃ y : Sl CLock, e = .returned (.tuple #[.slice y.A y.n y.c, .agg #[.int .i64 ((mFree (s.xs.map CLock.abs) t who).2.1).code, .int .i64 ((mFree (s.xs.map CLock.abs) t who).2.1).n, .string ((mFree (s.xs.map CLock.abs) t who).2.1).text], .int .i64 (mFree (s.xs.map CLock.abs) t who).2.2]) ∧ y.xs.map CLock.abs = (mFree (s.xs.map CLock.abs) t who).1 ∧ FreshS w w' y := by
 have oks := Sl.rd.ok hs
 have ncs := Sl.ok.nc oks
 have hns : s.n = s.xs.length := rfl
 refine M0 Tryz.func85 (J := ?_)
 by_cases h1 : mAsk (s.xs.map CLock.abs) t who = 0
 rotate_left
 · refine Mp (v := .tuple #[.slice none 0 0, .int .i64 0, .bool false, .int .i64 (mAsk (s.xs.map CLock.abs) t who)]) Tryz.call148 (fun bs w hS => (lock_begin s t who w (Sl.rd.kp hs hS.kp) (by first | assumption | omega | (simp only [emp_size]; omega))).mono (fun e w' h => (h.resolve_right (fun h9 => h1 h9.1)).2)) (J := ?_)
   refine Mdn (mAsk (s.xs.map CLock.abs) t who = 0) (T := fun h5 => ?_) (F := fun h5 => ?_)
   · exact absurd h5 h1
   refine Mt [.slice none 0 0, .agg #[.int .i64 0, .int .i64 0, .string emp], .int .i64 (mAsk (s.xs.map CLock.abs) t who)] fun bs w hS => ?_
   have hm : mFree (s.xs.map CLock.abs) t who = ([], zRep, mAsk (s.xs.map CLock.abs) t who) := by
     unfold mFree
     repeat (first | rw [if_pos (by first | assumption | omega)] | rw [if_neg (by first | assumption | omega | (intro h0; first | exact absurd h0 (by assumption) | (simp_all; done)))])
     all_goals rfl
   refine ⟨Sl.nil, ?_, ?_, hS.outS (Sl.rd_nil _ _)⟩
   · rw [hm] <;> rfl
   · rw [hm] <;> rfl
 refine Mf (σ := Sl CLock) (v := fun y1 => .tuple #[.slice y1.A y1.n y1.c, .int .i64 ((mBS (fun x : CLock => cmpS x.name t) s.xs : Nat) : Int), .bool (mBSf (fun x : CLock => cmpS x.name t) s.xs), .int .i64 0]) (F := fun y1 => y1.xs.map CLock.abs = s.xs.map CLock.abs) (r := fun y1 => locksR 115 3 y1) Tryz.call148 (fun bs w hS => (lock_begin s t who w (Sl.rd.kp hs hS.kp) (by first | assumption | omega | (simp only [emp_size]; omega))).mono (fun e w' h => (h.resolve_left (fun h9 => h9.1 h1)).2)) (J := ?_)
 rintro y1 hF1
 refine m_split2 ?_
 obtain ⟨A1, c1, S1⟩ := y1
 have hF1 : S1.map CLock.abs = s.xs.map CLock.abs := hF1
 refine m_perm (R' := [ownL (lineR 3) S1, rowA 115 A1 c1 (S1 : List CLock)]) (List.Perm.refl _) ?_
 have hnm1 := locks_names (y := (⟨A1, c1, S1⟩ : Sl CLock)) hs hF1
 have hlen1 : S1.length = s.xs.length := by simpa using congrArg List.length hF1
 refine m_know (F := ∀ i, i < S1.length → Rds.ok (S1.getD i default)) (fun bs w hS i hi => Rds.okof (B := anyB) (w := w) (own_eltL (hS.res _ (.head _)) hnm1 (mem_of_getD hi))) fun okown1 => ?_
 refine m_know (F := RowOk A1 c1 (S1 : List CLock)) (fun bs w hS => rowA_rok (hS.res _ (.tail _ (.head _)))) fun hrow1 => ?_
 have nchrow1 := hrow1.2
 have hask := mAsk_ok h1
 have hm1 : mLocks (S1.map CLock.abs) = 0 := by rw [hF1]; exact hask.1
 have hw1 := hask.2.2.1
 have hw2 := hask.2.2.2
 have hln5 : S1.length ≤ 5 := by have h9 := (mLocks_bd hm1).1; simpa using h9
 have hbsS : mBS (fun x : CLock => cmpS x.name t) s.xs = mBS (fun x : CLock => cmpS x.name t) S1 := mBS_abs (L := s.xs) (L2 := S1) (f := CLock.abs) (c := fun x : DLock => cmpS x.name t) rfl hF1.symm
 have hbfS : mBSf (fun x : CLock => cmpS x.name t) s.xs = mBSf (fun x : CLock => cmpS x.name t) S1 := mBSf_abs (L := s.xs) (L2 := S1) (f := CLock.abs) (c := fun x : DLock => cmpS x.name t) rfl hF1.symm
 rw [hbsS, hbfS]
 have hbs := bsf_lock (L := S1) hm1 t
 have hJb := mIdx_bd (fun x : DLock => decide (x.name = t)) (S1.map CLock.abs)
 rw [List.length_map] at hJb
 generalize hJ : mIdx (fun x : DLock => decide (x.name = t)) (S1.map CLock.abs) = J at hbs hJb
 have hkl := mBS_le (fun x : CLock => cmpS x.name t) S1
 generalize hk : mBS (fun x : CLock => cmpS x.name t) S1 = k at hbs hkl ⊢
 generalize hf : mBSf (fun x : CLock => cmpS x.name t) S1 = fb at hbs ⊢
 refine Mq 24 false rfl (J := ?_)
 refine Mbn (fb) (T := fun h2 => ?_) (F := fun h2 => ?_)
 rotate_left
 · have h0J := of_decide_eq_false (hbs.1.symm.trans h2)
   refine Mt [.slice A1 S1.length c1, .agg #[.int .i64 6, .int .i64 0, .string emp], .int .i64 0] fun bs w hS => ?_
   have hask0 : mAsk (S1.map CLock.abs) t who = 0 := by rw [hF1]; assumption
   rw [← hF1]
   have hq1 : (S1.getD k default).abs.holder = (S1.getD k default).holder := rfl
   have hq2 : (S1.getD k default).abs.fence = (S1.getD k default).fence := rfl
   have hq3 : (S1.getD k default).abs.line = (S1.getD k default).line.xs := rfl
   have hq4 : (S1.getD k default).abs.name = (S1.getD k default).name := rfl
   have hm : mFree (S1.map CLock.abs) t who = (S1.map CLock.abs, ⟨6, 0, emp⟩, 0) := by
     unfold mFree lIdx
     simp only [hJ, Int.toNat_natCast, lgetD, List.length_map]
     repeat (first | rw [if_pos (by first | assumption | omega)] | rw [if_neg (by first | assumption | omega | (intro h0; first | exact absurd h0 (by assumption) | (simp_all; done)))])
     all_goals rfl
   refine ⟨⟨A1, c1, S1⟩, ?_, ?_, hS.outS (y := (⟨A1, c1, S1⟩ : Sl CLock)) (out_locksG (.tail _ (.head _)) hS.res (fun x hx => ?_))⟩
   · rw [hm] <;> rfl
   · exact (congrArg Prod.fst hm).symm
   · exact ⟨hnm1 x hx, own_inL (.head _) hS.res hx⟩
 have hkJ := hbs.2 h2
 subst hkJ
 have hk5 := lock_all hm1 (k := k) (by omega)
 obtain ⟨hk51, hk52, hk53, hk54, hk55, hk56⟩ := hk5
 have hk7 : (S1.getD k default).line.n = (S1.getD k default).line.xs.length := rfl
 refine Mi (pc (pIo 33 (k : Int) k S1.length (.tail _ (.head _))) (pFo 37 k 3 1 (.tail _ (.head _)))) (J := ?_)
 refine Mp (v := .int .i64 (mIdx (fun z => decide (z = who)) ((S1.getD k default).line.xs.take (S1.getD k default).line.n))) Tryz.call138 (fun bs w hS => idx_ints (S1.getD k default).line (S1.getD k default).line.n who w (And.right (own_eltL (hS.res _ (.head _)) hnm1 (mem_of_getD (i := k) (by omega)))) (by omega)) (J := ?_)
 have hix : mIdx (fun z => decide (z = who)) ((S1.getD k default).line.xs.take (S1.getD k default).line.n) = mIdx (fun z => decide (z = who)) (S1.getD k default).line.xs := by rw [take_all (Nat.le_refl _)]
 rw [hix]
 have hIb := mIdx_bd (fun z => decide (z = who)) (S1.getD k default).line.xs
 generalize hI : mIdx (fun z => decide (z = who)) (S1.getD k default).line.xs = I at hIb ⊢
 refine Mi (pFo 50 k 1 1 (.tail _ (.head _))) (J := ?_)
 refine Md ((S1.getD k default).holder = who) (T := fun h3 => ?_) (F := fun h3 => ?_)
 · refine m_perm (R' := [rowA 115 A1 c1 (S1 : List CLock), ownL (lineR 3) S1]) (Pf 1 rfl) ?_
   refine Mtu (σ := Unit) (v := fun _ => .tuple #[]) (F := fun _ => True) (r := fun _ => rowA 115 A1 c1 (S1.set k (passC (S1.getD k default)) : List CLock)) (vs := fun bs => [.pointer (some ((oad A1).add (k * 4)))]) Tryz.call140 (fun bs w hS => lock_pass (B := (· ∈ (lineR 3 (S1.getD k default)).fp)) A1 c1 S1 k w (hS.res _ (.head _)) hS.head1.2.2 (by omega) ⟨hnm1 _ (mem_of_getD (L := S1) (by omega)), Rr (hS.res _ (.tail _ (.head _)) (S1.getD k default) (mem_of_getD (L := S1) (by omega))) (fun b hb => hb) (fun _ _ => trivial)⟩ (fun b hb => hS.disj (r2 := ownL (lineR 3) S1) (.head _) b (List.mem_flatMap.2 ⟨(S1.getD k default), mem_of_getD (L := S1) (by omega), hb⟩)) ⟨by omega, by omega⟩) (J := ?_)
   rintro _ _
   obtain ⟨L4, hL4⟩ : ∃ M : List CLock, M = S1.set k (passC (S1.getD k default)) := ⟨_, rfl⟩
   rw [← hL4]
   have hlL4 : L4.length = S1.length := by rw [hL4, List.length_set]
   have hgL4 : L4.getD k default = passC (S1.getD k default) := by rw [hL4]; exact getD_set (by omega)
   refine Mda 9 [] [0] [rowA 115 A1 c1 (L4 : List CLock), ownL (lineR 3) S1] Tryz_mixed (J := ?_)
   refine Mih (pFk 73 k 1 1 hgL4 (.head _)) (J := ?_)
   refine Mz (J := ?_)
   refine Mt [.slice A1 S1.length c1, .agg #[.int .i64 0, .int .i64 (passC (S1.getD k default)).holder, .string emp], .int .i64 0] fun bs w hS => ?_
   have hask0 : mAsk (S1.map CLock.abs) t who = 0 := by rw [hF1]; assumption
   rw [← hF1]
   have hq1 : (S1.getD k default).abs.holder = (S1.getD k default).holder := rfl
   have hq2 : (S1.getD k default).abs.fence = (S1.getD k default).fence := rfl
   have hq3 : (S1.getD k default).abs.line = (S1.getD k default).line.xs := rfl
   have hq4 : (S1.getD k default).abs.name = (S1.getD k default).name := rfl
   have hvx := setL_map hL4
   have hpa := passC_abs (S1.getD k default)
   rw [hpa] at hvx
   have hlt : lFree (S1.getD k default).abs who = ((mPass (S1.getD k default).abs), ⟨0, (passC (S1.getD k default)).holder, emp⟩) := by
     unfold lFree
     simp only [hq1, hq2, hq3, hq4]
     repeat (first | rw [if_pos (by first | assumption | omega)] | rw [if_neg (by first | assumption | omega | (rw [hlh]; simp; done) | (intro h0; simp_all; done))])
     all_goals first | rfl | exact congrArg (fun h : Int => (mPass (S1.getD k default).abs, (⟨0, h, emp⟩ : DReply))) (congrArg DLock.holder hpa).symm
   have hm : mFree (S1.map CLock.abs) t who = ((S1.map CLock.abs).set k (mPass (S1.getD k default).abs), ⟨0, (passC (S1.getD k default)).holder, emp⟩, 0) := by
     unfold mFree lIdx
     simp only [hJ, Int.toNat_natCast, lgetD, List.length_map]
     rw [hlt]
     repeat (first | rw [if_pos (by first | assumption | omega)] | rw [if_neg (by first | assumption | omega | (intro h0; first | exact absurd h0 (by assumption) | (simp_all; done)))])
     all_goals rfl
   refine ⟨⟨A1, c1, L4⟩, ?_, ?_, hS.outS (y := (⟨A1, c1, L4⟩ : Sl CLock)) (out_locksG (.head _) hS.res (fun x hx => ?_))⟩
   · have hll : S1.length = L4.length := by rw [hL4, List.length_set]
     rw [hm]
     exact congrArg (fun q => Ending.returned (.tuple #[.slice A1 q c1, .agg #[.int .i64 0, .int .i64 (passC (S1.getD k default)).holder, .string emp], .int .i64 0])) hll
   · exact Eq.trans hvx (congrArg Prod.fst hm).symm
   · rw [hL4] at hx
     rcases mem_set hx with hx | hx
     · subst hx; have hP := passC_in (.tail _ (.head _)) hS.res (x := (S1.getD k default)) (mem_of_getD (L := S1) (i := k) (by omega)); exact ⟨by rw [hP.1]; exact hnm1 (S1.getD k default) (mem_of_getD (L := S1) (i := k) (by omega)), hP.2⟩
     · exact ⟨hnm1 x hx, own_inL (.tail _ (.head _)) hS.res hx⟩
 refine Md ((0 : Int) ≤ I) (T := fun h4 => ?_) (F := fun h4 => ?_)
 rotate_left
 · refine Mda 9 [] [0] [ownL (lineR 3) S1, rowA 115 A1 c1 (S1 : List CLock)] Tryz_mixed (J := ?_)
   refine Mih (pFo 44 k 1 1 (.tail _ (.head _))) (J := ?_)
   refine Mz (J := ?_)
   refine Mt [.slice A1 S1.length c1, .agg #[.int .i64 10, .int .i64 (S1.getD k default).holder, .string emp], .int .i64 0] fun bs w hS => ?_
   have hask0 : mAsk (S1.map CLock.abs) t who = 0 := by rw [hF1]; assumption
   rw [← hF1]
   have hq1 : (S1.getD k default).abs.holder = (S1.getD k default).holder := rfl
   have hq2 : (S1.getD k default).abs.fence = (S1.getD k default).fence := rfl
   have hq3 : (S1.getD k default).abs.line = (S1.getD k default).line.xs := rfl
   have hq4 : (S1.getD k default).abs.name = (S1.getD k default).name := rfl
   have hlh : lHas (S1.getD k default).abs who = false := by rw [has_idx]; show decide (0 ≤ mIdx _ (S1.getD k default).line.xs) = _; rw [hI]; exact decide_eq_false h4
   have hlt : lFree (S1.getD k default).abs who = ((S1.getD k default).abs, ⟨10, (S1.getD k default).holder, emp⟩) := by
     unfold lFree
     simp only [hq1, hq2, hq3, hq4]
     repeat (first | rw [if_pos (by first | assumption | omega)] | rw [if_neg (by first | assumption | omega | (rw [hlh]; simp; done) | (intro h0; simp_all; done))])
     all_goals first | rfl | exact congrArg (fun h : Int => (mPass (S1.getD k default).abs, (⟨0, h, emp⟩ : DReply))) (congrArg DLock.holder hpa).symm
   have hm : mFree (S1.map CLock.abs) t who = (S1.map CLock.abs, ⟨10, (S1.getD k default).holder, emp⟩, 0) := by
     unfold mFree lIdx
     simp only [hJ, Int.toNat_natCast, lgetD, List.length_map]
     rw [hlt]
     repeat (first | rw [if_pos (by first | assumption | omega)] | rw [if_neg (by first | assumption | omega | (intro h0; first | exact absurd h0 (by assumption) | (simp_all; done)))])
     all_goals (show ((S1.map CLock.abs).set k (S1.getD k default).abs, _, _) = _; rw [← lgetD, set_getD (by rw [List.length_map]; omega)])
   refine ⟨⟨A1, c1, S1⟩, ?_, ?_, hS.outS (y := (⟨A1, c1, S1⟩ : Sl CLock)) (out_locksG (.tail _ (.head _)) hS.res (fun x hx => ?_))⟩
   · rw [hm] <;> rfl
   · exact (congrArg Prod.fst hm).symm
   · exact ⟨hnm1 x hx, own_inL (.head _) hS.res hx⟩
 refine m_part2 (rowA 3 (S1.getD k default).line.A (S1.getD k default).line.c ((S1.getD k default).line.xs : List Int)) (ownL (lineR 3) (List.eraseIdx S1 k)) (ownL_get_fp (lineR 3) (i := k) (by omega)) (fun w h => ownL_get_p (lineR 3) (i := k) (by omega) w h) ?_
 refine Mi (pc (pFo 62 k 3 1 (.tail _ (.tail _ (.head _)))) (pR (I + 1))) (J := ?_)
 refine Mtu (σ := Unit) (v := fun _ => .slice (S1.getD k default).line.A ((S1.getD k default).line.xs.take I.toNat ++ (S1.getD k default).line.xs.drop (I.toNat + 1)).length (S1.getD k default).line.c) (F := fun _ => True) (r := fun _ => rowA 3 (S1.getD k default).line.A (S1.getD k default).line.c ((S1.getD k default).line.xs.take I.toNat ++ (S1.getD k default).line.xs.drop (I.toNat + 1) : List Int)) (vs := fun bs => [.slice (S1.getD k default).line.A (S1.getD k default).line.n (S1.getD k default).line.c, .int .i64 I, .int .i64 (I + 1)]) Tryz.call139 (fun bs w hS => (delR_Int (S1.getD k default).line.A (S1.getD k default).line.c (S1.getD k default).line.xs I.toNat (I.toNat + 1) _ _ w (hS.res _ (.head _)) hS.head1.2.2 (by omega) (by omega) (by first | omega | (simp only [Sl.n] at *; omega)) (by first | omega | (simp only [Sl.n] at *; omega))).mono (fun e w' ⟨h1, h2⟩ => ⟨(), h1, trivial, h2⟩)) (J := ?_)
 rintro _ _
 refine m_perm (R' := [rowA 115 A1 c1 (S1 : List CLock), rowA 3 (S1.getD k default).line.A (S1.getD k default).line.c ((S1.getD k default).line.xs.take I.toNat ++ (S1.getD k default).line.xs.drop (I.toNat + 1) : List Int), ownL (lineR 3) (List.eraseIdx S1 k)]) (Pf 2 rfl) ?_
 refine Ms k 3 (⟨(S1.getD k default).name, (S1.getD k default).holder, (S1.getD k default).fence, ⟨(S1.getD k default).line.A, (S1.getD k default).line.c, (S1.getD k default).line.xs.take I.toNat ++ (S1.getD k default).line.xs.drop (I.toNat + 1)⟩⟩ : CLock) (by omega) (J := ?_)
 intro L6 hL6 hlL6
 have hgL6 : L6.getD k default = (⟨(S1.getD k default).name, (S1.getD k default).holder, (S1.getD k default).fence, ⟨(S1.getD k default).line.A, (S1.getD k default).line.c, (S1.getD k default).line.xs.take I.toNat ++ (S1.getD k default).line.xs.drop (I.toNat + 1)⟩⟩ : CLock) := by rw [hL6]; exact getD_set (by omega)
 have hbL6 : L6 = List.set S1 k (⟨(S1.getD k default).name, (S1.getD k default).holder, (S1.getD k default).fence, ⟨(S1.getD k default).line.A, (S1.getD k default).line.c, (S1.getD k default).line.xs.take I.toNat ++ (S1.getD k default).line.xs.drop (I.toNat + 1)⟩⟩ : CLock) := by rw [hL6]
 refine Mda 9 [] [0] [rowA 115 A1 c1 (L6 : List CLock), rowA 3 (S1.getD k default).line.A (S1.getD k default).line.c ((S1.getD k default).line.xs.take I.toNat ++ (S1.getD k default).line.xs.drop (I.toNat + 1) : List Int), ownL (lineR 3) (List.eraseIdx S1 k)] Tryz_mixed (J := ?_)
 refine Mih (pFk 73 k 1 1 hgL6 (.head _)) (J := ?_)
 refine Mz (J := ?_)
 refine Mt [.slice A1 S1.length c1, .agg #[.int .i64 0, .int .i64 (S1.getD k default).holder, .string emp], .int .i64 0] fun bs w hS => ?_
 have hask0 : mAsk (S1.map CLock.abs) t who = 0 := by rw [hF1]; assumption
 rw [← hF1]
 have hq1 : (S1.getD k default).abs.holder = (S1.getD k default).holder := rfl
 have hq2 : (S1.getD k default).abs.fence = (S1.getD k default).fence := rfl
 have hq3 : (S1.getD k default).abs.line = (S1.getD k default).line.xs := rfl
 have hq4 : (S1.getD k default).abs.name = (S1.getD k default).name := rfl
 have hvx := setL_map hbL6
 have hlh : lHas (S1.getD k default).abs who = true := by rw [has_idx]; show decide (0 ≤ mIdx _ (S1.getD k default).line.xs) = _; rw [hI]; exact decide_eq_true h4
 have hul : (S1.getD k default).line.xs.take I.toNat ++ (S1.getD k default).line.xs.drop (I.toNat + 1) = unline (S1.getD k default).line.xs who := line_one' (d := (S1.getD k default).abs) hk53 (i := I.toNat) (by show mIdx _ (S1.getD k default).line.xs = _; rw [hI]; omega) rfl
 rw [show ((⟨(S1.getD k default).name, (S1.getD k default).holder, (S1.getD k default).fence, ⟨(S1.getD k default).line.A, (S1.getD k default).line.c, (S1.getD k default).line.xs.take I.toNat ++ (S1.getD k default).line.xs.drop (I.toNat + 1)⟩⟩ : CLock)).abs = (⟨(S1.getD k default).name, (S1.getD k default).holder, (S1.getD k default).fence, unline (S1.getD k default).line.xs who⟩ : DLock) from congrArg (fun l => (⟨(S1.getD k default).name, (S1.getD k default).holder, (S1.getD k default).fence, l⟩ : DLock)) hul] at hvx
 have hlt : lFree (S1.getD k default).abs who = (⟨(S1.getD k default).name, (S1.getD k default).holder, (S1.getD k default).fence, unline (S1.getD k default).line.xs who⟩, ⟨0, (S1.getD k default).holder, emp⟩) := by
   unfold lFree
   simp only [hq1, hq2, hq3, hq4]
   repeat (first | rw [if_pos (by first | assumption | omega)] | rw [if_neg (by first | assumption | omega | (rw [hlh]; simp; done) | (intro h0; simp_all; done))])
   all_goals first | rfl | exact congrArg (fun h : Int => (mPass (S1.getD k default).abs, (⟨0, h, emp⟩ : DReply))) (congrArg DLock.holder hpa).symm
 have hm : mFree (S1.map CLock.abs) t who = ((S1.map CLock.abs).set k ⟨(S1.getD k default).name, (S1.getD k default).holder, (S1.getD k default).fence, unline (S1.getD k default).line.xs who⟩, ⟨0, (S1.getD k default).holder, emp⟩, 0) := by
   unfold mFree lIdx
   simp only [hJ, Int.toNat_natCast, lgetD, List.length_map]
   rw [hlt]
   repeat (first | rw [if_pos (by first | assumption | omega)] | rw [if_neg (by first | assumption | omega | (intro h0; first | exact absurd h0 (by assumption) | (simp_all; done)))])
   all_goals rfl
 refine ⟨⟨A1, c1, L6⟩, ?_, ?_, hS.outS (y := (⟨A1, c1, L6⟩ : Sl CLock)) (out_locksG (.head _) hS.res (fun x hx => ?_))⟩
 · have hll : S1.length = L6.length := by rw [hbL6, List.length_set]
   rw [hm]
   exact congrArg (fun q => Ending.returned (.tuple #[.slice A1 q c1, .agg #[.int .i64 0, .int .i64 (S1.getD k default).holder, .string emp], .int .i64 0])) hll
 · exact Eq.trans hvx (congrArg Prod.fst hm).symm
 · rw [hbL6] at hx
   rcases mem_set_ne hx with hx | hx
   · subst hx; exact ⟨hnm1 (S1.getD k default) (mem_of_getD (L := S1) (i := k) (by omega)), allR_row (.tail _ (.head _)) (hS.res _ (.tail _ (.head _))) (fun _ _ => trivial)⟩
   · exact ⟨hnm1 x (List.mem_of_mem_eraseIdx hx), own_inL (.tail _ (.tail _ (.head _))) hS.res hx⟩

theorem ref_FreedOf {B : Nat → Prop} (s : Sl CLock) (t : ByteArray) (who : Int) (w : World) (hs : s.rd B w) (ht : t.size ≤ 9223372036854775807) : Calls Tryz.prog 39 #[.slice s.A s.n s.c, .string t, .int .i64 who] w fun e w' => ∃ y : Sl CLock, e = .returned (.tuple #[.slice y.A y.n y.c, .agg #[.int .i64 ((mFree (s.xs.map CLock.abs) t who).2.1).code, .int .i64 ((mFree (s.xs.map CLock.abs) t who).2.1).n, .string ((mFree (s.xs.map CLock.abs) t who).2.1).text], .int .i64 (mFree (s.xs.map CLock.abs) t who).2.2]) ∧ y.xs.map CLock.abs = (mFree (s.xs.map CLock.abs) t who).1 ∧ FreshS w w' y := by
 have oks := Sl.rd.ok hs
 have ncs := Sl.ok.nc oks
 have hns : s.n = s.xs.length := rfl
 refine M0 Tryz.func39 (J := ?_)
 refine Mp Tryz.call101 (fun bs w hS => ref_asked s t who w (Sl.rd.kp hs hS.kp) (by first | assumption | omega | (simp only [emp_size]; omega))) (J := ?_)
 refine Mdn (mAsk (s.xs.map CLock.abs) t who = 0) (T := fun h1 => ?_) (F := fun h1 => ?_)
 rotate_left
 · refine Mt [.slice none 0 0, .agg #[.int .i64 0, .int .i64 0, .string emp], .int .i64 (mAsk (s.xs.map CLock.abs) t who)] fun bs w hS => ?_
   have hm : mFree (s.xs.map CLock.abs) t who = ([], zRep, mAsk (s.xs.map CLock.abs) t who) := by
     unfold mFree
     repeat (first | rw [if_pos (by first | assumption | omega)] | rw [if_neg (by first | assumption | omega | (intro h0; first | exact absurd h0 (by assumption) | (simp_all; done)))])
     all_goals rfl
   refine ⟨Sl.nil, ?_, ?_, hS.outS (Sl.rd_nil _ _)⟩
   · rw [hm] <;> rfl
   · rw [hm] <;> rfl
 refine Mf (σ := Sl CLock) (v := fun y1 => .slice y1.A y1.n y1.c) (F := fun y1 => y1.xs.map CLock.abs = s.xs.map CLock.abs) (r := fun y1 => locksR 115 3 y1) Tryz.call18 (fun bs w hS => ref_LocksCopy s w (Sl.rd.kp hs hS.kp) (small_locks (mAsk_ok (by assumption)).1)) (J := ?_)
 rintro y1 hF1
 refine m_split2 ?_
 obtain ⟨A1, c1, S1⟩ := y1
 have hF1 : S1.map CLock.abs = s.xs.map CLock.abs := hF1
 refine m_perm (R' := [ownL (lineR 3) S1, rowA 115 A1 c1 (S1 : List CLock)]) (List.Perm.refl _) ?_
 have hnm1 := locks_names (y := (⟨A1, c1, S1⟩ : Sl CLock)) (hs) hF1
 have hlen1 : S1.length = s.xs.length := by simpa using congrArg List.length hF1
 refine m_know (F := ∀ i, i < S1.length → Rds.ok (S1.getD i default)) (fun bs w hS i hi => Rds.okof (B := anyB) (w := w) (own_eltL (hS.res _ (.head _)) hnm1 (mem_of_getD hi))) fun okown1 => ?_
 refine m_know (F := RowOk A1 c1 (S1 : List CLock)) (fun bs w hS => rowA_rok (hS.res _ (.tail _ (.head _)))) fun hrow1 => ?_
 have nchrow1 := hrow1.2
 have hask := mAsk_ok h1
 have hm1 : mLocks (S1.map CLock.abs) = 0 := by rw [hF1]; exact hask.1
 have hw1 := hask.2.2.1
 have hw2 := hask.2.2.2
 have hln5 : S1.length ≤ 5 := by have h9 := (mLocks_bd hm1).1; simpa using h9
 refine Mp (v := .int .i64 (mIdx (fun x : CLock => decide (x.name = t)) S1)) Tryz.call100 (fun bs w hS => tackroomref_lockAt (⟨A1, c1, S1⟩ : Sl CLock) t w (own_locks (hS.res _ (.head _)) (hS.res _ (.tail _ (.head _))) hnm1)) (J := ?_)
 have hJe : mIdx (fun x : CLock => decide (x.name = t)) S1 = mIdx (fun x : DLock => decide (x.name = t)) (S1.map CLock.abs) := mIdx_map CLock.abs (fun x : DLock => decide (x.name = t)) S1
 rw [hJe]
 have hJb := mIdx_bd (fun x : DLock => decide (x.name = t)) (S1.map CLock.abs)
 generalize hJ : mIdx (fun x : DLock => decide (x.name = t)) (S1.map CLock.abs) = J at hJb ⊢
 rw [List.length_map] at hJb
 refine Md (J < 0) (T := fun h2 => ?_) (F := fun h2 => ?_)
 · have h0J : ¬ 0 ≤ J := by omega
   refine Mt [.slice A1 S1.length c1, .agg #[.int .i64 6, .int .i64 0, .string emp], .int .i64 0] fun bs w hS => ?_
   have hask0 : mAsk (S1.map CLock.abs) t who = 0 := by rw [hF1]; assumption
   rw [← hF1]
   have hq1 : (S1.getD J.toNat default).abs.holder = (S1.getD J.toNat default).holder := rfl
   have hq2 : (S1.getD J.toNat default).abs.fence = (S1.getD J.toNat default).fence := rfl
   have hq3 : (S1.getD J.toNat default).abs.line = (S1.getD J.toNat default).line.xs := rfl
   have hq4 : (S1.getD J.toNat default).abs.name = (S1.getD J.toNat default).name := rfl
   have hm : mFree (S1.map CLock.abs) t who = (S1.map CLock.abs, ⟨6, 0, emp⟩, 0) := by
     unfold mFree lIdx
     simp only [hJ, lgetD, List.length_map]
     repeat (first | rw [if_pos (by first | assumption | omega)] | rw [if_neg (by first | assumption | omega | (intro h0; first | exact absurd h0 (by assumption) | (simp_all; done)))])
     all_goals rfl
   refine ⟨⟨A1, c1, S1⟩, ?_, ?_, hS.outS (y := (⟨A1, c1, S1⟩ : Sl CLock)) (out_locksG (.tail _ (.head _)) hS.res (fun x hx => ?_))⟩
   · rw [hm] <;> rfl
   · exact (congrArg Prod.fst hm).symm
   · exact ⟨hnm1 x hx, own_inL (.head _) hS.res hx⟩
 have h0J : 0 ≤ J := by omega
 have hk5 := lock_all hm1 (k := J.toNat) (by omega)
 obtain ⟨hk51, hk52, hk53, hk54, hk55, hk56⟩ := hk5
 have hk7 : (S1.getD J.toNat default).line.n = (S1.getD J.toNat default).line.xs.length := rfl
 refine Mi (pc (pIo 31 J J.toNat S1.length (.tail _ (.head _))) (pFo 33 J.toNat 1 1 (.tail _ (.head _)))) (J := ?_)
 refine Md ((S1.getD J.toNat default).holder = who) (T := fun h3 => ?_) (F := fun h3 => ?_)
 · refine Mi (pc (pIo 40 J J.toNat S1.length (.tail _ (.head _))) (pEo 41 J.toNat (.tail _ (.head _)))) (J := ?_)
   refine Mu (σ := CLock) (v := fun y3 => .agg #[.string y3.name, .int .i64 y3.holder, .int .i64 y3.fence, .slice y3.line.A y3.line.n y3.line.c]) (F := fun y3 => y3.abs = mPass (S1.getD J.toNat default).abs) Tryz.call104 (fun bs w hS => ref_passed (S1.getD J.toNat default) w (own_eltL (hS.res _ (.head _)) hnm1 (mem_of_getD (i := J.toNat) (by omega))) ⟨by omega, by omega⟩ (by omega)) (J := ?_)
   rintro fp3 y3 hF3 hok3
   refine Mi (pIo 43 J J.toNat S1.length (.tail _ (.tail _ (.head _)))) (J := ?_)
   refine m_perm (R' := [rowA 115 A1 c1 (S1 : List CLock), subR fp3 y3, ownL (lineR 3) S1]) (Pf 2 rfl) ?_
   refine Ms J.toNat 0 (⟨y3.name, y3.holder, y3.fence, y3.line⟩ : CLock) (by omega) (J := ?_)
   intro L4 hL4 hlL4
   have hgL4 : L4.getD J.toNat default = (⟨y3.name, y3.holder, y3.fence, y3.line⟩ : CLock) := by rw [hL4]; exact getD_set (by omega)
   have hbL4 : L4 = List.set S1 J.toNat (⟨y3.name, y3.holder, y3.fence, y3.line⟩ : CLock) := by rw [hL4]
   refine Mda 10 [] [0] [rowA 115 A1 c1 (L4 : List CLock), subR fp3 y3, ownL (lineR 3) S1] Tryz_mixed (J := ?_)
   refine Mih (pc (pIo 72 J J.toNat S1.length (.head _)) (pFk 74 J.toNat 1 1 hgL4 (.head _))) (J := ?_)
   refine Mz (J := ?_)
   refine Mt [.slice A1 S1.length c1, .agg #[.int .i64 0, .int .i64 y3.holder, .string emp], .int .i64 0] fun bs w hS => ?_
   have hask0 : mAsk (S1.map CLock.abs) t who = 0 := by rw [hF1]; assumption
   rw [← hF1]
   have hq1 : (S1.getD J.toNat default).abs.holder = (S1.getD J.toNat default).holder := rfl
   have hq2 : (S1.getD J.toNat default).abs.fence = (S1.getD J.toNat default).fence := rfl
   have hq3 : (S1.getD J.toNat default).abs.line = (S1.getD J.toNat default).line.xs := rfl
   have hq4 : (S1.getD J.toNat default).abs.name = (S1.getD J.toNat default).name := rfl
   have hvx := setL_map hbL4
   rw [show ((⟨y3.name, y3.holder, y3.fence, y3.line⟩ : CLock)).abs = mPass (S1.getD J.toNat default).abs from hF3] at hvx
   have hpa := hF3
   have hlt : lFree (S1.getD J.toNat default).abs who = ((mPass (S1.getD J.toNat default).abs), ⟨0, y3.holder, emp⟩) := by
     unfold lFree
     simp only [hq1, hq2, hq3, hq4]
     repeat (first | rw [if_pos (by first | assumption | omega)] | rw [if_neg (by first | assumption | omega | (rw [hlh]; simp; done) | (intro h0; simp_all; done))])
     all_goals first | rfl | exact congrArg (fun h : Int => (mPass (S1.getD J.toNat default).abs, (⟨0, h, emp⟩ : DReply))) (congrArg DLock.holder hpa).symm
   have hm : mFree (S1.map CLock.abs) t who = ((S1.map CLock.abs).set J.toNat (mPass (S1.getD J.toNat default).abs), ⟨0, y3.holder, emp⟩, 0) := by
     unfold mFree lIdx
     simp only [hJ, lgetD, List.length_map]
     rw [hlt]
     repeat (first | rw [if_pos (by first | assumption | omega)] | rw [if_neg (by first | assumption | omega | (intro h0; first | exact absurd h0 (by assumption) | (simp_all; done)))])
     all_goals rfl
   refine ⟨⟨A1, c1, L4⟩, ?_, ?_, hS.outS (y := (⟨A1, c1, L4⟩ : Sl CLock)) (out_locksG (.head _) hS.res (fun x hx => ?_))⟩
   · have hll : S1.length = L4.length := by rw [hbL4, List.length_set]
     rw [hm]
     exact congrArg (fun q => Ending.returned (.tuple #[.slice A1 q c1, .agg #[.int .i64 0, .int .i64 y3.holder, .string emp], .int .i64 0])) hll
   · exact Eq.trans hvx (congrArg Prod.fst hm).symm
   · rw [hbL4] at hx
     rcases mem_set hx with hx | hx
     · subst hx; exact allR_sub (y := y3) (.tail _ (.head _)) (hS.res _ (.tail _ (.head _)))
     · exact ⟨hnm1 x hx, own_inL (.tail _ (.tail _ (.head _))) hS.res hx⟩
 refine Mi (pc (pIo 46 J J.toNat S1.length (.tail _ (.head _))) (pFo 48 J.toNat 3 1 (.tail _ (.head _)))) (J := ?_)
 refine Mp (v := .bool (((S1.getD J.toNat default).line.xs.take (S1.getD J.toNat default).line.n).any fun z => decide (z = who))) Tryz.call103 (fun bs w hS => ref_has (S1.getD J.toNat default).line (S1.getD J.toNat default).line.n who w (And.right (own_eltL (hS.res _ (.head _)) hnm1 (mem_of_getD (i := J.toNat) (by omega)))) (by omega)) (J := ?_)
 have hlh : (((S1.getD J.toNat default).line.xs.take (S1.getD J.toNat default).line.n).any fun z => decide (z = who)) = lHas (S1.getD J.toNat default).abs who := by rw [take_all (Nat.le_refl _)]; rfl
 rw [hlh]
 refine Mb (lHas (S1.getD J.toNat default).abs who) (T := fun h4 => ?_) (F := fun h4 => ?_)
 rotate_left
 · refine Mda 10 [] [0] [ownL (lineR 3) S1, rowA 115 A1 c1 (S1 : List CLock)] Tryz_mixed (J := ?_)
   refine Mih (pc (pIo 65 J J.toNat S1.length (.tail _ (.head _))) (pFo 67 J.toNat 1 1 (.tail _ (.head _)))) (J := ?_)
   refine Mz (J := ?_)
   refine Mt [.slice A1 S1.length c1, .agg #[.int .i64 10, .int .i64 (S1.getD J.toNat default).holder, .string emp], .int .i64 0] fun bs w hS => ?_
   have hask0 : mAsk (S1.map CLock.abs) t who = 0 := by rw [hF1]; assumption
   rw [← hF1]
   have hq1 : (S1.getD J.toNat default).abs.holder = (S1.getD J.toNat default).holder := rfl
   have hq2 : (S1.getD J.toNat default).abs.fence = (S1.getD J.toNat default).fence := rfl
   have hq3 : (S1.getD J.toNat default).abs.line = (S1.getD J.toNat default).line.xs := rfl
   have hq4 : (S1.getD J.toNat default).abs.name = (S1.getD J.toNat default).name := rfl
   have hlt : lFree (S1.getD J.toNat default).abs who = ((S1.getD J.toNat default).abs, ⟨10, (S1.getD J.toNat default).holder, emp⟩) := by
     unfold lFree
     simp only [hq1, hq2, hq3, hq4]
     repeat (first | rw [if_pos (by first | assumption | omega)] | rw [if_neg (by first | assumption | omega | (rw [hlh]; simp; done) | (intro h0; simp_all; done))])
     all_goals first | rfl | exact congrArg (fun h : Int => (mPass (S1.getD J.toNat default).abs, (⟨0, h, emp⟩ : DReply))) (congrArg DLock.holder hpa).symm
   have hm : mFree (S1.map CLock.abs) t who = (S1.map CLock.abs, ⟨10, (S1.getD J.toNat default).holder, emp⟩, 0) := by
     unfold mFree lIdx
     simp only [hJ, lgetD, List.length_map]
     rw [hlt]
     repeat (first | rw [if_pos (by first | assumption | omega)] | rw [if_neg (by first | assumption | omega | (intro h0; first | exact absurd h0 (by assumption) | (simp_all; done)))])
     all_goals (show ((S1.map CLock.abs).set J.toNat (S1.getD J.toNat default).abs, _, _) = _; rw [← lgetD, set_getD (by rw [List.length_map]; omega)])
   refine ⟨⟨A1, c1, S1⟩, ?_, ?_, hS.outS (y := (⟨A1, c1, S1⟩ : Sl CLock)) (out_locksG (.tail _ (.head _)) hS.res (fun x hx => ?_))⟩
   · rw [hm] <;> rfl
   · exact (congrArg Prod.fst hm).symm
   · exact ⟨hnm1 x hx, own_inL (.head _) hS.res hx⟩
 refine Mi (pc (pIo 55 J J.toNat S1.length (.tail _ (.head _))) (pFo 57 J.toNat 3 1 (.tail _ (.head _)))) (J := ?_)
 refine Mu (σ := Sl Int) (v := fun y5 => .slice y5.A y5.n y5.c) (F := fun y5 => y5.xs = unline (S1.getD J.toNat default).line.xs who) Tryz.call105 (fun bs w hS => ref_unlined (S1.getD J.toNat default).line who w (And.right (own_eltL (hS.res _ (.head _)) hnm1 (mem_of_getD (i := J.toNat) (by omega)))) (by omega)) (J := ?_)
 rintro fp5 y5 hF5 hok5
 refine Mi (pIo 60 J J.toNat S1.length (.tail _ (.tail _ (.head _)))) (J := ?_)
 refine m_perm (R' := [rowA 115 A1 c1 (S1 : List CLock), subR fp5 y5, ownL (lineR 3) S1]) (Pf 2 rfl) ?_
 refine Ms J.toNat 3 (⟨(S1.getD J.toNat default).name, (S1.getD J.toNat default).holder, (S1.getD J.toNat default).fence, y5⟩ : CLock) (by omega) (J := ?_)
 intro L6 hL6 hlL6
 have hgL6 : L6.getD J.toNat default = (⟨(S1.getD J.toNat default).name, (S1.getD J.toNat default).holder, (S1.getD J.toNat default).fence, y5⟩ : CLock) := by rw [hL6]; exact getD_set (by omega)
 have hbL6 : L6 = List.set S1 J.toNat (⟨(S1.getD J.toNat default).name, (S1.getD J.toNat default).holder, (S1.getD J.toNat default).fence, y5⟩ : CLock) := by rw [hL6]
 refine Mda 10 [] [0] [rowA 115 A1 c1 (L6 : List CLock), subR fp5 y5, ownL (lineR 3) S1] Tryz_mixed (J := ?_)
 refine Mih (pc (pIo 72 J J.toNat S1.length (.head _)) (pFk 74 J.toNat 1 1 hgL6 (.head _))) (J := ?_)
 refine Mz (J := ?_)
 refine Mt [.slice A1 S1.length c1, .agg #[.int .i64 0, .int .i64 (S1.getD J.toNat default).holder, .string emp], .int .i64 0] fun bs w hS => ?_
 have hask0 : mAsk (S1.map CLock.abs) t who = 0 := by rw [hF1]; assumption
 rw [← hF1]
 have hq1 : (S1.getD J.toNat default).abs.holder = (S1.getD J.toNat default).holder := rfl
 have hq2 : (S1.getD J.toNat default).abs.fence = (S1.getD J.toNat default).fence := rfl
 have hq3 : (S1.getD J.toNat default).abs.line = (S1.getD J.toNat default).line.xs := rfl
 have hq4 : (S1.getD J.toNat default).abs.name = (S1.getD J.toNat default).name := rfl
 have hvx := setL_map hbL6
 rw [show ((⟨(S1.getD J.toNat default).name, (S1.getD J.toNat default).holder, (S1.getD J.toNat default).fence, y5⟩ : CLock)).abs = ⟨(S1.getD J.toNat default).name, (S1.getD J.toNat default).holder, (S1.getD J.toNat default).fence, unline (S1.getD J.toNat default).line.xs who⟩ from congrArg (fun l => (⟨(S1.getD J.toNat default).name, (S1.getD J.toNat default).holder, (S1.getD J.toNat default).fence, l⟩ : DLock)) hF5] at hvx
 have hlt : lFree (S1.getD J.toNat default).abs who = (⟨(S1.getD J.toNat default).name, (S1.getD J.toNat default).holder, (S1.getD J.toNat default).fence, unline (S1.getD J.toNat default).line.xs who⟩, ⟨0, (S1.getD J.toNat default).holder, emp⟩) := by
   unfold lFree
   simp only [hq1, hq2, hq3, hq4]
   repeat (first | rw [if_pos (by first | assumption | omega)] | rw [if_neg (by first | assumption | omega | (rw [hlh]; simp; done) | (intro h0; simp_all; done))])
   all_goals first | rfl | exact congrArg (fun h : Int => (mPass (S1.getD J.toNat default).abs, (⟨0, h, emp⟩ : DReply))) (congrArg DLock.holder hpa).symm
 have hm : mFree (S1.map CLock.abs) t who = ((S1.map CLock.abs).set J.toNat ⟨(S1.getD J.toNat default).name, (S1.getD J.toNat default).holder, (S1.getD J.toNat default).fence, unline (S1.getD J.toNat default).line.xs who⟩, ⟨0, (S1.getD J.toNat default).holder, emp⟩, 0) := by
   unfold mFree lIdx
   simp only [hJ, lgetD, List.length_map]
   rw [hlt]
   repeat (first | rw [if_pos (by first | assumption | omega)] | rw [if_neg (by first | assumption | omega | (intro h0; first | exact absurd h0 (by assumption) | (simp_all; done)))])
   all_goals rfl
 refine ⟨⟨A1, c1, L6⟩, ?_, ?_, hS.outS (y := (⟨A1, c1, L6⟩ : Sl CLock)) (out_locksG (.head _) hS.res (fun x hx => ?_))⟩
 · have hll : S1.length = L6.length := by rw [hbL6, List.length_set]
   rw [hm]
   exact congrArg (fun q => Ending.returned (.tuple #[.slice A1 q c1, .agg #[.int .i64 0, .int .i64 (S1.getD J.toNat default).holder, .string emp], .int .i64 0])) hll
 · exact Eq.trans hvx (congrArg Prod.fst hm).symm
 · rw [hbL6] at hx
   rcases mem_set hx with hx | hx
   · subst hx; exact ⟨hnm1 (S1.getD J.toNat default) (mem_of_getD (L := S1) (i := J.toNat) (by omega)), allR_sub (y := y5) (.tail _ (.head _)) (hS.res _ (.tail _ (.head _)))⟩
   · exact ⟨hnm1 x hx, own_inL (.tail _ (.tail _ (.head _))) hS.res hx⟩

theorem same_state {B B' : Nat → Prop} (a b : CState) (w : World) (ha : Rds.sub B w a) (hb : Rds.sub B' w b) (he : a.abs = b.abs) : Calls Tryz.prog 9 #[.agg #[.int .i64 a.index, .slice a.locks.A a.locks.n a.locks.c, .slice a.pairs.A a.pairs.n a.pairs.c, .slice a.sessions.A a.sessions.n a.sessions.c], .agg #[.int .i64 b.index, .slice b.locks.A b.locks.n b.locks.c, .slice b.pairs.A b.pairs.n b.pairs.c, .slice b.sessions.A b.sessions.n b.sessions.c]] w fun e w' => e = .returned (.bool true) ∧ Kp [] w w' := by
 have oka := Rds.okof ha
 have okb := Rds.okof hb
 refine M0 Tryz.func9 (J := ?_)
 refine Md (a.index = b.index) (T := fun h1 => ?_) (F := fun h1 => ?_)
 rotate_left
 · exact absurd (congrArg (fun q => q.index) he) h1
 refine Mp (vs := fun bs => [.slice a.locks.A a.locks.n a.locks.c, .slice b.locks.A b.locks.n b.locks.c]) Tryz.call43 (fun bs w hS => same_locks _ _ w (And.left (Rds.kp ha hS.kp)) (And.left (Rds.kp hb hS.kp)) (congrArg DState.locks he)) (J := ?_)
 refine Mq 17 true rfl (J := ?_)
 refine Mp Tryz.call44 (fun bs w hS => same_pairs a.pairs b.pairs w (And.left (And.right (Rds.kp ha hS.kp))) (And.left (And.right (Rds.kp hb hS.kp))) (congrArg DState.pairs he)) (J := ?_)
 refine Mq 24 true rfl (J := ?_)
 refine Mp (vs := fun bs => [.slice a.sessions.A a.sessions.n a.sessions.c, .slice b.sessions.A b.sessions.n b.sessions.c]) Tryz.call45 (fun bs w hS => same_sessions _ _ w (And.right (And.right (Rds.kp ha hS.kp))) (And.right (And.right (Rds.kp hb hS.kp))) (congrArg DState.sessions he)) (J := ?_)
 exact Mt [.bool true] fun bs w hS => ⟨rfl, hS.kp⟩

theorem ref_StateCopy {B : Nat → Prop} (x : CState) (w : World) (hx : Rds.sub B w x) (hsm : Rds.small x) : Calls Tryz.prog 6 #[.agg #[.int .i64 x.index, .slice x.locks.A x.locks.n x.locks.c, .slice x.pairs.A x.pairs.n x.pairs.c, .slice x.sessions.A x.sessions.n x.sessions.c]] w fun e w' => ∃ y : CState, e = .returned (y.val) ∧ y.abs = x.abs ∧ FreshS w w' y := by
 have okx := Rds.okof hx
 have hsp : x.pairs.xs.length ≤ 1048576 := hsm.2.1.1
 refine M0 Tryz.func6 (J := ?_)
 refine Mda 12 [] [] [] Tryz_mixed (J := ?_)
 refine Mu Tryz.call18 (fun bs w hS => ref_LocksCopyS x.locks w (And.left (Rds.kp hx hS.kp)) (And.left hsm)) (J := ?_)
 rintro fp1 y1 hF1 hok1
 refine m_rowA (α := DPair) 128 ?_
 refine Ma (α := DPair) (L2 := x.pairs.xs) 40 (fun bs w hS => Sl.rd.src (s := x.pairs) (And.left (And.right (Rds.kp hx hS.kp)))) (J := ?_)
 intro A2 c2
 refine Mu Tryz.call19 (fun bs w hS => ref_SessionsCopyS x.sessions w (And.right (And.right (Rds.kp hx hS.kp))) (And.right (And.right hsm))) (J := ?_)
 rintro fp3 y3 hF3 hok3
 refine Mt [.agg #[.int .i64 x.index, .slice y1.A y1.n y1.c, .slice A2 ([] ++ x.pairs.xs).length c2, .slice y3.A y3.n y3.c]] fun bs w hS => ?_
 have hab : CState.abs (⟨x.index, y1, ⟨A2, c2, [] ++ x.pairs.xs⟩, y3⟩ : CState) = CState.abs x := by simp [CState.abs, *]
 exact ⟨(⟨x.index, y1, ⟨A2, c2, [] ++ x.pairs.xs⟩, y3⟩ : CState), rfl, hab, hS.outS (y := (⟨x.index, y1, ⟨A2, c2, [] ++ x.pairs.xs⟩, y3⟩ : CState)) ⟨(allR_sub (.tail _ (.tail _ (.head _))) (hS.res _ (.tail _ (.tail _ (.head _))))), (allR_row (.tail _ (.head _)) (hS.res _ (.tail _ (.head _))) (fun z hz => Sl.rd.mem (s := x.pairs) (And.left (And.right (Rds.kp hx hS.kp))) z (by simpa using hz))), (allR_sub (.head _) (hS.res _ (.head _)))⟩⟩

theorem machine_Copy {B : Nat → Prop} (x : CState) (w : World) (hx : Rds.sub B w x) (hsm : Rds.small x) : Calls Tryz.prog 22 #[.agg #[.int .i64 x.index, .slice x.locks.A x.locks.n x.locks.c, .slice x.pairs.A x.pairs.n x.pairs.c, .slice x.sessions.A x.sessions.n x.sessions.c]] w fun e w' => ∃ y : CState, e = .returned (y.val) ∧ y.abs = x.abs ∧ FreshS w w' y := by
 have okx := Rds.okof hx
 refine M0 Tryz.func22 (J := ?_)
 refine Mda 12 [] [] [] Tryz_mixed (J := ?_)
 refine Mu Tryz.call68 (fun bs w hS => lock_CopyS x.locks w (And.left (Rds.kp hx hS.kp)) (And.left hsm)) (J := ?_)
 rintro fp1 y1 hF1 hok1
 refine Mf Tryz.call69 (fun bs w hS => clone_Pair x.pairs w (And.left (And.right (Rds.kp hx hS.kp))) (And.left (And.left (And.right hsm)))) (J := ?_)
 rintro y2 hF2
 refine Mu Tryz.call70 (fun bs w hS => session_CopyS x.sessions w (And.right (And.right (Rds.kp hx hS.kp))) (And.right (And.right hsm))) (J := ?_)
 rintro fp4 y4 hF4 hok4
 refine Mt [.agg #[.int .i64 x.index, .slice y1.A y1.n y1.c, .slice y2.A y2.n y2.c, .slice y4.A y4.n y4.c]] fun bs w hS => ?_
 have hab : CState.abs (⟨x.index, y1, y2, y4⟩ : CState) = CState.abs x := by simp [CState.abs, *]
 exact ⟨(⟨x.index, y1, y2, y4⟩ : CState), rfl, hab, hS.outS (y := (⟨x.index, y1, y2, y4⟩ : CState)) ⟨(allR_sub (.tail _ (.tail _ (.head _))) (hS.res _ (.tail _ (.tail _ (.head _))))), (allR_row (.tail _ (.head _)) (hS.res _ (.tail _ (.head _))) (fun z hz => Sl.rd.mem (And.left (And.right (Rds.kp hx hS.kp))) z (hF2 ▸ hz))), (allR_sub (.head _) (hS.res _ (.head _)))⟩⟩

theorem idxF_Session {B : Nat → Prop} (s : Sl (Fl CSession)) (p : Fl CSession → Bool) (kf : Nat) (caps : Array Value) (w : World) (hs : s.rd B w) (hcall : ∀ args w, (callFunc kf args).run Tryz.prog w = .ok (.enter kf args) w)
    (hf : ∀ (w' : World) (x : (Fl CSession)), x ∈ s.xs → Kp [] w w' → Calls Tryz.prog kf (#[.agg #[.int .i64 x.v.client, .int .i64 x.v.id, .int .i64 x.v.acked, .int .i64 x.v.last, .slice x.v.replies.A x.v.replies.n x.v.replies.c]] ++ caps) w' fun e w'' => e = .returned (.bool (p x)) ∧ Kp [] w' w'') : Calls Tryz.prog 137 #[.slice s.A s.n s.c, .func (.func kf) #[] caps] w fun e w' => e = .returned (.int .i64 (mIdx p s.xs)) ∧ Kp [] w w' := by
 have oks := Sl.rd.ok hs
 have ncs := Sl.ok.nc oks
 have hns : s.n = s.xs.length := rfl
 refine M0 Tryz.func137 (J := ?_)
 refine Ml (σ := Nat) (fun i => i ≤ s.n ∧ ∀ j, j < i → p (s.at j) = false) (fun i => s.n - i) (fun _ => []) [8, 7, 0, 1] (fun i => [(8, vI (i : Int))]) (fun _ => []) 0 ⟨Nat.zero_le _, fun j hj => absurd hj (Nat.not_lt_zero _)⟩ (B := ?_)
 rintro i ⟨hi, hI⟩ _ on1
 refine Md ((i : Int) < (s.n : Int)) (T := fun h1 => ?_) (F := fun h1 => ?_)
 rotate_left
 · refine Mt [.int .i64 (-1)] fun bs w hS => ?_
   refine ⟨?_, hS.kp⟩
   rw [mIdx_none fun j hj => hI j (by omega)]
   rfl
 refine Mi (pA 14 15 (i : Int) i (rdk hs)) (J := ?_)
 refine Mv hcall (fun bs w hS => hf w (s.at i) (List.mem_of_getElem? (Sl.at_some (show i < s.n by omega))) hS.kp) (J := ?_)
 refine Mb (p (s.at i)) (T := fun h2 => ?_) (F := fun h2 => ?_)
 · refine Mt [.int .i64 (i : Int)] fun bs w hS => ?_
   refine ⟨?_, hS.kp⟩
   rw [mIdx_here (i := i) (by omega) (by assumption) hI]
   rfl
 refine Mi (pR ((i : Int) + 1)) (J := ?_)
 exact on1 (i + 1) ⟨by omega, fun j hj => by rcases Nat.lt_succ_iff_lt_or_eq.1 hj with h | h; exact hI j h; subst h; assumption⟩ (by omega)
theorem idx_Session {B : Nat → Prop} (s : Sl CSession) (p : CSession → Bool) (kf : Nat) (caps : Array Value) (w : World) (hs : s.rd B w) (hcall : ∀ args w, (callFunc kf args).run Tryz.prog w = .ok (.enter kf args) w)
    (hf : ∀ (w' : World) (x : CSession), x ∈ s.xs → Kp [] w w' → Calls Tryz.prog kf (#[.agg #[.int .i64 x.client, .int .i64 x.id, .int .i64 x.acked, .int .i64 x.last, .slice x.replies.A x.replies.n x.replies.c]] ++ caps) w' fun e w'' => e = .returned (.bool (p x)) ∧ Kp [] w' w'') : Calls Tryz.prog 137 #[.slice s.A s.n s.c, .func (.func kf) #[] caps] w fun e w' => e = .returned (.int .i64 (mIdx p s.xs)) ∧ Kp [] w w' := by
  have h := idxF_Session (⟨s.A, s.c, fls s.xs⟩ : Sl (Fl CSession)) (fun x => p x.v) kf caps w hs.fl hcall (fun w' x hx hk => hf w' x.v (by obtain ⟨y, hy, rfl⟩ := List.mem_map.1 hx; exact hy) hk)
  simp only [mIdx_fl, Sl.n, List.length_map] at h
  exact h

theorem delF_Session (A : Option Addr) (c : Nat) (L : List (Fl CSession)) (p : Fl CSession → Bool) (kf : Nat) (caps : Array Value) (w : World) (hrow : (rowA 118 A c L).p w) (hlt : ∀ b, b ∈ (rowA 118 A c L).fp → b < w.heap.size) (hn : L.length ≤ 1048576) (hcall : ∀ args w, (callFunc kf args).run Tryz.prog w = .ok (.enter kf args) w)
    (hf : ∀ (w' : World) (x : (Fl CSession)), x ∈ L → Kp (rowA 118 A c L).fp w w' → Calls Tryz.prog kf (#[.agg #[.int .i64 x.v.client, .int .i64 x.v.id, .int .i64 x.v.acked, .int .i64 x.v.last, .slice x.v.replies.A x.v.replies.n x.v.replies.c]] ++ caps) w' fun e w'' => e = .returned (.bool (p x)) ∧ Kp [] w' w'') :
    Calls Tryz.prog 71 #[.slice A L.length c, .func (.func kf) #[] caps] w fun e w' => e = .returned (.slice A (L.filter fun x => !p x).length c) ∧ Turned (rowA 118 A c L) w w' (rowA 118 A c (L.filter fun x => !p x)) := by
 have hrok := rowA_rok hrow
 have nc := hrok.2
 refine Mj Tryz.func71 (WS.start1 w _ hrow (by cases A <;> simp [rowA, rowR]) hlt) (J := ?_)
 refine Mp Tryz.call137 (fun bs w hS => idxF_Session (⟨A, c, L⟩ : Sl (Fl CSession)) p kf caps w (Rr (B := anyB) (hS.res _ (.head _)) (fun _ _ => trivial) (fun _ _ => trivial)) hcall (fun w' x hx hk => hf w' x hx (hS.kp.step hk (fun i hi => by cases hi)))) (J := ?_)
 refine Md (mIdx p L = (-1)) (T := fun h1 => ?_) (F := fun h1 => ?_)
 · refine Mt [.slice A L.length c] fun bs w hS => ?_
   have hid : L.filter (fun x => !p x) = L := delF_none (by assumption)
   rw [hid]
   exact ⟨rfl, hS.turned⟩
 obtain ⟨i0, hi1, hi2, hi3, hi4⟩ := delF_some (p := p) h1
 refine Mi (pR ((mIdx p L) + 1)) (J := ?_)
 refine Mk 6 (show (vI ((mIdx p L) + 1)) = vI (((i0 : Int)) + 1) by rw [hi4]) (J := ?_)
 refine Mk 5 (show (vI (mIdx p L)) = vI ((i0 : Int)) by rw [hi4]) (J := ?_)
 refine Ml (σ := Nat × Nat × List (Fl CSession)) (fun ⟨i, j, M⟩ => i < j ∧ j ≤ L.length ∧ M.length = L.length ∧ M.take i = (L.take j).filter (fun x => !p x) ∧ M.drop j = L.drop j) (fun ⟨i, j, M⟩ => L.length - j) (fun ⟨i, j, M⟩ => [rowA 118 A c (M : List (Fl CSession))]) [6, 5, 0, 1] (fun ⟨i, j, M⟩ => [(6, vI (j : Int)), (5, vI (i : Int))]) (fun _ => []) (⟨i0, i0 + 1, L⟩) ⟨by omega, by omega, rfl, delF_start hi1 hi2 hi3, rfl⟩ (B := ?_)
 rintro ⟨i, j, M⟩ ⟨h1, h2, hM, hT, hD⟩ _ on1
 refine Md ((j : Int) < (L.length : Int)) (T := fun h2 => ?_) (F := fun h2 => ?_)
 rotate_left
 · refine Mi (pG [(38, .sl i L.length)] (oc (rfl : (i : Int) = (i : Int)) (oc (rfl : L.length = L.length) (oc ((by omega) : i ≤ L.length) on)))) (J := ?_)
   refine Mcl i (L.length - i) (by omega) (by omega) (J := ?_)
   refine Mi (pG [(41, .sl 0 i)] (oc (rfl : 0 = 0) (oc (rfl : (i : Int) = (i : Int)) (oc ((by omega) : i ≤ c) on)))) (J := ?_)
   refine Mt [.slice A i c] fun bs w hS => ?_
   have hid : M.take i = L.filter (fun x => !p x) := by rw [hT, show j = L.length by omega, List.take_length]
   have hil : (L.filter (fun x => !p x)).length = i := by rw [← hid, List.length_take]; omega
   have hS2 := hS
   rw [hid] at hS2
   refine ⟨?_, hS2.turned⟩
   rw [hil]
   rfl
 refine Mi (pc (pIo 24 (j : Int) j L.length (.head _)) (pEo 25 j (.head _))) (J := ?_)
 refine Mv hcall (fun bs w hS => hf w (M.getD j default) (by rw [getD_drop hD (by omega)]; exact mem_of_getD (by omega)) hS.kp) (J := ?_)
 refine Mbn (p (M.getD j default)) (T := fun h3 => ?_) (F := fun h3 => ?_)
 · refine Mi (pR ((j : Int) + 1)) (J := ?_)
   have hjL : M.getD j default = L.getD j default := getD_drop hD (by omega)
   exact on1 (⟨i, j + 1, M⟩ : Nat × Nat × List (Fl CSession)) ⟨by omega, by omega, hM, delF_skip (by omega) hT (hjL ▸ by assumption), drop_next hD⟩ (by show L.length - (j + 1) < L.length - j; omega)
 refine Mi (pIo 33 (i : Int) i L.length (.head _)) (J := ?_)
 refine Mse i (M.getD j default) (by omega) (J := ?_)
 intro L2 hL2 hl2
 refine Mi (pc (pR ((i : Int) + 1)) (pR ((j : Int) + 1))) (J := ?_)
 have hjL : M.getD j default = L.getD j default := getD_drop hD (by omega)
 exact on1 (⟨i + 1, j + 1, L2⟩ : Nat × Nat × List (Fl CSession)) ⟨by omega, by omega, by omega, by rw [hL2]; exact delF_keep h1 (by omega) hM hT (hjL ▸ by assumption) hjL, by rw [hL2]; exact delF_drop h1 hD⟩ (by show L.length - (j + 1) < L.length - j; omega)
theorem del_Session (A : Option Addr) (c : Nat) (L : List CSession) (p : CSession → Bool) (kf : Nat) (caps : Array Value) (w : World) (hrow : (rowA 118 A c L).p w) (hlt : ∀ b, b ∈ (rowA 118 A c L).fp → b < w.heap.size) (hn : L.length ≤ 1048576) (hcall : ∀ args w, (callFunc kf args).run Tryz.prog w = .ok (.enter kf args) w)
    (hf : ∀ (w' : World) (x : CSession), x ∈ L → Kp (rowA 118 A c L).fp w w' → Calls Tryz.prog kf (#[.agg #[.int .i64 x.client, .int .i64 x.id, .int .i64 x.acked, .int .i64 x.last, .slice x.replies.A x.replies.n x.replies.c]] ++ caps) w' fun e w'' => e = .returned (.bool (p x)) ∧ Kp [] w' w'') :
    Calls Tryz.prog 71 #[.slice A L.length c, .func (.func kf) #[] caps] w fun e w' => e = .returned (.slice A (L.filter fun x => !p x).length c) ∧ Turned (rowA 118 A c L) w w' (rowA 118 A c (L.filter fun x => !p x)) := by
  have h := delF_Session A c (fls L) (fun x => p x.v) kf caps w (by rw [rowA_fl]; exact hrow) (by rw [rowA_fl]; exact hlt) (by simpa using hn) hcall (fun w' x hx hk => hf w' x.v (by obtain ⟨y, hy, rfl⟩ := List.mem_map.1 hx; exact hy) (by rwa [rowA_fl] at hk))
  have e1 : (fls L).filter (fun x => !(p x.v)) = fls (L.filter fun x => !p x) := fls_filter (fun x => !p x) L
  simp only [e1, rowA_fl, List.length_map] at h
  exact h

theorem clo_session_Fresh_1 (x : CSession) (n : Int) (b : Nat) (w : World) (hb : (blkR b 3 [.int .i64 n]).p w) (h0 : 0 ≤ n ∧ n ≤ 1073741824) (h1 : 1 ≤ x.last ∧ x.last ≤ n) : Calls Tryz.prog 72 #[.agg #[.int .i64 x.client, .int .i64 x.id, .int .i64 x.acked, .int .i64 x.last, .slice x.replies.A x.replies.n x.replies.c], .pointer (some (⟨b, 0, none⟩ : Addr))] w fun e w' => e = .returned (.bool (stale n x.abs)) ∧ Kp [] w w' := by
 refine M0 Tryz.func72 (J := ?_)
 refine Mi (pc (pX 4 [.int .i64 n] (fun w hk hr => (blkR_pre (blkR_kp hb hk) 1 rfl))) (pc (pR (n + 1)) (pR ((n + 1) - x.last)))) (J := ?_)
 exact Mt [.bool (decide ((40 : Int) < (n + 1) - x.last))] fun bs w hS => ⟨rfl, hS.kp⟩

theorem session_Fresh {B : Nat → Prop} (s : Sl CSession) (n : Int) (w : World) (hs : s.rd B w) : Calls Tryz.prog 23 #[.slice s.A s.n s.c, .int .i64 n] w fun e w' => ∃ y : Sl CSession, e = .returned (.tuple #[y.val, .int .i64 (mFresh (s.xs.map CSession.abs) n).2]) ∧ y.xs.map CSession.abs = (mFresh (s.xs.map CSession.abs) n).1 ∧ FreshS w w' y := by
 have oks := Sl.rd.ok hs
 have ncs := Sl.ok.nc oks
 have hns : s.n = s.xs.length := rfl
 have hml : (s.xs.map CSession.abs).length = s.n := by simp
 refine M0 Tryz.func23 (J := ?_)
 refine Mp Tryz.call63 (fun bs w hS => session_Check s n w (Sl.rd.kp hs hS.kp)) (J := ?_)
 refine Mdn (mSess (s.xs.map CSession.abs) n = 0) (T := fun h1 => ?_) (F := fun h1 => ?_)
 rotate_left
 · refine Mt [.slice none 0 0, .int .i64 (mSess (s.xs.map CSession.abs) n)] fun bs w hS => ?_
   refine ⟨Sl.nil, ?_, ?_, hS.outS (Sl.rd_nil _ _)⟩
   · simp only [retOf, den, List.map_cons, List.map_nil]; rw [fresh_bad (by assumption)]; rfl
   · rw [fresh_bad (by assumption)]; rfl
 obtain ⟨hi0, hi1, hln, hall⟩ := mSess_bd h1
 have hn1 : 0 ≤ n ∧ n ≤ 1073741824 := ⟨hi0, hi1⟩
 have hbds : ∀ x, x ∈ s.xs.map CSession.abs → 1 ≤ x.last ∧ x.last ≤ n := fun x hx => by obtain ⟨j, hj, rfl⟩ := List.getElem_of_mem hx; have := sessF_bd (hall j hj); rw [List.getD_eq_getElem?_getD, List.getElem?_eq_getElem hj] at this; simp only [Option.getD_some] at this; omega
 refine Mf (σ := Sl CSession) (v := fun y1 => .slice y1.A y1.n y1.c) (F := fun y1 => y1.xs.map CSession.abs = s.xs.map CSession.abs) (r := fun y1 => sessR 118 141 y1) Tryz.call70 (fun bs w hS => session_Copy s w (Sl.rd.kp hs hS.kp) (small_sess (by assumption))) (J := ?_)
 rintro y1 hF1
 refine m_split2 ?_
 have hnm1 := sess_texts (hs) hF1
 refine m_know (F := ∀ i, i < y1.n → Rds.ok (y1.at i)) (fun bs w hS i hi => Rds.okof (Sl.rd.sub (own_sess (A := y1.A) (c := y1.c) (L := y1.xs) (hS.res _ (.head _)) (hS.res _ (.tail _ (.head _))) hnm1) hi)) fun okown1 => ?_
 refine m_know (F := RowOk y1.A y1.c (y1.xs : List CSession)) (fun bs w hS => rowA_rok (hS.res _ (.tail _ (.head _)))) fun hrow1 => ?_
 have nchrow1 := hrow1.2
 have hnn := map_n hF1
 have hnx : y1.n = y1.xs.length := rfl
 have hlast : ∀ x, x ∈ y1.xs → 1 ≤ x.last ∧ x.last ≤ n := fun x hx => hbds x.abs (hF1 ▸ List.mem_map.2 ⟨x, hx, rfl⟩)
 have hok1 : Sl.ok y1 := ⟨nchrow1.1, by unfold maxLen; exact nchrow1.2, fun i hi => ⟨hrow1.1 i hi, okown1 i hi⟩⟩
 refine m_perm (R' := [rowA 118 y1.A y1.c (y1.xs : List CSession), ownL (keptR 141) y1.xs]) (Pf 1 rfl) ?_
 refine Mtu (σ := Unit) (v := fun _ => .slice y1.A (y1.xs.filter fun x : CSession => !stale n x.abs).length y1.c) (F := fun _ => True) (r := fun _ => rowA 118 y1.A y1.c (y1.xs.filter fun x : CSession => !stale n x.abs : List CSession)) (vs := fun bs => [.slice y1.A y1.n y1.c, .func (.func 72) #[] #[.pointer (some (adr bs 0 0))]]) Tryz.call71 (fun bs w hS => (del_Session y1.A y1.c y1.xs (fun x : CSession => stale n x.abs) 72 #[.pointer (some (adr bs 0 0))] w (hS.res _ (.head _)) hS.head1.2.2 (by show y1.n ≤ _; omega) Tryz.call72 (fun w' x hx hk => clo_session_Fresh_1 x n (bs.getD 0 0) w' (show (blkR _ _ _).p w' from hS.blkIn (i := 0) (b := ⟨3, [vI n]⟩) hk (by kernel_rfl) (by simp)) hn1 (hlast x hx))).mono (fun e w' ⟨h1, h2⟩ => ⟨(), h1, trivial, h2⟩)) (J := ?_)
 rintro _ _
 refine Mt [.slice y1.A (y1.xs.filter fun x : CSession => !stale n x.abs).length y1.c, .int .i64 0] fun bs w hS => ?_
 have hm := fresh_ok (l := s.xs.map CSession.abs) (index := n) (by assumption)
 rw [hm]
 refine ⟨⟨y1.A, y1.c, y1.xs.filter fun x : CSession => !stale n x.abs⟩, rfl, ?_, hS.outS (y := (⟨y1.A, y1.c, y1.xs.filter fun x : CSession => !stale n x.abs⟩ : Sl CSession)) (out_sess (L0 := y1.xs) (.head _) (.tail _ (.head _)) hS.res (fun x hx => (List.mem_filter.1 hx).1) hnm1)⟩
 show (List.filter _ _).map _ = _
 rw [filter_abs, hF1]

theorem ref_FreshOf {B : Nat → Prop} (s : Sl CSession) (n : Int) (w : World) (hs : s.rd B w) : Calls Tryz.prog 32 #[.slice s.A s.n s.c, .int .i64 n] w fun e w' => ∃ y : Sl CSession, e = .returned (.tuple #[y.val, .int .i64 (mFresh (s.xs.map CSession.abs) n).2]) ∧ y.xs.map CSession.abs = (mFresh (s.xs.map CSession.abs) n).1 ∧ FreshS w w' y := by
 have oks := Sl.rd.ok hs
 have ncs := Sl.ok.nc oks
 have hns : s.n = s.xs.length := rfl
 have hml : (s.xs.map CSession.abs).length = s.n := by simp
 refine M0 Tryz.func32 (J := ?_)
 refine Mp Tryz.call92 (fun bs w hS => ref_SessionsFault s n w (Sl.rd.kp hs hS.kp)) (J := ?_)
 refine Mdn (mSess (s.xs.map CSession.abs) n = 0) (T := fun h1 => ?_) (F := fun h1 => ?_)
 rotate_left
 · refine Mt [.slice none 0 0, .int .i64 (mSess (s.xs.map CSession.abs) n)] fun bs w hS => ?_
   refine ⟨Sl.nil, ?_, ?_, hS.outS (Sl.rd_nil _ _)⟩
   · simp only [retOf, den, List.map_cons, List.map_nil]; rw [fresh_bad (by assumption)]; rfl
   · rw [fresh_bad (by assumption)]; rfl
 obtain ⟨hi0, hi1, hln, hall⟩ := mSess_bd h1
 have hbds : ∀ x, x ∈ s.xs.map CSession.abs → 1 ≤ x.last ∧ x.last ≤ n := fun x hx => by obtain ⟨j, hj, rfl⟩ := List.getElem_of_mem hx; have := sessF_bd (hall j hj); rw [List.getD_eq_getElem?_getD, List.getElem?_eq_getElem hj] at this; simp only [Option.getD_some] at this; omega
 refine Mf (σ := Sl CSession) (v := fun y1 => .slice y1.A y1.n y1.c) (F := fun y1 => y1.xs.map CSession.abs = s.xs.map CSession.abs) (r := fun y1 => sessR 118 141 y1) Tryz.call19 (fun bs w hS => ref_SessionsCopy s w (Sl.rd.kp hs hS.kp) (small_sess (by assumption))) (J := ?_)
 rintro y1 hF1
 refine m_split2 ?_
 have hnm1 := sess_texts (hs) hF1
 refine m_know (F := ∀ i, i < y1.n → Rds.ok (y1.at i)) (fun bs w hS i hi => Rds.okof (Sl.rd.sub (own_sess (A := y1.A) (c := y1.c) (L := y1.xs) (hS.res _ (.head _)) (hS.res _ (.tail _ (.head _))) hnm1) hi)) fun okown1 => ?_
 refine m_know (F := RowOk y1.A y1.c (y1.xs : List CSession)) (fun bs w hS => rowA_rok (hS.res _ (.tail _ (.head _)))) fun hrow1 => ?_
 have nchrow1 := hrow1.2
 have hnn := map_n hF1
 have hnx : y1.n = y1.xs.length := rfl
 have hlast : ∀ x, x ∈ y1.xs → 1 ≤ x.last ∧ x.last ≤ n := fun x hx => hbds x.abs (hF1 ▸ List.mem_map.2 ⟨x, hx, rfl⟩)
 have hok1 : Sl.ok y1 := ⟨nchrow1.1, by unfold maxLen; exact nchrow1.2, fun i hi => ⟨hrow1.1 i hi, okown1 i hi⟩⟩
 refine m_rowA (α := CSession) 118 ?_
 refine Ml (σ := Nat × Option Addr × Nat × List CSession) (fun ⟨i, A, c, L⟩ => i ≤ y1.n ∧ L = (y1.xs.take i).filter (fun x => !stale n x.abs)) (fun ⟨i, A, c, L⟩ => y1.n - i) (fun ⟨i, A, c, L⟩ => [rowA 118 A c (L : List CSession), ownL (keptR 141) y1.xs, rowA 118 y1.A y1.c (y1.xs : List CSession)]) [9, 8, 7, 1] (fun ⟨i, A, c, L⟩ => [(9, vI (i : Int)), (7, .v (.slice A L.length c))]) (fun _ => []) (⟨0, none, 0, []⟩) ⟨Nat.zero_le _, rfl⟩ (B := ?_)
 rintro ⟨i, A, c, L⟩ ⟨hi, hI⟩ _ on1
 have hLn : L.length ≤ i := by rw [hI]; exact Nat.le_trans (List.length_filter_le _ _) (by rw [List.length_take]; omega)
 refine Md ((i : Int) < (y1.n : Int)) (T := fun h2 => ?_) (F := fun h2 => ?_)
 rotate_left
 · refine Mt [.slice A L.length c, .int .i64 0] fun bs w hS => ?_
   have hm := fresh_ok (l := s.xs.map CSession.abs) (index := n) (by assumption)
   rw [hm]
   have hLe : L = y1.xs.filter fun x => !stale n x.abs := by rw [hI, take_all (by omega)]
   refine ⟨⟨A, c, L⟩, rfl, ?_, hS.outS (y := (⟨A, c, L⟩ : Sl CSession)) (out_sess (L0 := y1.xs) (.head _) (.tail _ (.head _)) hS.res (fun x hx => by rw [hLe] at hx; exact (List.mem_filter.1 hx).1) hnm1)⟩
   show L.map _ = _
   rw [hLe, filter_abs, hF1]
 have hla := hlast (y1.xs.getD i default) (mem_of_getD (by omega))
 refine Mi (pc (pIo 26 (i : Int) i y1.n (.tail _ (.tail _ (.head _)))) (pc (pFo 28 i 3 1 (.tail _ (.tail _ (.head _)))) (pR ((y1.xs.getD i default).last + 40)))) (J := ?_)
 refine Md (n < (y1.xs.getD i default).last + 40) (T := fun h3 => ?_) (F := fun h3 => ?_)
 rotate_left
 · refine Mi (pR ((i : Int) + 1)) (J := ?_)
   exact on1 (⟨i + 1, A, c, L⟩ : Nat × Option Addr × Nat × List CSession) ⟨by omega, by first | exact fresh_in hI (by omega) (decide_eq_false (show ¬ (40 < n + 1 - (y1.xs.getD i default).last) by omega)) | exact fresh_out hI (by omega) (decide_eq_true (show 40 < n + 1 - (y1.xs.getD i default).last by omega))⟩ (by show y1.n - (i + 1) < y1.n - i; omega)
 refine Mi (pc (pIo 35 (i : Int) i y1.n (.tail _ (.tail _ (.head _)))) (pEo 36 i (.tail _ (.tail _ (.head _))))) (J := ?_)
 refine M1 (J := ?_)
 refine Mal (α := CSession) 56 ([(⟨(y1.xs.getD i default).client, (y1.xs.getD i default).id, (y1.xs.getD i default).acked, (y1.xs.getD i default).last, (y1.xs.getD i default).replies⟩ : CSession)]) (J := ?_)
 intro A3 c3
 refine Mi (pR ((i : Int) + 1)) (J := ?_)
 exact on1 (⟨i + 1, A3, c3, L ++ [(⟨(y1.xs.getD i default).client, (y1.xs.getD i default).id, (y1.xs.getD i default).acked, (y1.xs.getD i default).last, (y1.xs.getD i default).replies⟩ : CSession)]⟩ : Nat × Option Addr × Nat × List CSession) ⟨by omega, by first | exact fresh_in hI (by omega) (decide_eq_false (show ¬ (40 < n + 1 - (y1.xs.getD i default).last) by omega)) | exact fresh_out hI (by omega) (decide_eq_true (show 40 < n + 1 - (y1.xs.getD i default).last by omega))⟩ (by show y1.n - (i + 1) < y1.n - i; omega)

theorem pair_Get {B : Nat → Prop} (s : Sl DPair) (t : ByteArray) (w : World) (hs : s.rd B w) : Calls Tryz.prog 86 #[.slice s.A s.n s.c, .string t] w fun e w' => e = .returned (.tuple #[.agg #[.int .i64 (mGot s.xs t).1.code, .int .i64 (mGot s.xs t).1.n, .string (mGot s.xs t).1.text], .int .i64 (mGot s.xs t).2]) ∧ Kp [] w w' := by
 have oks := Sl.rd.ok hs
 have ncs := Sl.ok.nc oks
 have hns : s.n = s.xs.length := rfl
 refine M0 Tryz.func86 (J := ?_)
 refine Mp Tryz.call65 (fun bs w hS => pair_Check s w (Sl.rd.kp hs hS.kp)) (J := ?_)
 refine Mdn (mPairs s.xs = 0) (T := fun h1 => ?_) (F := fun h1 => ?_)
 rotate_left
 · refine Mt [.agg #[.int .i64 0, .int .i64 0, .string emp], .int .i64 (mPairs s.xs)] fun bs w hS => ?_
   refine ⟨?_, hS.kp⟩
   simp only [retOf, den, List.map_cons, List.map_nil]
   rw [got_bad (by assumption)]
 have hln := (mPairs_bd h1).1
 refine Mp Tryz.call151 (fun bs w hS => pair_find s t w (Sl.rd.kp hs hS.kp) (by omega)) (J := ?_)
 refine Mbn (mBSf (fun x : DPair => cmpS x.name t) s.xs) (T := fun h2 => ?_) (F := fun h2 => ?_)
 rotate_left
 · refine Mt [.agg #[.int .i64 6, .int .i64 0, .string emp], .int .i64 0] fun bs w hS => ?_
   refine ⟨?_, hS.kp⟩
   simp only [retOf, den, List.map_cons, List.map_nil]
   have hb := (bsf_pair (l := s.xs) (by assumption) t).1
   rw [h2] at hb
   rw [got_none (by assumption) (by have := of_decide_eq_false hb.symm; omega)]
 have hlt := mBSf_lt h2
 refine Mda 13 [] [0] [] Tryz_mixed (J := ?_)
 refine Mih (pc (pI 26 ((mBS (fun x : DPair => cmpS x.name t) s.xs : Nat) : Int) (((mBS (fun x : DPair => cmpS x.name t) s.xs : Nat) : Int)).toNat (rdk hs)) (pc (pF 28 (((mBS (fun x : DPair => cmpS x.name t) s.xs : Nat) : Int)).toNat 2 1 (rdk hs)) (pc (pI 31 ((mBS (fun x : DPair => cmpS x.name t) s.xs : Nat) : Int) (((mBS (fun x : DPair => cmpS x.name t) s.xs : Nat) : Int)).toNat (rdk hs)) (pF 33 (((mBS (fun x : DPair => cmpS x.name t) s.xs : Nat) : Int)).toNat 1 1 (rdk hs))))) (J := ?_)
 refine Mt [.agg #[.int .i64 0, .int .i64 (s.at (((mBS (fun x : DPair => cmpS x.name t) s.xs : Nat) : Int)).toNat).version, .string (s.at (((mBS (fun x : DPair => cmpS x.name t) s.xs : Nat) : Int)).toNat).value], .int .i64 0] fun bs w hS => ?_
 refine ⟨?_, hS.kp⟩
 simp only [retOf, den, List.map_cons, List.map_nil]
 have hb := (bsf_pair (l := s.xs) (by assumption) t).1
 rw [h2] at hb
 have hc := (bsf_pair (l := s.xs) (by assumption) t).2 (by assumption)
 have hd := of_decide_eq_true hb.symm
 rw [got_here (by assumption) (by omega), ← hc, Int.toNat_natCast]
 rfl

theorem ref_GotOf {B : Nat → Prop} (s : Sl DPair) (t : ByteArray) (w : World) (hs : s.rd B w) : Calls Tryz.prog 40 #[.slice s.A s.n s.c, .string t] w fun e w' => e = .returned (.tuple #[.agg #[.int .i64 (mGot s.xs t).1.code, .int .i64 (mGot s.xs t).1.n, .string (mGot s.xs t).1.text], .int .i64 (mGot s.xs t).2]) ∧ Kp [] w w' := by
 have oks := Sl.rd.ok hs
 have ncs := Sl.ok.nc oks
 have hns : s.n = s.xs.length := rfl
 have hbd := mIdx_bd (fun x : DPair => decide (x.name = t)) s.xs
 refine M0 Tryz.func40 (J := ?_)
 refine Mp Tryz.call94 (fun bs w hS => ref_PairsFault s w (Sl.rd.kp hs hS.kp)) (J := ?_)
 refine Mdn (mPairs s.xs = 0) (T := fun h1 => ?_) (F := fun h1 => ?_)
 rotate_left
 · refine Mt [.agg #[.int .i64 0, .int .i64 0, .string emp], .int .i64 (mPairs s.xs)] fun bs w hS => ?_
   refine ⟨?_, hS.kp⟩
   simp only [retOf, den, List.map_cons, List.map_nil]
   rw [got_bad (by assumption)]
 have hln := (mPairs_bd h1).1
 refine Mp Tryz.call106 (fun bs w hS => tackroomref_pairAt s t w (Sl.rd.kp hs hS.kp)) (J := ?_)
 refine Md (mIdx (fun x : DPair => decide (x.name = t)) s.xs < 0) (T := fun h2 => ?_) (F := fun h2 => ?_)
 · refine Mt [.agg #[.int .i64 6, .int .i64 0, .string emp], .int .i64 0] fun bs w hS => ?_
   refine ⟨?_, hS.kp⟩
   simp only [retOf, den, List.map_cons, List.map_nil]
   rw [got_none (by assumption) (by assumption)]
 refine Mda 13 [] [0] [] Tryz_mixed (J := ?_)
 refine Mih (pc (pI 22 (mIdx (fun x : DPair => decide (x.name = t)) s.xs) (mIdx (fun x : DPair => decide (x.name = t)) s.xs).toNat (rdk hs)) (pc (pF 24 (mIdx (fun x : DPair => decide (x.name = t)) s.xs).toNat 2 1 (rdk hs)) (pc (pI 27 (mIdx (fun x : DPair => decide (x.name = t)) s.xs) (mIdx (fun x : DPair => decide (x.name = t)) s.xs).toNat (rdk hs)) (pF 29 (mIdx (fun x : DPair => decide (x.name = t)) s.xs).toNat 1 1 (rdk hs))))) (J := ?_)
 refine Mt [.agg #[.int .i64 0, .int .i64 (s.at (mIdx (fun x : DPair => decide (x.name = t)) s.xs).toNat).version, .string (s.at (mIdx (fun x : DPair => decide (x.name = t)) s.xs).toNat).value], .int .i64 0] fun bs w hS => ?_
 refine ⟨?_, hS.kp⟩
 simp only [retOf, den, List.map_cons, List.map_nil]
 rw [got_here (by assumption) (by assumption)]
 rfl

theorem has_Session {B : Nat → Prop} (s : Sl CSession) (p : CSession → Bool) (kf : Nat) (caps : Array Value) (w : World) (hs : s.rd B w) (hcall : ∀ args w, (callFunc kf args).run Tryz.prog w = .ok (.enter kf args) w)
    (hf : ∀ (w' : World) (x : CSession), x ∈ s.xs → Kp [] w w' → Calls Tryz.prog kf (#[.agg #[.int .i64 x.client, .int .i64 x.id, .int .i64 x.acked, .int .i64 x.last, .slice x.replies.A x.replies.n x.replies.c]] ++ caps) w' fun e w'' => e = .returned (.bool (p x)) ∧ Kp [] w' w'') : Calls Tryz.prog 73 #[.slice s.A s.n s.c, .func (.func kf) #[] caps] w fun e w' => e = .returned (.bool (decide ((0 : Int) ≤ mIdx p s.xs))) ∧ Kp [] w w' := by
 have oks := Sl.rd.ok hs
 have ncs := Sl.ok.nc oks
 have hns : s.n = s.xs.length := rfl
 refine M0 Tryz.func73 (J := ?_)
 refine Mp Tryz.call137 (fun bs w hS => idx_Session s p kf caps w (Sl.rd.kp hs hS.kp) hcall (fun w' x hx hk => hf w' x hx (hS.kp.step hk (fun i hi => by cases hi)))) (J := ?_)
 exact Mt [.bool (decide ((0 : Int) ≤ mIdx p s.xs))] fun bs w hS => ⟨rfl, hS.kp⟩

theorem clo_machine_gone_1 (x : CSession) (p : CSession) (b : Nat) (w : World) (hb : (blkR b 118 [.int .i64 p.client, .int .i64 p.id, .int .i64 p.acked, .int .i64 p.last, .slice p.replies.A p.replies.n p.replies.c]).p w) : Calls Tryz.prog 74 #[.agg #[.int .i64 x.client, .int .i64 x.id, .int .i64 x.acked, .int .i64 x.last, .slice x.replies.A x.replies.n x.replies.c], .pointer (some (⟨b, 0, none⟩ : Addr))] w fun e w' => e = .returned (.bool (decide (x.client = p.client))) ∧ Kp [] w w' := by
 refine M0 Tryz.func74 (J := ?_)
 refine Mi (pX 7 [.int .i64 p.client] (fun w hk hr => (blkR_fld (blkR_kp hb hk) 0 1 rfl))) (J := ?_)
 exact Mt [.bool (decide (x.client = p.client))] fun bs w hS => ⟨rfl, hS.kp⟩

theorem machine_gone {B B' : Nat → Prop} (z : CState) (s : Sl CSession) (b : Nat) (w : World) (hb : (blkR b 26 [.int .i64 z.index, .slice z.locks.A z.locks.n z.locks.c, .slice z.pairs.A z.pairs.n z.pairs.c, .slice z.sessions.A z.sessions.n z.sessions.c]).p w) (hz : ∀ w', Kp [b] w w' → Rds.sub B w' z) (hs : ∀ w', Kp [b] w w' → s.rd B' w') : Calls Tryz.prog 24 #[.pointer (some (⟨b, 0, none⟩ : Addr)), .slice s.A s.n s.c] w fun e w' => ∃ y : Option (List Nat × Sl CLock), e = .returned (.tuple #[]) ∧ (lk z.locks y).xs.map CLock.abs = mRel (z.locks.xs.map CLock.abs) (s.xs.map CSession.abs) (z.sessions.xs.map CSession.abs) ∧ TurnedN (blkR b 26 [.int .i64 z.index, .slice z.locks.A z.locks.n z.locks.c, .slice z.pairs.A z.pairs.n z.pairs.c, .slice z.sessions.A z.sessions.n z.sessions.c]) w w' (blkR b 26 [.int .i64 z.index, .slice (lk z.locks y).A (lk z.locks y).n (lk z.locks y).c, .slice z.pairs.A z.pairs.n z.pairs.c, .slice z.sessions.A z.sessions.n z.sessions.c]) (lkR y) := by
 have oks := Sl.rd.ok (hs w (Kp.refl _ _))
 have ncs := Sl.ok.nc oks
 have hns : s.n = s.xs.length := rfl
 have okz := Rds.okof (hz w (Kp.refl _ _))
 refine Mj Tryz.func24 (WS.start1 w _ hb (by simp [blkR]) (blkR_lt hb)) (J := ?_)
 refine m_nores (lkR (none : Option (List Nat × Sl CLock))) rfl (fun w => trivial) ?_
 refine Ml (σ := Nat × Option (List Nat × Sl CLock)) (fun ⟨i, o⟩ => i ≤ s.n ∧ (lk z.locks o).xs.map CLock.abs = mRel (z.locks.xs.map CLock.abs) ((s.xs.map CSession.abs).take i) (z.sessions.xs.map CSession.abs)) (fun ⟨i, o⟩ => s.n - i) (fun ⟨i, o⟩ => [lkR o, blkR b 26 [.int .i64 z.index, .slice (lk z.locks o).A (lk z.locks o).n (lk z.locks o).c, .slice z.pairs.A z.pairs.n z.pairs.c, .slice z.sessions.A z.sessions.n z.sessions.c]]) [8, 7, 6, 0] (fun ⟨i, o⟩ => [(8, vI (i : Int))]) (fun _ => []) (⟨0, none⟩) ⟨Nat.zero_le _, rfl⟩ (B := ?_)
 rintro ⟨i, o⟩ ⟨hi, hI⟩ _ on1
 refine Md ((i : Int) < (s.n : Int)) (T := fun h1 => ?_) (F := fun h1 => ?_)
 rotate_left
 · refine Mt [] fun bs w hS => ?_
   have hS2 := hS.perm (R' := [blkR b 26 [.int .i64 z.index, .slice (lk z.locks o).A (lk z.locks o).n (lk z.locks o).c, .slice z.pairs.A z.pairs.n z.pairs.c, .slice z.sessions.A z.sessions.n z.sessions.c], lkR o]) (List.Perm.trans (l₂ := [lkR o, blkR b 26 [.int .i64 z.index, .slice (lk z.locks o).A (lk z.locks o).n (lk z.locks o).c, .slice z.pairs.A z.pairs.n z.pairs.c, .slice z.sessions.A z.sessions.n z.sessions.c]]) (Pf 1 rfl) (List.Perm.refl _))
   have hte : (s.xs.map CSession.abs).take i = s.xs.map CSession.abs := List.take_of_length_le (by rw [List.length_map]; omega)
   rw [hte] at hI
   exact ⟨o, rfl, hI, (hS2.turnedN (fun _ h => h)).as (allR_one _ _) (allR_one_fp _)⟩
 refine Mi (pc (pA 10 11 (i : Int) i (s := s) (fun w hk hr => (hs _ hk))) (pBk 15 3 1 (.tail _ (.head _)))) (J := ?_)
 refine Mp (vs := fun bs => [.slice z.sessions.A z.sessions.n z.sessions.c, .func (.func 74) #[] #[.pointer (some (adr bs 0 0))]]) Tryz.call73 (fun bs w hS => has_Session z.sessions (fun x : CSession => decide (x.client = (s.at i).client)) 74 #[.pointer (some (adr bs 0 0))] w (And.right (And.right (hz _ hS.kp))) Tryz.call74 (fun w' z' hz' hk => clo_machine_gone_1 z' (s.at i) (bs.getD 0 0) w' (show (blkR _ _ _).p w' from (hS.pure hk).loc 0 ⟨118, [vI (s.at i).client, vI (s.at i).id, vI (s.at i).acked, vI (s.at i).last, .v (.slice (s.at i).replies.A (s.at i).replies.n (s.at i).replies.c)]⟩ (by kernel_rfl) (by simp)))) (J := ?_)
 refine Mdn ((0 : Int) ≤ mIdx (fun x : CSession => decide (x.client = (s.at i).client)) z.sessions.xs) (T := fun h2 => ?_) (F := fun h2 => ?_)
 · refine Mi (pR ((i : Int) + 1)) (J := ?_)
   have hsx : sIdx (z.sessions.xs.map CSession.abs) (s.at i).abs.client = mIdx (fun x : CSession => decide (x.client = (s.at i).client)) z.sessions.xs := (mIdx_map CSession.abs (fun x : DSession => decide (x.client = (s.at i).client)) z.sessions.xs).symm
   have hgo : (lk z.locks (o)).xs.map CLock.abs = if sIdx (z.sessions.xs.map CSession.abs) (s.at i).abs.client < 0 then (mGone ((lk z.locks o).xs.map CLock.abs) (s.at i).abs.client).1 else (lk z.locks o).xs.map CLock.abs := by rw [hsx, if_neg (by omega)]
   refine m_perm (R' := [lkR o, blkR b 26 [.int .i64 z.index, .slice (lk z.locks o).A (lk z.locks o).n (lk z.locks o).c, .slice z.pairs.A z.pairs.n z.pairs.c, .slice z.sessions.A z.sessions.n z.sessions.c]]) (List.Perm.trans (l₂ := [blkR b 26 [.int .i64 z.index, .slice (lk z.locks o).A (lk z.locks o).n (lk z.locks o).c, .slice z.pairs.A z.pairs.n z.pairs.c, .slice z.sessions.A z.sessions.n z.sessions.c], lkR o]) (Pf 1 rfl) (List.Perm.trans (l₂ := [lkR o, blkR b 26 [.int .i64 z.index, .slice (lk z.locks o).A (lk z.locks o).n (lk z.locks o).c, .slice z.pairs.A z.pairs.n z.pairs.c, .slice z.sessions.A z.sessions.n z.sessions.c]]) (Pf 1 rfl) (List.Perm.refl _))) ?_
   exact on1 (⟨i + 1, o⟩ : Nat × Option (List Nat × Sl CLock)) ⟨by omega, rel_next (by rw [List.length_map]; omega) (sabs_at i) hI hgo⟩ (by show s.n - (i + 1) < s.n - i; omega)
 refine Mda 14 [13] [] [lkR o, blkR b 26 [.int .i64 z.index, .slice (lk z.locks o).A (lk z.locks o).n (lk z.locks o).c, .slice z.pairs.A z.pairs.n z.pairs.c, .slice z.sessions.A z.sessions.n z.sessions.c]] Tryz_mixed (J := ?_)
 refine Mih (pBk 24 1 1 (.tail _ (.head _))) (J := ?_)
 refine Mu (vs := fun bs => [.slice (lk z.locks o).A (lk z.locks o).n (lk z.locks o).c, .int .i64 (s.at i).client]) Tryz.call75 (fun bs w hS => lock_Gone (lk z.locks o) (s.at i).client w (lk_rd (And.left (hz _ hS.kp)) (hS.res _ (.head _)))) (J := ?_)
 rintro fp1 y1 hF1 hok1
 refine m_perm (R' := [blkR b 26 [.int .i64 z.index, .slice (lk z.locks o).A (lk z.locks o).n (lk z.locks o).c, .slice z.pairs.A z.pairs.n z.pairs.c, .slice z.sessions.A z.sessions.n z.sessions.c], subR fp1 y1, lkR o]) (Pf 2 rfl) ?_
 refine MsbX [lkR o] 1 [.int .i64 z.index, .slice y1.A y1.n y1.c, .slice z.pairs.A z.pairs.n z.pairs.c, .slice z.sessions.A z.sessions.n z.sessions.c] (hR := (.cons _ (.cons _ (List.Sublist.refl _)))) (J := ?_)
 refine Mz (J := ?_)
 refine Mi (pR ((i : Int) + 1)) (J := ?_)
 have hsx : sIdx (z.sessions.xs.map CSession.abs) (s.at i).abs.client = mIdx (fun x : CSession => decide (x.client = (s.at i).client)) z.sessions.xs := (mIdx_map CSession.abs (fun x : DSession => decide (x.client = (s.at i).client)) z.sessions.xs).symm
 refine m_perm (R' := [lkR o, blkR b 26 [.int .i64 z.index, .slice y1.A y1.n y1.c, .slice z.pairs.A z.pairs.n z.pairs.c, .slice z.sessions.A z.sessions.n z.sessions.c], subR fp1 y1]) (Pf 2 rfl) ?_
 refine m_weak noR (List.nil_sublist _) (fun _ _ => trivial) ?_
 refine m_perm (R' := [subR fp1 y1, noR, blkR b 26 [.int .i64 z.index, .slice y1.A y1.n y1.c, .slice z.pairs.A z.pairs.n z.pairs.c, .slice z.sessions.A z.sessions.n z.sessions.c]]) (Pf 2 rfl) ?_
 refine m_join (lkR (some (fp1, y1))) (by show List.Perm fp1 (fp1 ++ []); rw [List.append_nil]) (fun w h1 h2 => h1) ?_
 have hgo : (lk z.locks (some (fp1, y1))).xs.map CLock.abs = if sIdx (z.sessions.xs.map CSession.abs) (s.at i).abs.client < 0 then (mGone ((lk z.locks o).xs.map CLock.abs) (s.at i).abs.client).1 else (lk z.locks o).xs.map CLock.abs := by rw [hsx, if_pos (by omega)]; exact hF1
 refine m_perm (R' := [lkR (some (fp1, y1)), blkR b 26 [.int .i64 z.index, .slice y1.A y1.n y1.c, .slice z.pairs.A z.pairs.n z.pairs.c, .slice z.sessions.A z.sessions.n z.sessions.c]]) (List.Perm.trans (l₂ := [blkR b 26 [.int .i64 z.index, .slice y1.A y1.n y1.c, .slice z.pairs.A z.pairs.n z.pairs.c, .slice z.sessions.A z.sessions.n z.sessions.c], lkR (some (fp1, y1))]) (Pf 1 rfl) (List.Perm.trans (l₂ := [lkR (some (fp1, y1)), blkR b 26 [.int .i64 z.index, .slice y1.A y1.n y1.c, .slice z.pairs.A z.pairs.n z.pairs.c, .slice z.sessions.A z.sessions.n z.sessions.c]]) (Pf 1 rfl) (List.Perm.refl _))) ?_
 exact on1 (⟨i + 1, some (fp1, y1)⟩ : Nat × Option (List Nat × Sl CLock)) ⟨by omega, rel_next (by rw [List.length_map]; omega) (sabs_at i) hI hgo⟩ (by show s.n - (i + 1) < s.n - i; omega)

theorem machine_do {B B' : Nat → Prop} (z : CState) (who : Int) (o : DOp) (b : Nat) (w : World) (hb : (blkR b 26 [.int .i64 z.index, .slice z.locks.A z.locks.n z.locks.c, .slice z.pairs.A z.pairs.n z.pairs.c, .slice z.sessions.A z.sessions.n z.sessions.c]).p w) (hz : ∀ w', Kp [b] w w' → Rds.sub B w' z) (ho : Rds.sub B' w o) : Calls Tryz.prog 28 #[.pointer (some (⟨b, 0, none⟩ : Addr)), .int .i64 who, .agg #[.int .i64 o.kind, .string o.a, .string o.b, .int .i64 o.n]] w fun e w' => ∃ y : Option (List Nat × Sl CLock) × Option (List Nat × Sl DPair), e = .returned (.agg #[.int .i64 ((mDo (z.locks.xs.map CLock.abs) z.pairs.xs who o).2.2).code, .int .i64 ((mDo (z.locks.xs.map CLock.abs) z.pairs.xs who o).2.2).n, .string ((mDo (z.locks.xs.map CLock.abs) z.pairs.xs who o).2.2).text]) ∧ ((lk z.locks y.1).xs.map CLock.abs = (mDo (z.locks.xs.map CLock.abs) z.pairs.xs who o).1 ∧ (lk z.pairs y.2).xs = (mDo (z.locks.xs.map CLock.abs) z.pairs.xs who o).2.1) ∧ TurnedN (blkR b 26 [.int .i64 z.index, .slice z.locks.A z.locks.n z.locks.c, .slice z.pairs.A z.pairs.n z.pairs.c, .slice z.sessions.A z.sessions.n z.sessions.c]) w w' (blkR b 26 [.int .i64 z.index, .slice (lk z.locks y.1).A (lk z.locks y.1).n (lk z.locks y.1).c, .slice (lk z.pairs y.2).A (lk z.pairs y.2).n (lk z.pairs y.2).c, .slice z.sessions.A z.sessions.n z.sessions.c]) (allR [lkR y.1, lkR y.2]) := by
 have okz := Rds.okof (hz w (Kp.refl _ _))
 refine Mj Tryz.func28 (WS.start1 w _ hb (by simp [blkR]) (blkR_lt hb)) (J := ?_)
 refine Mda 14 [] [] [blkR b 26 [.int .i64 z.index, .slice z.locks.A z.locks.n z.locks.c, .slice z.pairs.A z.pairs.n z.pairs.c, .slice z.sessions.A z.sessions.n z.sessions.c]] Tryz_mixed (J := ?_)
 refine Mih (pBk 15 1 1 (.head _)) (J := ?_)
 refine Mp (vs := fun bs => [.slice z.locks.A z.locks.n z.locks.c, .string o.a]) Tryz.call83 (fun bs w hS => lock_Who z.locks o.a w (And.left (hz _ hS.kp))) (J := ?_)
 refine Mz (J := ?_)
 refine Md (o.kind = 1) (T := fun h1 => ?_) (F := fun h1 => ?_)
 · refine Mda 20 [18] [2] [blkR b 26 [.int .i64 z.index, .slice z.locks.A z.locks.n z.locks.c, .slice z.pairs.A z.pairs.n z.pairs.c, .slice z.sessions.A z.sessions.n z.sessions.c]] Tryz_mixed (J := ?_)
   refine Mih (pBk 52 1 1 (.head _)) (J := ?_)
   refine Mu (vs := fun bs => [.slice z.locks.A z.locks.n z.locks.c, .string o.a, .int .i64 who, .bool (decide (o.kind = 2))]) Tryz.call84 (fun bs w hS => lock_Take z.locks o.a who (decide (o.kind = 2)) w (And.left (hz _ hS.kp)) (And.left ho)) (J := ?_)
   rintro fp1 y1 hF1 hok1
   refine m_perm (R' := [blkR b 26 [.int .i64 z.index, .slice z.locks.A z.locks.n z.locks.c, .slice z.pairs.A z.pairs.n z.pairs.c, .slice z.sessions.A z.sessions.n z.sessions.c], subR fp1 y1]) (Pf 1 rfl) ?_
   refine MsbX [] 1 [.int .i64 z.index, .slice y1.A y1.n y1.c, .slice z.pairs.A z.pairs.n z.pairs.c, .slice z.sessions.A z.sessions.n z.sessions.c] (J := ?_)
   refine Mt [.agg #[.int .i64 ((mTake (z.locks.xs.map CLock.abs) o.a who (decide (o.kind = 2))).2.1).code, .int .i64 ((mTake (z.locks.xs.map CLock.abs) o.a who (decide (o.kind = 2))).2.1).n, .string ((mTake (z.locks.xs.map CLock.abs) o.a who (decide (o.kind = 2))).2.1).text]] fun bs w hS => ?_
   have hS2 := hS.perm (R' := [blkR b 26 [.int .i64 z.index, .slice y1.A y1.n y1.c, .slice z.pairs.A z.pairs.n z.pairs.c, .slice z.sessions.A z.sessions.n z.sessions.c], subR fp1 y1]) (List.Perm.trans (l₂ := [subR fp1 y1, blkR b 26 [.int .i64 z.index, .slice y1.A y1.n y1.c, .slice z.pairs.A z.pairs.n z.pairs.c, .slice z.sessions.A z.sessions.n z.sessions.c]]) (Pf 1 rfl) (List.Perm.trans (l₂ := [blkR b 26 [.int .i64 z.index, .slice y1.A y1.n y1.c, .slice z.pairs.A z.pairs.n z.pairs.c, .slice z.sessions.A z.sessions.n z.sessions.c], subR fp1 y1]) (Pf 1 rfl) (List.Perm.refl _)))
   have hm : mDo (z.locks.xs.map CLock.abs) z.pairs.xs who o = ((mTake (z.locks.xs.map CLock.abs) o.a who (decide (o.kind = 2))).1, z.pairs.xs, (mTake (z.locks.xs.map CLock.abs) o.a who (decide (o.kind = 2))).2.1) := by unfold mDo; rw [if_pos (.inl h1)]
   refine ⟨(some (fp1, y1), none), ?_, ⟨?_, ?_⟩, (hS2.turnedN (fun _ h => h)).as (fun h r hr => ?_) (by simp [allR, lkR, noR])⟩
   · rw [hm] <;> rfl
   · rw [hm] <;> exact hF1
   · rw [hm] <;> rfl
   · simp only [List.mem_cons, List.not_mem_nil, or_false] at hr
     rcases hr with rfl | rfl
     · exact h _ (.head _)
     · trivial
 refine Md (o.kind = 2) (T := fun h2 => ?_) (F := fun h2 => ?_)
 · refine Mda 20 [18] [2] [blkR b 26 [.int .i64 z.index, .slice z.locks.A z.locks.n z.locks.c, .slice z.pairs.A z.pairs.n z.pairs.c, .slice z.sessions.A z.sessions.n z.sessions.c]] Tryz_mixed (J := ?_)
   refine Mih (pBk 52 1 1 (.head _)) (J := ?_)
   refine Mu (vs := fun bs => [.slice z.locks.A z.locks.n z.locks.c, .string o.a, .int .i64 who, .bool (decide (o.kind = 2))]) Tryz.call84 (fun bs w hS => lock_Take z.locks o.a who (decide (o.kind = 2)) w (And.left (hz _ hS.kp)) (And.left ho)) (J := ?_)
   rintro fp2 y2 hF2 hok2
   refine m_perm (R' := [blkR b 26 [.int .i64 z.index, .slice z.locks.A z.locks.n z.locks.c, .slice z.pairs.A z.pairs.n z.pairs.c, .slice z.sessions.A z.sessions.n z.sessions.c], subR fp2 y2]) (Pf 1 rfl) ?_
   refine MsbX [] 1 [.int .i64 z.index, .slice y2.A y2.n y2.c, .slice z.pairs.A z.pairs.n z.pairs.c, .slice z.sessions.A z.sessions.n z.sessions.c] (J := ?_)
   refine Mt [.agg #[.int .i64 ((mTake (z.locks.xs.map CLock.abs) o.a who (decide (o.kind = 2))).2.1).code, .int .i64 ((mTake (z.locks.xs.map CLock.abs) o.a who (decide (o.kind = 2))).2.1).n, .string ((mTake (z.locks.xs.map CLock.abs) o.a who (decide (o.kind = 2))).2.1).text]] fun bs w hS => ?_
   have hS2 := hS.perm (R' := [blkR b 26 [.int .i64 z.index, .slice y2.A y2.n y2.c, .slice z.pairs.A z.pairs.n z.pairs.c, .slice z.sessions.A z.sessions.n z.sessions.c], subR fp2 y2]) (List.Perm.trans (l₂ := [subR fp2 y2, blkR b 26 [.int .i64 z.index, .slice y2.A y2.n y2.c, .slice z.pairs.A z.pairs.n z.pairs.c, .slice z.sessions.A z.sessions.n z.sessions.c]]) (Pf 1 rfl) (List.Perm.trans (l₂ := [blkR b 26 [.int .i64 z.index, .slice y2.A y2.n y2.c, .slice z.pairs.A z.pairs.n z.pairs.c, .slice z.sessions.A z.sessions.n z.sessions.c], subR fp2 y2]) (Pf 1 rfl) (List.Perm.refl _)))
   have hm : mDo (z.locks.xs.map CLock.abs) z.pairs.xs who o = ((mTake (z.locks.xs.map CLock.abs) o.a who (decide (o.kind = 2))).1, z.pairs.xs, (mTake (z.locks.xs.map CLock.abs) o.a who (decide (o.kind = 2))).2.1) := by unfold mDo; rw [if_pos (.inr h2)]
   refine ⟨(some (fp2, y2), none), ?_, ⟨?_, ?_⟩, (hS2.turnedN (fun _ h => h)).as (fun h r hr => ?_) (by simp [allR, lkR, noR])⟩
   · rw [hm] <;> rfl
   · rw [hm] <;> exact hF2
   · rw [hm] <;> rfl
   · simp only [List.mem_cons, List.not_mem_nil, or_false] at hr
     rcases hr with rfl | rfl
     · exact h _ (.head _)
     · trivial
 refine Md (o.kind = 3) (T := fun h3 => ?_) (F := fun h3 => ?_)
 · refine Mda 17 [15] [2] [blkR b 26 [.int .i64 z.index, .slice z.locks.A z.locks.n z.locks.c, .slice z.pairs.A z.pairs.n z.pairs.c, .slice z.sessions.A z.sessions.n z.sessions.c]] Tryz_mixed (J := ?_)
   refine Mih (pBk 74 1 1 (.head _)) (J := ?_)
   refine Mu (vs := fun bs => [.slice z.locks.A z.locks.n z.locks.c, .string o.a, .int .i64 who]) Tryz.call85 (fun bs w hS => lock_Free z.locks o.a who w (And.left (hz _ hS.kp)) (And.left ho)) (J := ?_)
   rintro fp3 y3 hF3 hok3
   refine m_perm (R' := [blkR b 26 [.int .i64 z.index, .slice z.locks.A z.locks.n z.locks.c, .slice z.pairs.A z.pairs.n z.pairs.c, .slice z.sessions.A z.sessions.n z.sessions.c], subR fp3 y3]) (Pf 1 rfl) ?_
   refine MsbX [] 1 [.int .i64 z.index, .slice y3.A y3.n y3.c, .slice z.pairs.A z.pairs.n z.pairs.c, .slice z.sessions.A z.sessions.n z.sessions.c] (J := ?_)
   refine Mt [.agg #[.int .i64 ((mFree (z.locks.xs.map CLock.abs) o.a who).2.1).code, .int .i64 ((mFree (z.locks.xs.map CLock.abs) o.a who).2.1).n, .string ((mFree (z.locks.xs.map CLock.abs) o.a who).2.1).text]] fun bs w hS => ?_
   have hS2 := hS.perm (R' := [blkR b 26 [.int .i64 z.index, .slice y3.A y3.n y3.c, .slice z.pairs.A z.pairs.n z.pairs.c, .slice z.sessions.A z.sessions.n z.sessions.c], subR fp3 y3]) (List.Perm.trans (l₂ := [subR fp3 y3, blkR b 26 [.int .i64 z.index, .slice y3.A y3.n y3.c, .slice z.pairs.A z.pairs.n z.pairs.c, .slice z.sessions.A z.sessions.n z.sessions.c]]) (Pf 1 rfl) (List.Perm.trans (l₂ := [blkR b 26 [.int .i64 z.index, .slice y3.A y3.n y3.c, .slice z.pairs.A z.pairs.n z.pairs.c, .slice z.sessions.A z.sessions.n z.sessions.c], subR fp3 y3]) (Pf 1 rfl) (List.Perm.refl _)))
   have hm : mDo (z.locks.xs.map CLock.abs) z.pairs.xs who o = ((mFree (z.locks.xs.map CLock.abs) o.a who).1, z.pairs.xs, (mFree (z.locks.xs.map CLock.abs) o.a who).2.1) := by unfold mDo; rw [if_neg (by omega), if_pos h3]
   refine ⟨(some (fp3, y3), none), ?_, ⟨?_, ?_⟩, (hS2.turnedN (fun _ h => h)).as (fun h r hr => ?_) (by simp [allR, lkR, noR])⟩
   · rw [hm] <;> rfl
   · rw [hm] <;> exact hF3
   · rw [hm] <;> rfl
   · simp only [List.mem_cons, List.not_mem_nil, or_false] at hr
     rcases hr with rfl | rfl
     · exact h _ (.head _)
     · trivial
 refine Md (o.kind = 4) (T := fun h4 => ?_) (F := fun h4 => ?_)
 · refine Mt [.agg #[.int .i64 0, .int .i64 (mWho (z.locks.xs.map CLock.abs) o.a).1, .string emp]] fun bs w hS => ?_
   have hS2 := hS.perm (R' := [blkR b 26 [.int .i64 z.index, .slice z.locks.A z.locks.n z.locks.c, .slice z.pairs.A z.pairs.n z.pairs.c, .slice z.sessions.A z.sessions.n z.sessions.c]]) (List.Perm.refl _)
   have hm : mDo (z.locks.xs.map CLock.abs) z.pairs.xs who o = (z.locks.xs.map CLock.abs, z.pairs.xs, ⟨0, (mWho (z.locks.xs.map CLock.abs) o.a).1, emp⟩) := by unfold mDo; rw [if_neg (by omega), if_neg (by omega), if_pos h4]
   refine ⟨(none, none), ?_, ⟨?_, ?_⟩, (hS2.turnedN (fun _ h => h)).as (fun h r hr => ?_) (by simp [allR, lkR, noR])⟩
   · rw [hm] <;> rfl
   · rw [hm] <;> rfl
   · rw [hm] <;> rfl
   · simp only [List.mem_cons, List.not_mem_nil, or_false] at hr
     rcases hr with rfl | rfl
     · trivial
     · trivial
 refine Md (o.kind = 6) (T := fun h5 => ?_) (F := fun h5 => ?_)
 · refine Mda 11 [] [2] [blkR b 26 [.int .i64 z.index, .slice z.locks.A z.locks.n z.locks.c, .slice z.pairs.A z.pairs.n z.pairs.c, .slice z.sessions.A z.sessions.n z.sessions.c]] Tryz_mixed (J := ?_)
   refine Mih (pBk 98 2 1 (.head _)) (J := ?_)
   refine Mp (vs := fun bs => [.slice z.pairs.A z.pairs.n z.pairs.c, .string o.a]) Tryz.call86 (fun bs w hS => pair_Get z.pairs o.a w (And.left (And.right (hz _ hS.kp)))) (J := ?_)
   refine Mz (J := ?_)
   refine Mt [.agg #[.int .i64 (mGot z.pairs.xs o.a).1.code, .int .i64 (mGot z.pairs.xs o.a).1.n, .string (mGot z.pairs.xs o.a).1.text]] fun bs w hS => ?_
   have hS2 := hS.perm (R' := [blkR b 26 [.int .i64 z.index, .slice z.locks.A z.locks.n z.locks.c, .slice z.pairs.A z.pairs.n z.pairs.c, .slice z.sessions.A z.sessions.n z.sessions.c]]) (List.Perm.refl _)
   have hm : mDo (z.locks.xs.map CLock.abs) z.pairs.xs who o = (z.locks.xs.map CLock.abs, z.pairs.xs, (mGot z.pairs.xs o.a).1) := by unfold mDo; rw [if_neg (by omega), if_neg (by omega), if_neg (by omega), if_pos h5]
   refine ⟨(none, none), ?_, ⟨?_, ?_⟩, (hS2.turnedN (fun _ h => h)).as (fun h r hr => ?_) (by simp [allR, lkR, noR])⟩
   · rw [hm] <;> rfl
   · rw [hm] <;> rfl
   · rw [hm] <;> rfl
   · simp only [List.mem_cons, List.not_mem_nil, or_false] at hr
     rcases hr with rfl | rfl
     · trivial
     · trivial
 refine Mdn ((mWho (z.locks.xs.map CLock.abs) o.a).1 = who) (T := fun h6 => ?_) (F := fun h6 => ?_)
 rotate_left
 · refine Mt [.agg #[.int .i64 10, .int .i64 (mWho (z.locks.xs.map CLock.abs) o.a).1, .string emp]] fun bs w hS => ?_
   have hS2 := hS.perm (R' := [blkR b 26 [.int .i64 z.index, .slice z.locks.A z.locks.n z.locks.c, .slice z.pairs.A z.pairs.n z.pairs.c, .slice z.sessions.A z.sessions.n z.sessions.c]]) (List.Perm.refl _)
   have hm : mDo (z.locks.xs.map CLock.abs) z.pairs.xs who o = (z.locks.xs.map CLock.abs, z.pairs.xs, ⟨10, (mWho (z.locks.xs.map CLock.abs) o.a).1, emp⟩) := by unfold mDo; rw [if_neg (by omega), if_neg (by omega), if_neg (by omega), if_neg (by omega), if_pos (.inl h6)]
   refine ⟨(none, none), ?_, ⟨?_, ?_⟩, (hS2.turnedN (fun _ h => h)).as (fun h r hr => ?_) (by simp [allR, lkR, noR])⟩
   · rw [hm] <;> rfl
   · rw [hm] <;> rfl
   · rw [hm] <;> rfl
   · simp only [List.mem_cons, List.not_mem_nil, or_false] at hr
     rcases hr with rfl | rfl
     · trivial
     · trivial
 refine Mdn ((mWho (z.locks.xs.map CLock.abs) o.a).2.1 = o.n) (T := fun h7 => ?_) (F := fun h7 => ?_)
 rotate_left
 · refine Mt [.agg #[.int .i64 10, .int .i64 (mWho (z.locks.xs.map CLock.abs) o.a).1, .string emp]] fun bs w hS => ?_
   have hS2 := hS.perm (R' := [blkR b 26 [.int .i64 z.index, .slice z.locks.A z.locks.n z.locks.c, .slice z.pairs.A z.pairs.n z.pairs.c, .slice z.sessions.A z.sessions.n z.sessions.c]]) (List.Perm.refl _)
   have hm : mDo (z.locks.xs.map CLock.abs) z.pairs.xs who o = (z.locks.xs.map CLock.abs, z.pairs.xs, ⟨10, (mWho (z.locks.xs.map CLock.abs) o.a).1, emp⟩) := by unfold mDo; rw [if_neg (by omega), if_neg (by omega), if_neg (by omega), if_neg (by omega), if_pos (.inr h7)]
   refine ⟨(none, none), ?_, ⟨?_, ?_⟩, (hS2.turnedN (fun _ h => h)).as (fun h r hr => ?_) (by simp [allR, lkR, noR])⟩
   · rw [hm] <;> rfl
   · rw [hm] <;> rfl
   · rw [hm] <;> rfl
   · simp only [List.mem_cons, List.not_mem_nil, or_false] at hr
     rcases hr with rfl | rfl
     · trivial
     · trivial
 refine Mda 18 [16] [2] [blkR b 26 [.int .i64 z.index, .slice z.locks.A z.locks.n z.locks.c, .slice z.pairs.A z.pairs.n z.pairs.c, .slice z.sessions.A z.sessions.n z.sessions.c]] Tryz_mixed (J := ?_)
 refine Mih (pBk 27 2 1 (.head _)) (J := ?_)
 refine Mu (vs := fun bs => [.slice z.pairs.A z.pairs.n z.pairs.c, .string o.a, .string o.b]) Tryz.call87 (fun bs w hS => pair_Set z.pairs o.a o.b w (And.left (And.right (hz _ hS.kp))) (And.left ho) (And.right ho)) (J := ?_)
 rintro fp4 y4 hF4 hok4
 refine m_perm (R' := [blkR b 26 [.int .i64 z.index, .slice z.locks.A z.locks.n z.locks.c, .slice z.pairs.A z.pairs.n z.pairs.c, .slice z.sessions.A z.sessions.n z.sessions.c], subR fp4 y4]) (Pf 1 rfl) ?_
 refine MsbX [] 2 [.int .i64 z.index, .slice z.locks.A z.locks.n z.locks.c, .slice y4.A y4.n y4.c, .slice z.sessions.A z.sessions.n z.sessions.c] (J := ?_)
 refine Mt [.agg #[.int .i64 ((mPSet z.pairs.xs o.a o.b).2.1).code, .int .i64 ((mPSet z.pairs.xs o.a o.b).2.1).n, .string ((mPSet z.pairs.xs o.a o.b).2.1).text]] fun bs w hS => ?_
 have hS2 := hS.perm (R' := [blkR b 26 [.int .i64 z.index, .slice z.locks.A z.locks.n z.locks.c, .slice y4.A y4.n y4.c, .slice z.sessions.A z.sessions.n z.sessions.c], subR fp4 y4]) (List.Perm.trans (l₂ := [subR fp4 y4, blkR b 26 [.int .i64 z.index, .slice z.locks.A z.locks.n z.locks.c, .slice y4.A y4.n y4.c, .slice z.sessions.A z.sessions.n z.sessions.c]]) (Pf 1 rfl) (List.Perm.trans (l₂ := [blkR b 26 [.int .i64 z.index, .slice z.locks.A z.locks.n z.locks.c, .slice y4.A y4.n y4.c, .slice z.sessions.A z.sessions.n z.sessions.c], subR fp4 y4]) (Pf 1 rfl) (List.Perm.refl _)))
 have hm : mDo (z.locks.xs.map CLock.abs) z.pairs.xs who o = (z.locks.xs.map CLock.abs, (mPSet z.pairs.xs o.a o.b).1, (mPSet z.pairs.xs o.a o.b).2.1) := by unfold mDo; rw [if_neg (by omega), if_neg (by omega), if_neg (by omega), if_neg (by omega), if_neg (by rintro (h | h); exact h h6; exact h h7)]
 refine ⟨(none, some (fp4, y4)), ?_, ⟨?_, ?_⟩, (hS2.turnedN (fun _ h => h)).as (fun h r hr => ?_) (by simp [allR, lkR, noR])⟩
 · rw [hm] <;> rfl
 · rw [hm] <;> rfl
 · rw [hm] <;> exact hF4
 · simp only [List.mem_cons, List.not_mem_nil, or_false] at hr
   rcases hr with rfl | rfl
   · trivial
   · exact h _ (.head _)

theorem machine_Apply {B : Nat → Prop} (x : CState) (t : ByteArray) (w : World) (hx : Rds.sub B w x) (ht : t.size ≤ 9223372036854775807) : Calls Tryz.prog 7 #[.agg #[.int .i64 x.index, .slice x.locks.A x.locks.n x.locks.c, .slice x.pairs.A x.pairs.n x.pairs.c, .slice x.sessions.A x.sessions.n x.sessions.c], .string t] w fun e w' => ∃ y : CState, e = .returned (.tuple #[.agg #[.int .i64 y.index, .slice y.locks.A y.locks.n y.locks.c, .slice y.pairs.A y.pairs.n y.pairs.c, .slice y.sessions.A y.sessions.n y.sessions.c], .agg #[.int .i64 ((mApply x.abs t).2.1).code, .int .i64 ((mApply x.abs t).2.1).n, .string ((mApply x.abs t).2.1).text], .int .i64 (mApply x.abs t).2.2]) ∧ y.abs = (mApply x.abs t).1 ∧ FreshS w w' y := by
 have okx := Rds.okof hx
 refine M0 Tryz.func7 (J := ?_)
 refine Mp Tryz.call20 (fun bs w hS => machine_Check x w (Rds.kp hx hS.kp)) (J := ?_)
 refine Mdn (mState x.abs = 0) (T := fun h1 => ?_) (F := fun h1 => ?_)
 rotate_left
 · refine Mt [.agg #[.int .i64 0, .slice none 0 0, .slice none 0 0, .slice none 0 0], .agg #[.int .i64 0, .int .i64 0, .string emp], .int .i64 (mState x.abs)] fun bs w hS => ?_
   have hm := apply_bad (t := t) h1
   refine ⟨(⟨0, Sl.nil, Sl.nil, Sl.nil⟩ : CState), ?_, ?_, hS.outS (y := (⟨0, Sl.nil, Sl.nil, Sl.nil⟩ : CState)) ⟨Sl.rd_nil _ _, Sl.rd_nil _ _, Sl.rd_nil _ _⟩⟩
   · rw [hm] <;> rfl
   · rw [hm] <;> rfl
 have hsi := state_idx h1
 have hsi1 : 0 ≤ x.index := hsi.1
 have hsi2 : x.index ≤ 1073741824 := hsi.2
 refine Md (x.index = 1073741824) (T := fun h2 => ?_) (F := fun h2 => ?_)
 · refine Mt [.agg #[.int .i64 0, .slice none 0 0, .slice none 0 0, .slice none 0 0], .agg #[.int .i64 0, .int .i64 0, .string emp], .int .i64 2] fun bs w hS => ?_
   have hm := apply_end (t := t) h1 (by show _ ≤ x.index; omega)
   refine ⟨(⟨0, Sl.nil, Sl.nil, Sl.nil⟩ : CState), ?_, ?_, hS.outS (y := (⟨0, Sl.nil, Sl.nil, Sl.nil⟩ : CState)) ⟨Sl.rd_nil _ _, Sl.rd_nil _ _, Sl.rd_nil _ _⟩⟩
   · rw [hm] <;> rfl
   · rw [hm] <;> rfl
 refine Mp Tryz.call21 (fun bs w hS => command_Decode t w ht) (J := ?_)
 refine Mdn ((mDecode t).2 = 0) (T := fun h3 => ?_) (F := fun h3 => ?_)
 rotate_left
 · refine Mt [.agg #[.int .i64 0, .slice none 0 0, .slice none 0 0, .slice none 0 0], .agg #[.int .i64 0, .int .i64 0, .string emp], .int .i64 (mDecode t).2] fun bs w hS => ?_
   have hm := apply_dec h1 (by show ¬ _ ≤ x.index; omega) h3
   refine ⟨(⟨0, Sl.nil, Sl.nil, Sl.nil⟩ : CState), ?_, ?_, hS.outS (y := (⟨0, Sl.nil, Sl.nil, Sl.nil⟩ : CState)) ⟨Sl.rd_nil _ _, Sl.rd_nil _ _, Sl.rd_nil _ _⟩⟩
   · rw [hm] <;> rfl
   · rw [hm] <;> rfl
 obtain ⟨hcb1, hcb2, hcb3, hcb4, hcb5, hcb6⟩ := cmd_bd (mDecode_ok h3).1
 refine Mu (σ := CState) (v := fun y1 => .agg #[.int .i64 y1.index, .slice y1.locks.A y1.locks.n y1.locks.c, .slice y1.pairs.A y1.pairs.n y1.pairs.c, .slice y1.sessions.A y1.sessions.n y1.sessions.c]) (F := fun y1 => y1.abs = x.abs) Tryz.call22 (fun bs w hS => machine_Copy x w (Rds.kp hx hS.kp) (small_state (by assumption))) (J := ?_)
 rintro fp1 y1 hF1 hok1
 refine Mu Tryz.call23 (fun bs w hS => session_Fresh y1.sessions y1.index w (And.right (And.right (hS.res _ (.head _))))) (J := ?_)
 rintro fp2 y2 hF2 hok2
 refine Mon 0 Tryz.call24 (fun bs w hS hb => machine_gone (B := anyB) (B' := anyB) ((⟨y1.index, y1.locks, y1.pairs, y2⟩ : CState)) y1.sessions (bs.getD 0 0) w hb (fun w' hk => ⟨(Sl.rd.wide (And.left ((hS.resI 0 hk) _ (.tail _ (.head _)))) fun _ _ => trivial), (Sl.rd.wide (And.left (And.right ((hS.resI 0 hk) _ (.tail _ (.head _))))) fun _ _ => trivial), (Sl.rd.wide ((hS.resI 0 hk) _ (.head _)) fun _ _ => trivial)⟩) (fun w' hk => (Sl.rd.wide (And.right (And.right ((hS.resI 0 hk) _ (.tail _ (.head _))))) fun _ _ => trivial))) (J := ?_)
 rintro y3 hF3
 refine Md ((mDecode t).1.kind = 1) (T := fun h4 => ?_) (F := fun h4 => ?_)
 · have hix : y1.index = x.index := congrArg DState.index hF1
   refine Mu (σ := Sl CSession) (v := fun y5 => .tuple #[.slice y5.A y5.n y5.c, .agg #[.int .i64 ((mJoin (y2.xs.map CSession.abs) y1.index (mDecode t).1.client).2.1).code, .int .i64 ((mJoin (y2.xs.map CSession.abs) y1.index (mDecode t).1.client).2.1).n, .string ((mJoin (y2.xs.map CSession.abs) y1.index (mDecode t).1.client).2.1).text], .int .i64 (mJoin (y2.xs.map CSession.abs) y1.index (mDecode t).1.client).2.2]) (F := fun y5 => y5.xs.map CSession.abs = (mJoin (y2.xs.map CSession.abs) y1.index (mDecode t).1.client).1) Tryz.call25 (fun bs w hS => session_Join y2 y1.index (mDecode t).1.client w (hS.res _ (.tail _ (.head _))) (by unfold inR; omega)) (J := ?_)
   rintro fp5 y5 hF5 hok5
   refine Mi (pR (y1.index + 1)) (J := ?_)
   refine Mda 5 [] [1, 2] [subR fp5 y5, lkR y3, subR fp2 y2, subR fp1 y1] Tryz_mixed (J := ?_)
   refine Mz (J := ?_)
   refine Mt [.agg #[.int .i64 (y1.index + 1), .slice (lk y1.locks y3).A (lk y1.locks y3).n (lk y1.locks y3).c, .slice y1.pairs.A y1.pairs.n y1.pairs.c, .slice y5.A y5.n y5.c], .agg #[.int .i64 ((mJoin (y2.xs.map CSession.abs) y1.index (mDecode t).1.client).2.1).code, .int .i64 ((mJoin (y2.xs.map CSession.abs) y1.index (mDecode t).1.client).2.1).n, .string ((mJoin (y2.xs.map CSession.abs) y1.index (mDecode t).1.client).2.1).text], .int .i64 0] fun bs w hS => ?_
   have e3 : aFresh y1.abs = y2.xs.map CSession.abs := hF2.symm
   have e4 : aLocks y1.abs = (lk y1.locks y3).xs.map CLock.abs := by unfold aLocks; rw [e3]; exact hF3.symm
   have hs : mStep x.abs (mDecode t).1 = _ := (congrArg (fun q => mStep q (mDecode t).1) hF1).symm.trans (step_join e3 e4 h4)
   have hm := apply_ok h1 (by show ¬ _ ≤ x.index; omega) h3 hs
   refine ⟨(⟨y1.index + 1, (lk y1.locks y3), y1.pairs, y5⟩ : CState), ?_, ?_, hS.outS (y := (⟨y1.index + 1, (lk y1.locks y3), y1.pairs, y5⟩ : CState)) ⟨(lk_out (And.left (allR_sub (y := y1) (.tail _ (.tail _ (.tail _ (.head _)))) (hS.res _ (.tail _ (.tail _ (.tail _ (.head _))))))) (.tail _ (.head _)) hS.res), (And.left (And.right (allR_sub (y := y1) (.tail _ (.tail _ (.tail _ (.head _)))) (hS.res _ (.tail _ (.tail _ (.tail _ (.head _)))))))), (allR_sub (y := y5) (.head _) (hS.res _ (.head _)))⟩⟩
   · rw [hm] <;> rfl
   · rw [hm]
     show (⟨_, (lk y1.locks y3).xs.map CLock.abs, y1.pairs.xs, y5.xs.map CSession.abs⟩ : DState) = _
     rw [hF5] <;> rfl
 have hix : y1.index = x.index := congrArg DState.index hF1
 refine Md ((mDecode t).1.kind = 3) (T := fun h5 => ?_) (F := fun h5 => ?_)
 · refine Mu (σ := Sl CSession) (v := fun y6 => .tuple #[.slice y6.A y6.n y6.c, .agg #[.int .i64 ((mLeave (y2.xs.map CSession.abs) y1.index (mDecode t).1.client).2.1).code, .int .i64 ((mLeave (y2.xs.map CSession.abs) y1.index (mDecode t).1.client).2.1).n, .string ((mLeave (y2.xs.map CSession.abs) y1.index (mDecode t).1.client).2.1).text], .int .i64 (mLeave (y2.xs.map CSession.abs) y1.index (mDecode t).1.client).2.2]) (F := fun y6 => y6.xs.map CSession.abs = (mLeave (y2.xs.map CSession.abs) y1.index (mDecode t).1.client).1) Tryz.call26 (fun bs w hS => session_Leave y2 y1.index (mDecode t).1.client w (hS.res _ (.tail _ (.head _))) (by unfold inR; omega)) (J := ?_)
   rintro fp6 y6 hF6 hok6
   refine Mon 0 Tryz.call24 (fun bs w hS hb => machine_gone (B := anyB) (B' := anyB) ((⟨y1.index, (lk y1.locks y3), y1.pairs, y6⟩ : CState)) y2 (bs.getD 0 0) w hb (fun w' hk => ⟨(Sl.rd.wide (lk_rd (And.left ((hS.resI 0 hk) _ (.tail _ (.tail _ (.tail _ (.head _)))))) ((hS.resI 0 hk) _ (.tail _ (.head _)))) fun _ _ => trivial), (Sl.rd.wide (And.left (And.right ((hS.resI 0 hk) _ (.tail _ (.tail _ (.tail _ (.head _))))))) fun _ _ => trivial), (Sl.rd.wide ((hS.resI 0 hk) _ (.head _)) fun _ _ => trivial)⟩) (fun w' hk => (Sl.rd.wide ((hS.resI 0 hk) _ (.tail _ (.tail _ (.head _)))) fun _ _ => trivial))) (J := ?_)
   rintro y7 hF7
   refine Mi (pR (y1.index + 1)) (J := ?_)
   refine Mda 5 [] [1, 2] [lkR y7, subR fp6 y6, lkR y3, subR fp2 y2, subR fp1 y1] Tryz_mixed (J := ?_)
   refine Mz (J := ?_)
   refine Mt [.agg #[.int .i64 (y1.index + 1), .slice (lk (lk y1.locks y3) y7).A (lk (lk y1.locks y3) y7).n (lk (lk y1.locks y3) y7).c, .slice y1.pairs.A y1.pairs.n y1.pairs.c, .slice y6.A y6.n y6.c], .agg #[.int .i64 ((mLeave (y2.xs.map CSession.abs) y1.index (mDecode t).1.client).2.1).code, .int .i64 ((mLeave (y2.xs.map CSession.abs) y1.index (mDecode t).1.client).2.1).n, .string ((mLeave (y2.xs.map CSession.abs) y1.index (mDecode t).1.client).2.1).text], .int .i64 0] fun bs w hS => ?_
   have e3 : aFresh y1.abs = y2.xs.map CSession.abs := hF2.symm
   have e4 : aLocks y1.abs = (lk y1.locks y3).xs.map CLock.abs := by unfold aLocks; rw [e3]; exact hF3.symm
   have hs : mStep x.abs (mDecode t).1 = _ := (congrArg (fun q => mStep q (mDecode t).1) hF1).symm.trans (step_leave e3 e4 h4 h5)
   have hm := apply_ok h1 (by show ¬ _ ≤ x.index; omega) h3 hs
   refine ⟨(⟨y1.index + 1, (lk (lk y1.locks y3) y7), y1.pairs, y6⟩ : CState), ?_, ?_, hS.outS (y := (⟨y1.index + 1, (lk (lk y1.locks y3) y7), y1.pairs, y6⟩ : CState)) ⟨(lk_out (lk_out (And.left (allR_sub (y := y1) (.tail _ (.tail _ (.tail _ (.tail _ (.head _))))) (hS.res _ (.tail _ (.tail _ (.tail _ (.tail _ (.head _)))))))) (.tail _ (.tail _ (.head _))) hS.res) (.head _) hS.res), (And.left (And.right (allR_sub (y := y1) (.tail _ (.tail _ (.tail _ (.tail _ (.head _))))) (hS.res _ (.tail _ (.tail _ (.tail _ (.tail _ (.head _))))))))), (allR_sub (y := y6) (.tail _ (.head _)) (hS.res _ (.tail _ (.head _))))⟩⟩
   · rw [hm] <;> rfl
   · rw [hm]
     show (⟨_, (lk (lk y1.locks y3) y7).xs.map CLock.abs, y1.pairs.xs, y6.xs.map CSession.abs⟩ : DState) = _
     rw [hF7, hF6] <;> rfl
 refine Mu (σ := Sl CSession) (v := fun y9 => .tuple #[.slice y9.A y9.n y9.c, .agg #[.int .i64 ((mReady (y2.xs.map CSession.abs) y1.index (mDecode t).1).2.1).code, .int .i64 ((mReady (y2.xs.map CSession.abs) y1.index (mDecode t).1).2.1).n, .string ((mReady (y2.xs.map CSession.abs) y1.index (mDecode t).1).2.1).text], .bool (mReady (y2.xs.map CSession.abs) y1.index (mDecode t).1).2.2.1, .int .i64 (mReady (y2.xs.map CSession.abs) y1.index (mDecode t).1).2.2.2]) (F := fun y9 => y9.xs.map CSession.abs = (mReady (y2.xs.map CSession.abs) y1.index (mDecode t).1).1) Tryz.call27 (fun bs w hS => session_Ready y2 y1.index (mDecode t).1 w (hS.res _ (.tail _ (.head _))) (by unfold inR; omega) ⟨hcb5, hcb6⟩) (J := ?_)
 rintro fp9 y9 hF9 hok9
 refine Mb ((mReady (y2.xs.map CSession.abs) y1.index (mDecode t).1).2.2.1) (T := fun h6 => ?_) (F := fun h6 => ?_)
 rotate_left
 · refine Mi (pR (y1.index + 1)) (J := ?_)
   refine Mda 5 [] [1, 2] [subR fp9 y9, lkR y3, subR fp2 y2, subR fp1 y1] Tryz_mixed (J := ?_)
   refine Mz (J := ?_)
   refine Mt [.agg #[.int .i64 (y1.index + 1), .slice (lk y1.locks y3).A (lk y1.locks y3).n (lk y1.locks y3).c, .slice y1.pairs.A y1.pairs.n y1.pairs.c, .slice y9.A y9.n y9.c], .agg #[.int .i64 ((mReady (y2.xs.map CSession.abs) y1.index (mDecode t).1).2.1).code, .int .i64 ((mReady (y2.xs.map CSession.abs) y1.index (mDecode t).1).2.1).n, .string ((mReady (y2.xs.map CSession.abs) y1.index (mDecode t).1).2.1).text], .int .i64 0] fun bs w hS => ?_
   have e3 : aFresh y1.abs = y2.xs.map CSession.abs := hF2.symm
   have e4 : aLocks y1.abs = (lk y1.locks y3).xs.map CLock.abs := by unfold aLocks; rw [e3]; exact hF3.symm
   have hs : mStep x.abs (mDecode t).1 = _ := (congrArg (fun q => mStep q (mDecode t).1) hF1).symm.trans (step_not e3 e4 h4 h5 h6)
   have hm := apply_ok h1 (by show ¬ _ ≤ x.index; omega) h3 hs
   refine ⟨(⟨y1.index + 1, (lk y1.locks y3), y1.pairs, y9⟩ : CState), ?_, ?_, hS.outS (y := (⟨y1.index + 1, (lk y1.locks y3), y1.pairs, y9⟩ : CState)) ⟨(lk_out (And.left (allR_sub (y := y1) (.tail _ (.tail _ (.tail _ (.head _)))) (hS.res _ (.tail _ (.tail _ (.tail _ (.head _))))))) (.tail _ (.head _)) hS.res), (And.left (And.right (allR_sub (y := y1) (.tail _ (.tail _ (.tail _ (.head _)))) (hS.res _ (.tail _ (.tail _ (.tail _ (.head _)))))))), (allR_sub (y := y9) (.head _) (hS.res _ (.head _)))⟩⟩
   · rw [hm] <;> rfl
   · rw [hm]
     show (⟨_, (lk y1.locks y3).xs.map CLock.abs, y1.pairs.xs, y9.xs.map CSession.abs⟩ : DState) = _
     rw [hF9] <;> rfl
 refine Mon 0 Tryz.call28 (fun bs w hS hb => machine_do (B := anyB) (B' := anyB) ((⟨y1.index, (lk y1.locks y3), y1.pairs, y9⟩ : CState)) (mDecode t).1.client (mDecode t).1.op (bs.getD 0 0) w hb (fun w' hk => ⟨(Sl.rd.wide (lk_rd (And.left ((hS.resI 0 hk) _ (.tail _ (.tail _ (.tail _ (.head _)))))) ((hS.resI 0 hk) _ (.tail _ (.head _)))) fun _ _ => trivial), (Sl.rd.wide (And.left (And.right ((hS.resI 0 hk) _ (.tail _ (.tail _ (.tail _ (.head _))))))) fun _ _ => trivial), (Sl.rd.wide ((hS.resI 0 hk) _ (.head _)) fun _ _ => trivial)⟩) ⟨hcb5, hcb6⟩) (J := ?_)
 rintro y10 hF10
 refine m_split2 ?_
 have hdt10 := mDo_text (L := (lk y1.locks y3).xs.map CLock.abs) (P := y1.pairs.xs) (fun p hp => mem_getD (P := fun p : DPair => p.value.size ≤ 9223372036854775807) (fun j hj => ((hok1.2.1).2.2 j hj).2.2) p hp) (mDecode t).1.client (mDecode t).1.op
 refine Mi (pR (y1.index + 1)) (J := ?_)
 refine Mu (σ := Sl CSession) (v := fun y12 => .tuple #[.slice y12.A y12.n y12.c, .int .i64 (mKeep (y9.xs.map CSession.abs) (y1.index + 1) (mDecode t).1.client (mDecode t).1.seq (mDo ((lk y1.locks y3).xs.map CLock.abs) y1.pairs.xs (mDecode t).1.client (mDecode t).1.op).2.2).2]) (F := fun y12 => y12.xs.map CSession.abs = (mKeep (y9.xs.map CSession.abs) (y1.index + 1) (mDecode t).1.client (mDecode t).1.seq (mDo ((lk y1.locks y3).xs.map CLock.abs) y1.pairs.xs (mDecode t).1.client (mDecode t).1.op).2.2).1) Tryz.call29 (fun bs w hS => session_Keep y9 (y1.index + 1) (mDecode t).1.client (mDecode t).1.seq (mDo ((lk y1.locks y3).xs.map CLock.abs) y1.pairs.xs (mDecode t).1.client (mDecode t).1.op).2.2 w (hS.res _ (.tail _ (.tail _ (.head _)))) (by unfold inR; omega) (by unfold inR; omega) (by first | assumption | omega | (simp only [emp_size]; omega))) (J := ?_)
 rintro fp12 y12 hF12 hok12
 refine Mi (pR (y1.index + 1)) (J := ?_)
 refine Mda 5 [] [1, 2] [subR fp12 y12, lkR y10.1, lkR y10.2, subR fp9 y9, lkR y3, subR fp2 y2, subR fp1 y1] Tryz_mixed (J := ?_)
 refine Mz (J := ?_)
 refine Mt [.agg #[.int .i64 (y1.index + 1), .slice (lk (lk y1.locks y3) y10.1).A (lk (lk y1.locks y3) y10.1).n (lk (lk y1.locks y3) y10.1).c, .slice (lk y1.pairs y10.2).A (lk y1.pairs y10.2).n (lk y1.pairs y10.2).c, .slice y12.A y12.n y12.c], .agg #[.int .i64 ((mDo ((lk y1.locks y3).xs.map CLock.abs) y1.pairs.xs (mDecode t).1.client (mDecode t).1.op).2.2).code, .int .i64 ((mDo ((lk y1.locks y3).xs.map CLock.abs) y1.pairs.xs (mDecode t).1.client (mDecode t).1.op).2.2).n, .string ((mDo ((lk y1.locks y3).xs.map CLock.abs) y1.pairs.xs (mDecode t).1.client (mDecode t).1.op).2.2).text], .int .i64 0] fun bs w hS => ?_
 have e3 : aFresh y1.abs = y2.xs.map CSession.abs := hF2.symm
 have e4 : aLocks y1.abs = (lk y1.locks y3).xs.map CLock.abs := by unfold aLocks; rw [e3]; exact hF3.symm
 have hs : mStep x.abs (mDecode t).1 = _ := (congrArg (fun q => mStep q (mDecode t).1) hF1).symm.trans (step_do e3 e4 h4 h5 h6)
 have hm := apply_ok h1 (by show ¬ _ ≤ x.index; omega) h3 hs
 refine ⟨(⟨y1.index + 1, (lk (lk y1.locks y3) y10.1), (lk y1.pairs y10.2), y12⟩ : CState), ?_, ?_, hS.outS (y := (⟨y1.index + 1, (lk (lk y1.locks y3) y10.1), (lk y1.pairs y10.2), y12⟩ : CState)) ⟨(lk_out (lk_out (And.left (allR_sub (y := y1) (.tail _ (.tail _ (.tail _ (.tail _ (.tail _ (.tail _ (.head _))))))) (hS.res _ (.tail _ (.tail _ (.tail _ (.tail _ (.tail _ (.tail _ (.head _)))))))))) (.tail _ (.tail _ (.tail _ (.tail _ (.head _))))) hS.res) (.tail _ (.head _)) hS.res), (lk_out (And.left (And.right (allR_sub (y := y1) (.tail _ (.tail _ (.tail _ (.tail _ (.tail _ (.tail _ (.head _))))))) (hS.res _ (.tail _ (.tail _ (.tail _ (.tail _ (.tail _ (.tail _ (.head _))))))))))) (.tail _ (.tail _ (.head _))) hS.res), (allR_sub (y := y12) (.head _) (hS.res _ (.head _)))⟩⟩
 · rw [hm] <;> rfl
 · rw [hm]
   show (⟨_, (lk (lk y1.locks y3) y10.1).xs.map CLock.abs, (lk y1.pairs y10.2).xs, y12.xs.map CSession.abs⟩ : DState) = _
   rw [hF10.1, hF10.2, hF12, hF9] <;> rfl

theorem ref_released {B1 B2 B3 : Nat → Prop} (s : Sl CLock) (a b : Sl CSession) (w : World) (hs : s.rd B1 w) (ha : a.rd B2 w) (hb : b.rd B3 w) : Calls Tryz.prog 33 #[.slice s.A s.n s.c, .slice a.A a.n a.c, .slice b.A b.n b.c] w fun e w' => ∃ y : Option (List Nat × Sl CLock), e = .returned (lk s y).val ∧ (lk s y).xs.map CLock.abs = mRel (s.xs.map CLock.abs) (a.xs.map CSession.abs) (b.xs.map CSession.abs) ∧ Kp [] w w' ∧ Fresh w w' (lkR y) := by
 have oka := Sl.rd.ok ha
 have nca := Sl.ok.nc oka
 have hna : a.n = a.xs.length := rfl
 have okb := Sl.rd.ok hb
 have ncb := Sl.ok.nc okb
 have oks := Sl.rd.ok hs
 have ncs := Sl.ok.nc oks
 refine M0 Tryz.func33 (J := ?_)
 refine m_nores (lkR (none : Option (List Nat × Sl CLock))) rfl (fun w => trivial) ?_
 refine Ml (σ := Nat × Option (List Nat × Sl CLock)) (fun ⟨i, o⟩ => i ≤ a.n ∧ (lk s o).xs.map CLock.abs = mRel (s.xs.map CLock.abs) ((a.xs.map CSession.abs).take i) (b.xs.map CSession.abs)) (fun ⟨i, o⟩ => a.n - i) (fun ⟨i, o⟩ => [lkR o]) [7, 0, 1, 2] (fun ⟨i, o⟩ => [(7, vI (i : Int)), (0, .v (.slice (lk s o).A (lk s o).n (lk s o).c))]) (fun _ => []) (⟨0, none⟩) ⟨Nat.zero_le _, rfl⟩ (B := ?_)
 rintro ⟨i, o⟩ ⟨hi, hI⟩ _ on1
 refine Md ((i : Int) < (a.n : Int)) (T := fun h1 => ?_) (F := fun h1 => ?_)
 rotate_left
 · refine Mt [.slice (lk s o).A (lk s o).n (lk s o).c] fun bs w hS => ?_
   have hte : (a.xs.map CSession.abs).take i = a.xs.map CSession.abs := List.take_of_length_le (by rw [List.length_map]; omega)
   rw [hte] at hI
   exact ⟨o, rfl, hI, hS.kp, hS.out1⟩
 refine Mi (pc (pI 17 (i : Int) i (rdk ha)) (pF 19 i 0 1 (rdk ha))) (J := ?_)
 refine Mp Tryz.call98 (fun bs w hS => tackroomref_sessionAt b (a.at i).client w (Sl.rd.kp hb hS.kp)) (J := ?_)
 refine Md (mIdx (fun x : CSession => decide (x.client = (a.at i).client)) b.xs < 0) (T := fun h2 => ?_) (F := fun h2 => ?_)
 rotate_left
 · refine Mi (pR ((i : Int) + 1)) (J := ?_)
   have hsx : sIdx (b.xs.map CSession.abs) (a.at i).abs.client = mIdx (fun x : CSession => decide (x.client = (a.at i).client)) b.xs := (mIdx_map CSession.abs (fun x : DSession => decide (x.client = (a.at i).client)) b.xs).symm
   have hgo : (lk s (o)).xs.map CLock.abs = if sIdx (b.xs.map CSession.abs) (a.at i).abs.client < 0 then (mGone ((lk s o).xs.map CLock.abs) (a.at i).abs.client).1 else (lk s o).xs.map CLock.abs := by rw [hsx, if_neg h2]
   exact on1 (⟨i + 1, o⟩ : Nat × Option (List Nat × Sl CLock)) ⟨by omega, rel_next (by rw [List.length_map]; omega) (sabs_at i) hI hgo⟩ (by show a.n - (i + 1) < a.n - i; omega)
 refine Mi (pc (pI 26 (i : Int) i (rdk ha)) (pF 28 i 0 1 (rdk ha))) (J := ?_)
 refine Mu Tryz.call99 (fun bs w hS => ref_GoneOf (lk s o) (a.at i).client w (lk_rd (Sl.rd.kp hs hS.kp) (hS.res _ (.head _)))) (J := ?_)
 rintro fp1 y1 hF1 hok1
 refine Mi (pR ((i : Int) + 1)) (J := ?_)
 have hsx : sIdx (b.xs.map CSession.abs) (a.at i).abs.client = mIdx (fun x : CSession => decide (x.client = (a.at i).client)) b.xs := (mIdx_map CSession.abs (fun x : DSession => decide (x.client = (a.at i).client)) b.xs).symm
 refine m_perm (R' := [lkR o, subR fp1 y1]) (Pf 1 rfl) ?_
 refine m_weak noR (List.nil_sublist _) (fun _ _ => trivial) ?_
 refine m_perm (R' := [subR fp1 y1, noR]) (Pf 1 rfl) ?_
 refine m_join (lkR (some (fp1, y1))) (by show List.Perm fp1 (fp1 ++ []); rw [List.append_nil]) (fun w h1 h2 => h1) ?_
 have hgo : (lk s (some (fp1, y1))).xs.map CLock.abs = if sIdx (b.xs.map CSession.abs) (a.at i).abs.client < 0 then (mGone ((lk s o).xs.map CLock.abs) (a.at i).abs.client).1 else (lk s o).xs.map CLock.abs := by rw [hsx, if_pos h2]; exact hF1
 exact on1 (⟨i + 1, some (fp1, y1)⟩ : Nat × Option (List Nat × Sl CLock)) ⟨by omega, rel_next (by rw [List.length_map]; omega) (sabs_at i) hI hgo⟩ (by show a.n - (i + 1) < a.n - i; omega)

theorem ref_AppliedOf {B : Nat → Prop} (x : CState) (t : ByteArray) (w : World) (hx : Rds.sub B w x) (ht : t.size ≤ 9223372036854775807) : Calls Tryz.prog 8 #[.agg #[.int .i64 x.index, .slice x.locks.A x.locks.n x.locks.c, .slice x.pairs.A x.pairs.n x.pairs.c, .slice x.sessions.A x.sessions.n x.sessions.c], .string t] w fun e w' => ∃ y : CState, e = .returned (.tuple #[.agg #[.int .i64 y.index, .slice y.locks.A y.locks.n y.locks.c, .slice y.pairs.A y.pairs.n y.pairs.c, .slice y.sessions.A y.sessions.n y.sessions.c], .agg #[.int .i64 ((mApply x.abs t).2.1).code, .int .i64 ((mApply x.abs t).2.1).n, .string ((mApply x.abs t).2.1).text], .int .i64 (mApply x.abs t).2.2]) ∧ y.abs = (mApply x.abs t).1 ∧ FreshS w w' y := by
 have okx := Rds.okof hx
 refine M0 Tryz.func8 (J := ?_)
 refine Mp Tryz.call30 (fun bs w hS => ref_StateFault x w (Rds.kp hx hS.kp)) (J := ?_)
 refine Md (mState x.abs = 0) (T := fun h1 => ?_) (F := fun h1 => ?_)
 rotate_left
 · refine Mdn (mState x.abs = 0) (T := fun h15 => ?_) (F := fun h15 => ?_)
   · exact absurd h15 h1
   refine Mt [.agg #[.int .i64 0, .slice none 0 0, .slice none 0 0, .slice none 0 0], .agg #[.int .i64 0, .int .i64 0, .string emp], .int .i64 (mState x.abs)] fun bs w hS => ?_
   have hm := apply_bad (t := t) h15
   refine ⟨(⟨0, Sl.nil, Sl.nil, Sl.nil⟩ : CState), ?_, ?_, hS.outS (y := (⟨0, Sl.nil, Sl.nil, Sl.nil⟩ : CState)) ⟨Sl.rd_nil _ _, Sl.rd_nil _ _, Sl.rd_nil _ _⟩⟩
   · rw [hm] <;> rfl
   · rw [hm] <;> rfl
 have hsi := state_idx h1
 have hsi1 : 0 ≤ x.index := hsi.1
 have hsi2 : x.index ≤ 1073741824 := hsi.2
 refine Md ((1073741824 : Int) ≤ x.index) (T := fun h2 => ?_) (F := fun h2 => ?_)
 · refine Mq 34 true rfl (J := ?_)
   refine Mt [.agg #[.int .i64 0, .slice none 0 0, .slice none 0 0, .slice none 0 0], .agg #[.int .i64 0, .int .i64 0, .string emp], .int .i64 2] fun bs w hS => ?_
   have hm := apply_end (t := t) h1 (by show _ ≤ x.index; omega)
   refine ⟨(⟨0, Sl.nil, Sl.nil, Sl.nil⟩ : CState), ?_, ?_, hS.outS (y := (⟨0, Sl.nil, Sl.nil, Sl.nil⟩ : CState)) ⟨Sl.rd_nil _ _, Sl.rd_nil _ _, Sl.rd_nil _ _⟩⟩
   · rw [hm] <;> rfl
   · rw [hm] <;> rfl
 refine Mdn (mState x.abs = 0) (T := fun h3 => ?_) (F := fun h3 => ?_)
 rotate_left
 · exact absurd h1 h3
 have hsi := state_idx h3
 have hsi1 : 0 ≤ x.index := hsi.1
 have hsi2 : x.index ≤ 1073741824 := hsi.2
 refine Mp Tryz.call31 (fun bs w hS => ref_CommandOf t w ht) (J := ?_)
 refine Mdn ((mDecode t).2 = 0) (T := fun h4 => ?_) (F := fun h4 => ?_)
 rotate_left
 · refine Mt [.agg #[.int .i64 0, .slice none 0 0, .slice none 0 0, .slice none 0 0], .agg #[.int .i64 0, .int .i64 0, .string emp], .int .i64 (mDecode t).2] fun bs w hS => ?_
   have hm := apply_dec h3 (by show ¬ _ ≤ x.index; omega) h4
   refine ⟨(⟨0, Sl.nil, Sl.nil, Sl.nil⟩ : CState), ?_, ?_, hS.outS (y := (⟨0, Sl.nil, Sl.nil, Sl.nil⟩ : CState)) ⟨Sl.rd_nil _ _, Sl.rd_nil _ _, Sl.rd_nil _ _⟩⟩
   · rw [hm] <;> rfl
   · rw [hm] <;> rfl
 obtain ⟨hcb1, hcb2, hcb3, hcb4, hcb5, hcb6⟩ := cmd_bd (mDecode_ok h4).1
 refine Mu (σ := CState) (v := fun y1 => .agg #[.int .i64 y1.index, .slice y1.locks.A y1.locks.n y1.locks.c, .slice y1.pairs.A y1.pairs.n y1.pairs.c, .slice y1.sessions.A y1.sessions.n y1.sessions.c]) (F := fun y1 => y1.abs = x.abs) Tryz.call6 (fun bs w hS => ref_StateCopy x w (Rds.kp hx hS.kp) (small_state (by assumption))) (J := ?_)
 rintro fp1 y1 hF1 hok1
 refine Mu Tryz.call32 (fun bs w hS => ref_FreshOf y1.sessions x.index w (And.right (And.right (hS.res _ (.head _))))) (J := ?_)
 rintro fp2 y2 hF2 hok2
 refine Mf Tryz.call33 (fun bs w hS => ref_released y1.locks y1.sessions y2 w (And.left (hS.res _ (.tail _ (.head _)))) (And.right (And.right (hS.res _ (.tail _ (.head _))))) (hS.res _ (.head _))) (J := ?_)
 rintro y3 hF3
 refine Md ((mDecode t).1.kind = 1) (T := fun h5 => ?_) (F := fun h5 => ?_)
 · have hix : y1.index = x.index := congrArg DState.index hF1
   refine Mu (σ := Sl CSession) (v := fun y5 => .tuple #[.slice y5.A y5.n y5.c, .agg #[.int .i64 ((mJoin (y2.xs.map CSession.abs) x.index (mDecode t).1.client).2.1).code, .int .i64 ((mJoin (y2.xs.map CSession.abs) x.index (mDecode t).1.client).2.1).n, .string ((mJoin (y2.xs.map CSession.abs) x.index (mDecode t).1.client).2.1).text], .int .i64 (mJoin (y2.xs.map CSession.abs) x.index (mDecode t).1.client).2.2]) (F := fun y5 => y5.xs.map CSession.abs = (mJoin (y2.xs.map CSession.abs) x.index (mDecode t).1.client).1) Tryz.call34 (fun bs w hS => ref_JoinedOf y2 x.index (mDecode t).1.client w (hS.res _ (.tail _ (.head _))) (by unfold inR; omega)) (J := ?_)
   rintro fp5 y5 hF5 hok5
   refine Mi (pR (x.index + 1)) (J := ?_)
   refine Mda 5 [] [1, 2] [subR fp5 y5, lkR y3, subR fp2 y2, subR fp1 y1] Tryz_mixed (J := ?_)
   refine Mz (J := ?_)
   refine Mt [.agg #[.int .i64 (x.index + 1), .slice (lk y1.locks y3).A (lk y1.locks y3).n (lk y1.locks y3).c, .slice y1.pairs.A y1.pairs.n y1.pairs.c, .slice y5.A y5.n y5.c], .agg #[.int .i64 ((mJoin (y2.xs.map CSession.abs) x.index (mDecode t).1.client).2.1).code, .int .i64 ((mJoin (y2.xs.map CSession.abs) x.index (mDecode t).1.client).2.1).n, .string ((mJoin (y2.xs.map CSession.abs) x.index (mDecode t).1.client).2.1).text], .int .i64 0] fun bs w hS => ?_
   have e3 : aFresh y1.abs = y2.xs.map CSession.abs := by unfold aFresh; rw [show y1.abs.index = x.index from hix]; exact hF2.symm
   have e4 : aLocks y1.abs = (lk y1.locks y3).xs.map CLock.abs := by unfold aLocks; rw [e3]; exact hF3.symm
   have hs : mStep x.abs (mDecode t).1 = _ := (congrArg (fun q => mStep q (mDecode t).1) hF1).symm.trans (step_join e3 e4 h5)
   rw [show y1.abs.index = x.index from hix] at hs
   have hm := apply_ok h3 (by show ¬ _ ≤ x.index; omega) h4 hs
   refine ⟨(⟨x.index + 1, (lk y1.locks y3), y1.pairs, y5⟩ : CState), ?_, ?_, hS.outS (y := (⟨x.index + 1, (lk y1.locks y3), y1.pairs, y5⟩ : CState)) ⟨(lk_out (And.left (allR_sub (y := y1) (.tail _ (.tail _ (.tail _ (.head _)))) (hS.res _ (.tail _ (.tail _ (.tail _ (.head _))))))) (.tail _ (.head _)) hS.res), (And.left (And.right (allR_sub (y := y1) (.tail _ (.tail _ (.tail _ (.head _)))) (hS.res _ (.tail _ (.tail _ (.tail _ (.head _)))))))), (allR_sub (y := y5) (.head _) (hS.res _ (.head _)))⟩⟩
   · rw [hm] <;> rfl
   · rw [hm]
     show (⟨_, (lk y1.locks y3).xs.map CLock.abs, y1.pairs.xs, y5.xs.map CSession.abs⟩ : DState) = _
     rw [hF5] <;> rfl
 have hix : y1.index = x.index := congrArg DState.index hF1
 refine Md ((mDecode t).1.kind = 3) (T := fun h6 => ?_) (F := fun h6 => ?_)
 · refine Mu (σ := Sl CSession) (v := fun y6 => .tuple #[.slice y6.A y6.n y6.c, .agg #[.int .i64 ((mLeave (y2.xs.map CSession.abs) x.index (mDecode t).1.client).2.1).code, .int .i64 ((mLeave (y2.xs.map CSession.abs) x.index (mDecode t).1.client).2.1).n, .string ((mLeave (y2.xs.map CSession.abs) x.index (mDecode t).1.client).2.1).text], .int .i64 (mLeave (y2.xs.map CSession.abs) x.index (mDecode t).1.client).2.2]) (F := fun y6 => y6.xs.map CSession.abs = (mLeave (y2.xs.map CSession.abs) x.index (mDecode t).1.client).1) Tryz.call35 (fun bs w hS => ref_LeftOf y2 x.index (mDecode t).1.client w (hS.res _ (.tail _ (.head _))) (by unfold inR; omega)) (J := ?_)
   rintro fp6 y6 hF6 hok6
   refine Mf Tryz.call33 (fun bs w hS => ref_released (lk y1.locks y3) y2 y6 w (lk_rd (And.left (hS.res _ (.tail _ (.tail _ (.tail _ (.head _)))))) (hS.res _ (.tail _ (.head _)))) (hS.res _ (.tail _ (.tail _ (.head _)))) (hS.res _ (.head _))) (J := ?_)
   rintro y7 hF7
   refine Mi (pR (x.index + 1)) (J := ?_)
   refine Mda 5 [] [1, 2] [lkR y7, subR fp6 y6, lkR y3, subR fp2 y2, subR fp1 y1] Tryz_mixed (J := ?_)
   refine Mz (J := ?_)
   refine Mt [.agg #[.int .i64 (x.index + 1), .slice (lk (lk y1.locks y3) y7).A (lk (lk y1.locks y3) y7).n (lk (lk y1.locks y3) y7).c, .slice y1.pairs.A y1.pairs.n y1.pairs.c, .slice y6.A y6.n y6.c], .agg #[.int .i64 ((mLeave (y2.xs.map CSession.abs) x.index (mDecode t).1.client).2.1).code, .int .i64 ((mLeave (y2.xs.map CSession.abs) x.index (mDecode t).1.client).2.1).n, .string ((mLeave (y2.xs.map CSession.abs) x.index (mDecode t).1.client).2.1).text], .int .i64 0] fun bs w hS => ?_
   have e3 : aFresh y1.abs = y2.xs.map CSession.abs := by unfold aFresh; rw [show y1.abs.index = x.index from hix]; exact hF2.symm
   have e4 : aLocks y1.abs = (lk y1.locks y3).xs.map CLock.abs := by unfold aLocks; rw [e3]; exact hF3.symm
   have hs : mStep x.abs (mDecode t).1 = _ := (congrArg (fun q => mStep q (mDecode t).1) hF1).symm.trans (step_leave e3 e4 h5 h6)
   rw [show y1.abs.index = x.index from hix] at hs
   have hm := apply_ok h3 (by show ¬ _ ≤ x.index; omega) h4 hs
   refine ⟨(⟨x.index + 1, (lk (lk y1.locks y3) y7), y1.pairs, y6⟩ : CState), ?_, ?_, hS.outS (y := (⟨x.index + 1, (lk (lk y1.locks y3) y7), y1.pairs, y6⟩ : CState)) ⟨(lk_out (lk_out (And.left (allR_sub (y := y1) (.tail _ (.tail _ (.tail _ (.tail _ (.head _))))) (hS.res _ (.tail _ (.tail _ (.tail _ (.tail _ (.head _)))))))) (.tail _ (.tail _ (.head _))) hS.res) (.head _) hS.res), (And.left (And.right (allR_sub (y := y1) (.tail _ (.tail _ (.tail _ (.tail _ (.head _))))) (hS.res _ (.tail _ (.tail _ (.tail _ (.tail _ (.head _))))))))), (allR_sub (y := y6) (.tail _ (.head _)) (hS.res _ (.tail _ (.head _))))⟩⟩
   · rw [hm] <;> rfl
   · rw [hm]
     show (⟨_, (lk (lk y1.locks y3) y7).xs.map CLock.abs, y1.pairs.xs, y6.xs.map CSession.abs⟩ : DState) = _
     rw [hF7, hF6] <;> rfl
 refine Mu (σ := Sl CSession) (v := fun y9 => .tuple #[.slice y9.A y9.n y9.c, .agg #[.int .i64 ((mReady (y2.xs.map CSession.abs) x.index (mDecode t).1).2.1).code, .int .i64 ((mReady (y2.xs.map CSession.abs) x.index (mDecode t).1).2.1).n, .string ((mReady (y2.xs.map CSession.abs) x.index (mDecode t).1).2.1).text], .bool (mReady (y2.xs.map CSession.abs) x.index (mDecode t).1).2.2.1, .int .i64 (mReady (y2.xs.map CSession.abs) x.index (mDecode t).1).2.2.2]) (F := fun y9 => y9.xs.map CSession.abs = (mReady (y2.xs.map CSession.abs) x.index (mDecode t).1).1) Tryz.call36 (fun bs w hS => ref_ReadyOf y2 x.index (mDecode t).1 w (hS.res _ (.tail _ (.head _))) (by unfold inR; omega) ⟨hcb5, hcb6⟩) (J := ?_)
 rintro fp9 y9 hF9 hok9
 refine Mb ((mReady (y2.xs.map CSession.abs) x.index (mDecode t).1).2.2.1) (T := fun h7 => ?_) (F := fun h7 => ?_)
 rotate_left
 · refine Mi (pR (x.index + 1)) (J := ?_)
   refine Mda 5 [] [1, 2] [subR fp9 y9, lkR y3, subR fp2 y2, subR fp1 y1] Tryz_mixed (J := ?_)
   refine Mz (J := ?_)
   refine Mt [.agg #[.int .i64 (x.index + 1), .slice (lk y1.locks y3).A (lk y1.locks y3).n (lk y1.locks y3).c, .slice y1.pairs.A y1.pairs.n y1.pairs.c, .slice y9.A y9.n y9.c], .agg #[.int .i64 ((mReady (y2.xs.map CSession.abs) x.index (mDecode t).1).2.1).code, .int .i64 ((mReady (y2.xs.map CSession.abs) x.index (mDecode t).1).2.1).n, .string ((mReady (y2.xs.map CSession.abs) x.index (mDecode t).1).2.1).text], .int .i64 0] fun bs w hS => ?_
   have e3 : aFresh y1.abs = y2.xs.map CSession.abs := by unfold aFresh; rw [show y1.abs.index = x.index from hix]; exact hF2.symm
   have e4 : aLocks y1.abs = (lk y1.locks y3).xs.map CLock.abs := by unfold aLocks; rw [e3]; exact hF3.symm
   have hs : mStep x.abs (mDecode t).1 = _ := (congrArg (fun q => mStep q (mDecode t).1) hF1).symm.trans (step_not e3 e4 h5 h6 (by rw [show y1.abs.index = x.index from hix]; exact h7))
   rw [show y1.abs.index = x.index from hix] at hs
   have hm := apply_ok h3 (by show ¬ _ ≤ x.index; omega) h4 hs
   refine ⟨(⟨x.index + 1, (lk y1.locks y3), y1.pairs, y9⟩ : CState), ?_, ?_, hS.outS (y := (⟨x.index + 1, (lk y1.locks y3), y1.pairs, y9⟩ : CState)) ⟨(lk_out (And.left (allR_sub (y := y1) (.tail _ (.tail _ (.tail _ (.head _)))) (hS.res _ (.tail _ (.tail _ (.tail _ (.head _))))))) (.tail _ (.head _)) hS.res), (And.left (And.right (allR_sub (y := y1) (.tail _ (.tail _ (.tail _ (.head _)))) (hS.res _ (.tail _ (.tail _ (.tail _ (.head _)))))))), (allR_sub (y := y9) (.head _) (hS.res _ (.head _)))⟩⟩
   · rw [hm] <;> rfl
   · rw [hm]
     show (⟨_, (lk y1.locks y3).xs.map CLock.abs, y1.pairs.xs, y9.xs.map CSession.abs⟩ : DState) = _
     rw [hF9] <;> rfl
 refine Mp Tryz.call37 (fun bs w hS => ref_HolderOf (lk y1.locks y3) (mDecode t).1.op.a w (lk_rd (And.left (hS.res _ (.tail _ (.tail _ (.tail _ (.head _)))))) (hS.res _ (.tail _ (.head _))))) (J := ?_)
 refine Md ((mDecode t).1.op.kind = 1) (T := fun h8 => ?_) (F := fun h8 => ?_)
 · refine Mu Tryz.call38 (fun bs w hS => ref_TakenOf (lk y1.locks y3) (mDecode t).1.op.a (mDecode t).1.client false w (lk_rd (And.left (hS.res _ (.tail _ (.tail _ (.tail _ (.head _)))))) (hS.res _ (.tail _ (.head _)))) hcb5) (J := ?_)
   rintro fp10 y10 hF10 hok10
   refine Mi (pR (x.index + 1)) (J := ?_)
   refine Mu (σ := Sl CSession) (v := fun y11 => .tuple #[.slice y11.A y11.n y11.c, .int .i64 (mKeep (y9.xs.map CSession.abs) (x.index + 1) (mDecode t).1.client (mDecode t).1.seq (mTake ((lk y1.locks y3).xs.map CLock.abs) (mDecode t).1.op.a (mDecode t).1.client false).2.1).2]) (F := fun y11 => y11.xs.map CSession.abs = (mKeep (y9.xs.map CSession.abs) (x.index + 1) (mDecode t).1.client (mDecode t).1.seq (mTake ((lk y1.locks y3).xs.map CLock.abs) (mDecode t).1.op.a (mDecode t).1.client false).2.1).1) (vs := fun bs => [.slice y9.A y9.n y9.c, .int .i64 (x.index + 1), .int .i64 (mDecode t).1.client, .int .i64 (mDecode t).1.seq, .agg #[.int .i64 ((mTake ((lk y1.locks y3).xs.map CLock.abs) (mDecode t).1.op.a (mDecode t).1.client false).2.1).code, .int .i64 ((mTake ((lk y1.locks y3).xs.map CLock.abs) (mDecode t).1.op.a (mDecode t).1.client false).2.1).n, .string ((mTake ((lk y1.locks y3).xs.map CLock.abs) (mDecode t).1.op.a (mDecode t).1.client false).2.1).text]]) Tryz.call42 (fun bs w hS => ref_KeptOf y9 (x.index + 1) (mDecode t).1.client (mDecode t).1.seq (mTake ((lk y1.locks y3).xs.map CLock.abs) (mDecode t).1.op.a (mDecode t).1.client false).2.1 w (hS.res _ (.tail _ (.head _))) (by unfold inR; omega) (by unfold inR; omega) (by rw [mTake_text]; exact Nat.zero_le _)) (J := ?_)
   rintro fp11 y11 hF11 hok11
   refine Mi (pR (x.index + 1)) (J := ?_)
   refine Mda 5 [] [1, 2] [subR fp11 y11, subR fp10 y10, subR fp9 y9, lkR y3, subR fp2 y2, subR fp1 y1] Tryz_mixed (J := ?_)
   refine Mz (J := ?_)
   refine Mt [.agg #[.int .i64 (x.index + 1), .slice y10.A y10.n y10.c, .slice y1.pairs.A y1.pairs.n y1.pairs.c, .slice y11.A y11.n y11.c], .agg #[.int .i64 ((mTake ((lk y1.locks y3).xs.map CLock.abs) (mDecode t).1.op.a (mDecode t).1.client false).2.1).code, .int .i64 ((mTake ((lk y1.locks y3).xs.map CLock.abs) (mDecode t).1.op.a (mDecode t).1.client false).2.1).n, .string ((mTake ((lk y1.locks y3).xs.map CLock.abs) (mDecode t).1.op.a (mDecode t).1.client false).2.1).text], .int .i64 0] fun bs w hS => ?_
   have e3 : aFresh y1.abs = y2.xs.map CSession.abs := by unfold aFresh; rw [show y1.abs.index = x.index from hix]; exact hF2.symm
   have e4 : aLocks y1.abs = (lk y1.locks y3).xs.map CLock.abs := by unfold aLocks; rw [e3]; exact hF3.symm
   have hs : mStep x.abs (mDecode t).1 = _ := (congrArg (fun q => mStep q (mDecode t).1) hF1).symm.trans (step_do e3 e4 h5 h6 (by rw [show y1.abs.index = x.index from hix]; exact h7))
   rw [show y1.abs.index = x.index from hix] at hs
   have hmD : mDo ((lk y1.locks y3).xs.map CLock.abs) y1.pairs.xs (mDecode t).1.client (mDecode t).1.op = ((mTake ((lk y1.locks y3).xs.map CLock.abs) (mDecode t).1.op.a (mDecode t).1.client false).1, y1.pairs.xs, (mTake ((lk y1.locks y3).xs.map CLock.abs) (mDecode t).1.op.a (mDecode t).1.client false).2.1) := by unfold mDo; rw [if_pos (.inl h8), show decide ((mDecode t).1.op.kind = 2) = false from decide_eq_false (by omega)]
   rw [show y1.abs.pairs = y1.pairs.xs from rfl, hmD] at hs
   have hm := apply_ok h3 (by show ¬ _ ≤ x.index; omega) h4 hs
   refine ⟨(⟨x.index + 1, y10, y1.pairs, y11⟩ : CState), ?_, ?_, hS.outS (y := (⟨x.index + 1, y10, y1.pairs, y11⟩ : CState)) ⟨(allR_sub (y := y10) (.tail _ (.head _)) (hS.res _ (.tail _ (.head _)))), (And.left (And.right (allR_sub (y := y1) (.tail _ (.tail _ (.tail _ (.tail _ (.tail _ (.head _)))))) (hS.res _ (.tail _ (.tail _ (.tail _ (.tail _ (.tail _ (.head _)))))))))), (allR_sub (y := y11) (.head _) (hS.res _ (.head _)))⟩⟩
   · rw [hm] <;> rfl
   · rw [hm]
     show (⟨_, y10.xs.map CLock.abs, y1.pairs.xs, y11.xs.map CSession.abs⟩ : DState) = _
     rw [hF10, hF11, hF9] <;> rfl
 refine Md ((mDecode t).1.op.kind = 2) (T := fun h9 => ?_) (F := fun h9 => ?_)
 · refine Mu Tryz.call38 (fun bs w hS => ref_TakenOf (lk y1.locks y3) (mDecode t).1.op.a (mDecode t).1.client true w (lk_rd (And.left (hS.res _ (.tail _ (.tail _ (.tail _ (.head _)))))) (hS.res _ (.tail _ (.head _)))) hcb5) (J := ?_)
   rintro fp12 y12 hF12 hok12
   refine Mi (pR (x.index + 1)) (J := ?_)
   refine Mu (σ := Sl CSession) (v := fun y13 => .tuple #[.slice y13.A y13.n y13.c, .int .i64 (mKeep (y9.xs.map CSession.abs) (x.index + 1) (mDecode t).1.client (mDecode t).1.seq (mTake ((lk y1.locks y3).xs.map CLock.abs) (mDecode t).1.op.a (mDecode t).1.client true).2.1).2]) (F := fun y13 => y13.xs.map CSession.abs = (mKeep (y9.xs.map CSession.abs) (x.index + 1) (mDecode t).1.client (mDecode t).1.seq (mTake ((lk y1.locks y3).xs.map CLock.abs) (mDecode t).1.op.a (mDecode t).1.client true).2.1).1) (vs := fun bs => [.slice y9.A y9.n y9.c, .int .i64 (x.index + 1), .int .i64 (mDecode t).1.client, .int .i64 (mDecode t).1.seq, .agg #[.int .i64 ((mTake ((lk y1.locks y3).xs.map CLock.abs) (mDecode t).1.op.a (mDecode t).1.client true).2.1).code, .int .i64 ((mTake ((lk y1.locks y3).xs.map CLock.abs) (mDecode t).1.op.a (mDecode t).1.client true).2.1).n, .string ((mTake ((lk y1.locks y3).xs.map CLock.abs) (mDecode t).1.op.a (mDecode t).1.client true).2.1).text]]) Tryz.call42 (fun bs w hS => ref_KeptOf y9 (x.index + 1) (mDecode t).1.client (mDecode t).1.seq (mTake ((lk y1.locks y3).xs.map CLock.abs) (mDecode t).1.op.a (mDecode t).1.client true).2.1 w (hS.res _ (.tail _ (.head _))) (by unfold inR; omega) (by unfold inR; omega) (by rw [mTake_text]; exact Nat.zero_le _)) (J := ?_)
   rintro fp13 y13 hF13 hok13
   refine Mi (pR (x.index + 1)) (J := ?_)
   refine Mda 5 [] [1, 2] [subR fp13 y13, subR fp12 y12, subR fp9 y9, lkR y3, subR fp2 y2, subR fp1 y1] Tryz_mixed (J := ?_)
   refine Mz (J := ?_)
   refine Mt [.agg #[.int .i64 (x.index + 1), .slice y12.A y12.n y12.c, .slice y1.pairs.A y1.pairs.n y1.pairs.c, .slice y13.A y13.n y13.c], .agg #[.int .i64 ((mTake ((lk y1.locks y3).xs.map CLock.abs) (mDecode t).1.op.a (mDecode t).1.client true).2.1).code, .int .i64 ((mTake ((lk y1.locks y3).xs.map CLock.abs) (mDecode t).1.op.a (mDecode t).1.client true).2.1).n, .string ((mTake ((lk y1.locks y3).xs.map CLock.abs) (mDecode t).1.op.a (mDecode t).1.client true).2.1).text], .int .i64 0] fun bs w hS => ?_
   have e3 : aFresh y1.abs = y2.xs.map CSession.abs := by unfold aFresh; rw [show y1.abs.index = x.index from hix]; exact hF2.symm
   have e4 : aLocks y1.abs = (lk y1.locks y3).xs.map CLock.abs := by unfold aLocks; rw [e3]; exact hF3.symm
   have hs : mStep x.abs (mDecode t).1 = _ := (congrArg (fun q => mStep q (mDecode t).1) hF1).symm.trans (step_do e3 e4 h5 h6 (by rw [show y1.abs.index = x.index from hix]; exact h7))
   rw [show y1.abs.index = x.index from hix] at hs
   have hmD : mDo ((lk y1.locks y3).xs.map CLock.abs) y1.pairs.xs (mDecode t).1.client (mDecode t).1.op = ((mTake ((lk y1.locks y3).xs.map CLock.abs) (mDecode t).1.op.a (mDecode t).1.client true).1, y1.pairs.xs, (mTake ((lk y1.locks y3).xs.map CLock.abs) (mDecode t).1.op.a (mDecode t).1.client true).2.1) := by unfold mDo; rw [if_pos (.inr h9), show decide ((mDecode t).1.op.kind = 2) = true from decide_eq_true h9]
   rw [show y1.abs.pairs = y1.pairs.xs from rfl, hmD] at hs
   have hm := apply_ok h3 (by show ¬ _ ≤ x.index; omega) h4 hs
   refine ⟨(⟨x.index + 1, y12, y1.pairs, y13⟩ : CState), ?_, ?_, hS.outS (y := (⟨x.index + 1, y12, y1.pairs, y13⟩ : CState)) ⟨(allR_sub (y := y12) (.tail _ (.head _)) (hS.res _ (.tail _ (.head _)))), (And.left (And.right (allR_sub (y := y1) (.tail _ (.tail _ (.tail _ (.tail _ (.tail _ (.head _)))))) (hS.res _ (.tail _ (.tail _ (.tail _ (.tail _ (.tail _ (.head _)))))))))), (allR_sub (y := y13) (.head _) (hS.res _ (.head _)))⟩⟩
   · rw [hm] <;> rfl
   · rw [hm]
     show (⟨_, y12.xs.map CLock.abs, y1.pairs.xs, y13.xs.map CSession.abs⟩ : DState) = _
     rw [hF12, hF13, hF9] <;> rfl
 refine Md ((mDecode t).1.op.kind = 3) (T := fun h10 => ?_) (F := fun h10 => ?_)
 · refine Mu Tryz.call39 (fun bs w hS => ref_FreedOf (lk y1.locks y3) (mDecode t).1.op.a (mDecode t).1.client w (lk_rd (And.left (hS.res _ (.tail _ (.tail _ (.tail _ (.head _)))))) (hS.res _ (.tail _ (.head _)))) hcb5) (J := ?_)
   rintro fp14 y14 hF14 hok14
   refine Mi (pR (x.index + 1)) (J := ?_)
   refine Mu (σ := Sl CSession) (v := fun y15 => .tuple #[.slice y15.A y15.n y15.c, .int .i64 (mKeep (y9.xs.map CSession.abs) (x.index + 1) (mDecode t).1.client (mDecode t).1.seq (mFree ((lk y1.locks y3).xs.map CLock.abs) (mDecode t).1.op.a (mDecode t).1.client).2.1).2]) (F := fun y15 => y15.xs.map CSession.abs = (mKeep (y9.xs.map CSession.abs) (x.index + 1) (mDecode t).1.client (mDecode t).1.seq (mFree ((lk y1.locks y3).xs.map CLock.abs) (mDecode t).1.op.a (mDecode t).1.client).2.1).1) (vs := fun bs => [.slice y9.A y9.n y9.c, .int .i64 (x.index + 1), .int .i64 (mDecode t).1.client, .int .i64 (mDecode t).1.seq, .agg #[.int .i64 ((mFree ((lk y1.locks y3).xs.map CLock.abs) (mDecode t).1.op.a (mDecode t).1.client).2.1).code, .int .i64 ((mFree ((lk y1.locks y3).xs.map CLock.abs) (mDecode t).1.op.a (mDecode t).1.client).2.1).n, .string ((mFree ((lk y1.locks y3).xs.map CLock.abs) (mDecode t).1.op.a (mDecode t).1.client).2.1).text]]) Tryz.call42 (fun bs w hS => ref_KeptOf y9 (x.index + 1) (mDecode t).1.client (mDecode t).1.seq (mFree ((lk y1.locks y3).xs.map CLock.abs) (mDecode t).1.op.a (mDecode t).1.client).2.1 w (hS.res _ (.tail _ (.head _))) (by unfold inR; omega) (by unfold inR; omega) (by rw [mFree_text]; exact Nat.zero_le _)) (J := ?_)
   rintro fp15 y15 hF15 hok15
   refine Mi (pR (x.index + 1)) (J := ?_)
   refine Mda 5 [] [1, 2] [subR fp15 y15, subR fp14 y14, subR fp9 y9, lkR y3, subR fp2 y2, subR fp1 y1] Tryz_mixed (J := ?_)
   refine Mz (J := ?_)
   refine Mt [.agg #[.int .i64 (x.index + 1), .slice y14.A y14.n y14.c, .slice y1.pairs.A y1.pairs.n y1.pairs.c, .slice y15.A y15.n y15.c], .agg #[.int .i64 ((mFree ((lk y1.locks y3).xs.map CLock.abs) (mDecode t).1.op.a (mDecode t).1.client).2.1).code, .int .i64 ((mFree ((lk y1.locks y3).xs.map CLock.abs) (mDecode t).1.op.a (mDecode t).1.client).2.1).n, .string ((mFree ((lk y1.locks y3).xs.map CLock.abs) (mDecode t).1.op.a (mDecode t).1.client).2.1).text], .int .i64 0] fun bs w hS => ?_
   have e3 : aFresh y1.abs = y2.xs.map CSession.abs := by unfold aFresh; rw [show y1.abs.index = x.index from hix]; exact hF2.symm
   have e4 : aLocks y1.abs = (lk y1.locks y3).xs.map CLock.abs := by unfold aLocks; rw [e3]; exact hF3.symm
   have hs : mStep x.abs (mDecode t).1 = _ := (congrArg (fun q => mStep q (mDecode t).1) hF1).symm.trans (step_do e3 e4 h5 h6 (by rw [show y1.abs.index = x.index from hix]; exact h7))
   rw [show y1.abs.index = x.index from hix] at hs
   have hmD : mDo ((lk y1.locks y3).xs.map CLock.abs) y1.pairs.xs (mDecode t).1.client (mDecode t).1.op = ((mFree ((lk y1.locks y3).xs.map CLock.abs) (mDecode t).1.op.a (mDecode t).1.client).1, y1.pairs.xs, (mFree ((lk y1.locks y3).xs.map CLock.abs) (mDecode t).1.op.a (mDecode t).1.client).2.1) := by unfold mDo; rw [if_neg (by omega), if_pos h10]
   rw [show y1.abs.pairs = y1.pairs.xs from rfl, hmD] at hs
   have hm := apply_ok h3 (by show ¬ _ ≤ x.index; omega) h4 hs
   refine ⟨(⟨x.index + 1, y14, y1.pairs, y15⟩ : CState), ?_, ?_, hS.outS (y := (⟨x.index + 1, y14, y1.pairs, y15⟩ : CState)) ⟨(allR_sub (y := y14) (.tail _ (.head _)) (hS.res _ (.tail _ (.head _)))), (And.left (And.right (allR_sub (y := y1) (.tail _ (.tail _ (.tail _ (.tail _ (.tail _ (.head _)))))) (hS.res _ (.tail _ (.tail _ (.tail _ (.tail _ (.tail _ (.head _)))))))))), (allR_sub (y := y15) (.head _) (hS.res _ (.head _)))⟩⟩
   · rw [hm] <;> rfl
   · rw [hm]
     show (⟨_, y14.xs.map CLock.abs, y1.pairs.xs, y15.xs.map CSession.abs⟩ : DState) = _
     rw [hF14, hF15, hF9] <;> rfl
 refine Md ((mDecode t).1.op.kind = 4) (T := fun h11 => ?_) (F := fun h11 => ?_)
 · refine Mi (pR (x.index + 1)) (J := ?_)
   refine Mu (σ := Sl CSession) (v := fun y16 => .tuple #[.slice y16.A y16.n y16.c, .int .i64 (mKeep (y9.xs.map CSession.abs) (x.index + 1) (mDecode t).1.client (mDecode t).1.seq (⟨0, (mWho ((lk y1.locks y3).xs.map CLock.abs) (mDecode t).1.op.a).1, emp⟩ : DReply)).2]) (F := fun y16 => y16.xs.map CSession.abs = (mKeep (y9.xs.map CSession.abs) (x.index + 1) (mDecode t).1.client (mDecode t).1.seq (⟨0, (mWho ((lk y1.locks y3).xs.map CLock.abs) (mDecode t).1.op.a).1, emp⟩ : DReply)).1) Tryz.call42 (fun bs w hS => ref_KeptOf y9 (x.index + 1) (mDecode t).1.client (mDecode t).1.seq (⟨0, (mWho ((lk y1.locks y3).xs.map CLock.abs) (mDecode t).1.op.a).1, emp⟩ : DReply) w (hS.res _ (.head _)) (by unfold inR; omega) (by unfold inR; omega) (by first | assumption | omega | (simp only [emp_size]; omega))) (J := ?_)
   rintro fp16 y16 hF16 hok16
   refine Mi (pR (x.index + 1)) (J := ?_)
   refine Mda 5 [] [1, 2] [subR fp16 y16, subR fp9 y9, lkR y3, subR fp2 y2, subR fp1 y1] Tryz_mixed (J := ?_)
   refine Mz (J := ?_)
   refine Mt [.agg #[.int .i64 (x.index + 1), .slice (lk y1.locks y3).A (lk y1.locks y3).n (lk y1.locks y3).c, .slice y1.pairs.A y1.pairs.n y1.pairs.c, .slice y16.A y16.n y16.c], .agg #[.int .i64 0, .int .i64 (mWho ((lk y1.locks y3).xs.map CLock.abs) (mDecode t).1.op.a).1, .string emp], .int .i64 0] fun bs w hS => ?_
   have e3 : aFresh y1.abs = y2.xs.map CSession.abs := by unfold aFresh; rw [show y1.abs.index = x.index from hix]; exact hF2.symm
   have e4 : aLocks y1.abs = (lk y1.locks y3).xs.map CLock.abs := by unfold aLocks; rw [e3]; exact hF3.symm
   have hs : mStep x.abs (mDecode t).1 = _ := (congrArg (fun q => mStep q (mDecode t).1) hF1).symm.trans (step_do e3 e4 h5 h6 (by rw [show y1.abs.index = x.index from hix]; exact h7))
   rw [show y1.abs.index = x.index from hix] at hs
   have hmD : mDo ((lk y1.locks y3).xs.map CLock.abs) y1.pairs.xs (mDecode t).1.client (mDecode t).1.op = ((lk y1.locks y3).xs.map CLock.abs, y1.pairs.xs, ⟨0, (mWho ((lk y1.locks y3).xs.map CLock.abs) (mDecode t).1.op.a).1, emp⟩) := by unfold mDo; rw [if_neg (by omega), if_neg (by omega), if_pos h11]
   rw [show y1.abs.pairs = y1.pairs.xs from rfl, hmD] at hs
   have hm := apply_ok h3 (by show ¬ _ ≤ x.index; omega) h4 hs
   refine ⟨(⟨x.index + 1, (lk y1.locks y3), y1.pairs, y16⟩ : CState), ?_, ?_, hS.outS (y := (⟨x.index + 1, (lk y1.locks y3), y1.pairs, y16⟩ : CState)) ⟨(lk_out (And.left (allR_sub (y := y1) (.tail _ (.tail _ (.tail _ (.tail _ (.head _))))) (hS.res _ (.tail _ (.tail _ (.tail _ (.tail _ (.head _)))))))) (.tail _ (.tail _ (.head _))) hS.res), (And.left (And.right (allR_sub (y := y1) (.tail _ (.tail _ (.tail _ (.tail _ (.head _))))) (hS.res _ (.tail _ (.tail _ (.tail _ (.tail _ (.head _))))))))), (allR_sub (y := y16) (.head _) (hS.res _ (.head _)))⟩⟩
   · rw [hm] <;> rfl
   · rw [hm]
     show (⟨_, (lk y1.locks y3).xs.map CLock.abs, y1.pairs.xs, y16.xs.map CSession.abs⟩ : DState) = _
     rw [hF16, hF9] <;> rfl
 refine Md ((mDecode t).1.op.kind = 6) (T := fun h12 => ?_) (F := fun h12 => ?_)
 · refine Mp Tryz.call40 (fun bs w hS => ref_GotOf y1.pairs (mDecode t).1.op.a w (And.left (And.right (hS.res _ (.tail _ (.tail _ (.tail _ (.head _)))))))) (J := ?_)
   refine Mi (pR (x.index + 1)) (J := ?_)
   refine Mu (σ := Sl CSession) (v := fun y17 => .tuple #[.slice y17.A y17.n y17.c, .int .i64 (mKeep (y9.xs.map CSession.abs) (x.index + 1) (mDecode t).1.client (mDecode t).1.seq (mGot y1.pairs.xs (mDecode t).1.op.a).1).2]) (F := fun y17 => y17.xs.map CSession.abs = (mKeep (y9.xs.map CSession.abs) (x.index + 1) (mDecode t).1.client (mDecode t).1.seq (mGot y1.pairs.xs (mDecode t).1.op.a).1).1) (vs := fun bs => [.slice y9.A y9.n y9.c, .int .i64 (x.index + 1), .int .i64 (mDecode t).1.client, .int .i64 (mDecode t).1.seq, .agg #[.int .i64 (mGot y1.pairs.xs (mDecode t).1.op.a).1.code, .int .i64 (mGot y1.pairs.xs (mDecode t).1.op.a).1.n, .string (mGot y1.pairs.xs (mDecode t).1.op.a).1.text]]) Tryz.call42 (fun bs w hS => ref_KeptOf y9 (x.index + 1) (mDecode t).1.client (mDecode t).1.seq (mGot y1.pairs.xs (mDecode t).1.op.a).1 w (hS.res _ (.head _)) (by unfold inR; omega) (by unfold inR; omega) (mGot_text (fun p hp => mem_getD (P := fun p : DPair => p.value.size ≤ 9223372036854775807) (fun j hj => ((hok1.2.1).2.2 j hj).2.2) p hp) _)) (J := ?_)
   rintro fp17 y17 hF17 hok17
   refine Mi (pR (x.index + 1)) (J := ?_)
   refine Mda 5 [] [1, 2] [subR fp17 y17, subR fp9 y9, lkR y3, subR fp2 y2, subR fp1 y1] Tryz_mixed (J := ?_)
   refine Mz (J := ?_)
   refine Mt [.agg #[.int .i64 (x.index + 1), .slice (lk y1.locks y3).A (lk y1.locks y3).n (lk y1.locks y3).c, .slice y1.pairs.A y1.pairs.n y1.pairs.c, .slice y17.A y17.n y17.c], .agg #[.int .i64 (mGot y1.pairs.xs (mDecode t).1.op.a).1.code, .int .i64 (mGot y1.pairs.xs (mDecode t).1.op.a).1.n, .string (mGot y1.pairs.xs (mDecode t).1.op.a).1.text], .int .i64 0] fun bs w hS => ?_
   have e3 : aFresh y1.abs = y2.xs.map CSession.abs := by unfold aFresh; rw [show y1.abs.index = x.index from hix]; exact hF2.symm
   have e4 : aLocks y1.abs = (lk y1.locks y3).xs.map CLock.abs := by unfold aLocks; rw [e3]; exact hF3.symm
   have hs : mStep x.abs (mDecode t).1 = _ := (congrArg (fun q => mStep q (mDecode t).1) hF1).symm.trans (step_do e3 e4 h5 h6 (by rw [show y1.abs.index = x.index from hix]; exact h7))
   rw [show y1.abs.index = x.index from hix] at hs
   have hmD : mDo ((lk y1.locks y3).xs.map CLock.abs) y1.pairs.xs (mDecode t).1.client (mDecode t).1.op = ((lk y1.locks y3).xs.map CLock.abs, y1.pairs.xs, (mGot y1.pairs.xs (mDecode t).1.op.a).1) := by unfold mDo; rw [if_neg (by omega), if_neg (by omega), if_neg (by omega), if_pos h12]
   rw [show y1.abs.pairs = y1.pairs.xs from rfl, hmD] at hs
   have hm := apply_ok h3 (by show ¬ _ ≤ x.index; omega) h4 hs
   refine ⟨(⟨x.index + 1, (lk y1.locks y3), y1.pairs, y17⟩ : CState), ?_, ?_, hS.outS (y := (⟨x.index + 1, (lk y1.locks y3), y1.pairs, y17⟩ : CState)) ⟨(lk_out (And.left (allR_sub (y := y1) (.tail _ (.tail _ (.tail _ (.tail _ (.head _))))) (hS.res _ (.tail _ (.tail _ (.tail _ (.tail _ (.head _)))))))) (.tail _ (.tail _ (.head _))) hS.res), (And.left (And.right (allR_sub (y := y1) (.tail _ (.tail _ (.tail _ (.tail _ (.head _))))) (hS.res _ (.tail _ (.tail _ (.tail _ (.tail _ (.head _))))))))), (allR_sub (y := y17) (.head _) (hS.res _ (.head _)))⟩⟩
   · rw [hm] <;> rfl
   · rw [hm]
     show (⟨_, (lk y1.locks y3).xs.map CLock.abs, y1.pairs.xs, y17.xs.map CSession.abs⟩ : DState) = _
     rw [hF17, hF9] <;> rfl
 refine Md ((mWho ((lk y1.locks y3).xs.map CLock.abs) (mDecode t).1.op.a).1 = (mDecode t).1.client) (T := fun h13 => ?_) (F := fun h13 => ?_)
 rotate_left
 · refine Mi (pR (x.index + 1)) (J := ?_)
   refine Mu (σ := Sl CSession) (v := fun y21 => .tuple #[.slice y21.A y21.n y21.c, .int .i64 (mKeep (y9.xs.map CSession.abs) (x.index + 1) (mDecode t).1.client (mDecode t).1.seq (⟨10, (mWho ((lk y1.locks y3).xs.map CLock.abs) (mDecode t).1.op.a).1, emp⟩ : DReply)).2]) (F := fun y21 => y21.xs.map CSession.abs = (mKeep (y9.xs.map CSession.abs) (x.index + 1) (mDecode t).1.client (mDecode t).1.seq (⟨10, (mWho ((lk y1.locks y3).xs.map CLock.abs) (mDecode t).1.op.a).1, emp⟩ : DReply)).1) Tryz.call42 (fun bs w hS => ref_KeptOf y9 (x.index + 1) (mDecode t).1.client (mDecode t).1.seq (⟨10, (mWho ((lk y1.locks y3).xs.map CLock.abs) (mDecode t).1.op.a).1, emp⟩ : DReply) w (hS.res _ (.head _)) (by unfold inR; omega) (by unfold inR; omega) (by first | assumption | omega | (simp only [emp_size]; omega))) (J := ?_)
   rintro fp21 y21 hF21 hok21
   refine Mi (pR (x.index + 1)) (J := ?_)
   refine Mda 5 [] [1, 2] [subR fp21 y21, subR fp9 y9, lkR y3, subR fp2 y2, subR fp1 y1] Tryz_mixed (J := ?_)
   refine Mz (J := ?_)
   refine Mt [.agg #[.int .i64 (x.index + 1), .slice (lk y1.locks y3).A (lk y1.locks y3).n (lk y1.locks y3).c, .slice y1.pairs.A y1.pairs.n y1.pairs.c, .slice y21.A y21.n y21.c], .agg #[.int .i64 10, .int .i64 (mWho ((lk y1.locks y3).xs.map CLock.abs) (mDecode t).1.op.a).1, .string emp], .int .i64 0] fun bs w hS => ?_
   have e3 : aFresh y1.abs = y2.xs.map CSession.abs := by unfold aFresh; rw [show y1.abs.index = x.index from hix]; exact hF2.symm
   have e4 : aLocks y1.abs = (lk y1.locks y3).xs.map CLock.abs := by unfold aLocks; rw [e3]; exact hF3.symm
   have hs : mStep x.abs (mDecode t).1 = _ := (congrArg (fun q => mStep q (mDecode t).1) hF1).symm.trans (step_do e3 e4 h5 h6 (by rw [show y1.abs.index = x.index from hix]; exact h7))
   rw [show y1.abs.index = x.index from hix] at hs
   have hmD : mDo ((lk y1.locks y3).xs.map CLock.abs) y1.pairs.xs (mDecode t).1.client (mDecode t).1.op = ((lk y1.locks y3).xs.map CLock.abs, y1.pairs.xs, ⟨10, (mWho ((lk y1.locks y3).xs.map CLock.abs) (mDecode t).1.op.a).1, emp⟩) := by unfold mDo; rw [if_neg (by omega), if_neg (by omega), if_neg (by omega), if_neg (by omega), if_pos (.inl h13)]
   rw [show y1.abs.pairs = y1.pairs.xs from rfl, hmD] at hs
   have hm := apply_ok h3 (by show ¬ _ ≤ x.index; omega) h4 hs
   refine ⟨(⟨x.index + 1, (lk y1.locks y3), y1.pairs, y21⟩ : CState), ?_, ?_, hS.outS (y := (⟨x.index + 1, (lk y1.locks y3), y1.pairs, y21⟩ : CState)) ⟨(lk_out (And.left (allR_sub (y := y1) (.tail _ (.tail _ (.tail _ (.tail _ (.head _))))) (hS.res _ (.tail _ (.tail _ (.tail _ (.tail _ (.head _)))))))) (.tail _ (.tail _ (.head _))) hS.res), (And.left (And.right (allR_sub (y := y1) (.tail _ (.tail _ (.tail _ (.tail _ (.head _))))) (hS.res _ (.tail _ (.tail _ (.tail _ (.tail _ (.head _))))))))), (allR_sub (y := y21) (.head _) (hS.res _ (.head _)))⟩⟩
   · rw [hm] <;> rfl
   · rw [hm]
     show (⟨_, (lk y1.locks y3).xs.map CLock.abs, y1.pairs.xs, y21.xs.map CSession.abs⟩ : DState) = _
     rw [hF21, hF9] <;> rfl
 refine Md ((mWho ((lk y1.locks y3).xs.map CLock.abs) (mDecode t).1.op.a).2.1 = (mDecode t).1.op.n) (T := fun h14 => ?_) (F := fun h14 => ?_)
 rotate_left
 · refine Mi (pR (x.index + 1)) (J := ?_)
   refine Mu (σ := Sl CSession) (v := fun y20 => .tuple #[.slice y20.A y20.n y20.c, .int .i64 (mKeep (y9.xs.map CSession.abs) (x.index + 1) (mDecode t).1.client (mDecode t).1.seq (⟨10, (mWho ((lk y1.locks y3).xs.map CLock.abs) (mDecode t).1.op.a).1, emp⟩ : DReply)).2]) (F := fun y20 => y20.xs.map CSession.abs = (mKeep (y9.xs.map CSession.abs) (x.index + 1) (mDecode t).1.client (mDecode t).1.seq (⟨10, (mWho ((lk y1.locks y3).xs.map CLock.abs) (mDecode t).1.op.a).1, emp⟩ : DReply)).1) Tryz.call42 (fun bs w hS => ref_KeptOf y9 (x.index + 1) (mDecode t).1.client (mDecode t).1.seq (⟨10, (mWho ((lk y1.locks y3).xs.map CLock.abs) (mDecode t).1.op.a).1, emp⟩ : DReply) w (hS.res _ (.head _)) (by unfold inR; omega) (by unfold inR; omega) (by first | assumption | omega | (simp only [emp_size]; omega))) (J := ?_)
   rintro fp20 y20 hF20 hok20
   refine Mi (pR (x.index + 1)) (J := ?_)
   refine Mda 5 [] [1, 2] [subR fp20 y20, subR fp9 y9, lkR y3, subR fp2 y2, subR fp1 y1] Tryz_mixed (J := ?_)
   refine Mz (J := ?_)
   refine Mt [.agg #[.int .i64 (x.index + 1), .slice (lk y1.locks y3).A (lk y1.locks y3).n (lk y1.locks y3).c, .slice y1.pairs.A y1.pairs.n y1.pairs.c, .slice y20.A y20.n y20.c], .agg #[.int .i64 10, .int .i64 (mWho ((lk y1.locks y3).xs.map CLock.abs) (mDecode t).1.op.a).1, .string emp], .int .i64 0] fun bs w hS => ?_
   have e3 : aFresh y1.abs = y2.xs.map CSession.abs := by unfold aFresh; rw [show y1.abs.index = x.index from hix]; exact hF2.symm
   have e4 : aLocks y1.abs = (lk y1.locks y3).xs.map CLock.abs := by unfold aLocks; rw [e3]; exact hF3.symm
   have hs : mStep x.abs (mDecode t).1 = _ := (congrArg (fun q => mStep q (mDecode t).1) hF1).symm.trans (step_do e3 e4 h5 h6 (by rw [show y1.abs.index = x.index from hix]; exact h7))
   rw [show y1.abs.index = x.index from hix] at hs
   have hmD : mDo ((lk y1.locks y3).xs.map CLock.abs) y1.pairs.xs (mDecode t).1.client (mDecode t).1.op = ((lk y1.locks y3).xs.map CLock.abs, y1.pairs.xs, ⟨10, (mWho ((lk y1.locks y3).xs.map CLock.abs) (mDecode t).1.op.a).1, emp⟩) := by unfold mDo; rw [if_neg (by omega), if_neg (by omega), if_neg (by omega), if_neg (by omega), if_pos (.inr h14)]
   rw [show y1.abs.pairs = y1.pairs.xs from rfl, hmD] at hs
   have hm := apply_ok h3 (by show ¬ _ ≤ x.index; omega) h4 hs
   refine ⟨(⟨x.index + 1, (lk y1.locks y3), y1.pairs, y20⟩ : CState), ?_, ?_, hS.outS (y := (⟨x.index + 1, (lk y1.locks y3), y1.pairs, y20⟩ : CState)) ⟨(lk_out (And.left (allR_sub (y := y1) (.tail _ (.tail _ (.tail _ (.tail _ (.head _))))) (hS.res _ (.tail _ (.tail _ (.tail _ (.tail _ (.head _)))))))) (.tail _ (.tail _ (.head _))) hS.res), (And.left (And.right (allR_sub (y := y1) (.tail _ (.tail _ (.tail _ (.tail _ (.head _))))) (hS.res _ (.tail _ (.tail _ (.tail _ (.tail _ (.head _))))))))), (allR_sub (y := y20) (.head _) (hS.res _ (.head _)))⟩⟩
   · rw [hm] <;> rfl
   · rw [hm]
     show (⟨_, (lk y1.locks y3).xs.map CLock.abs, y1.pairs.xs, y20.xs.map CSession.abs⟩ : DState) = _
     rw [hF20, hF9] <;> rfl
 refine Mu Tryz.call41 (fun bs w hS => ref_SetOf y1.pairs (mDecode t).1.op.a (mDecode t).1.op.b w (And.left (And.right (hS.res _ (.tail _ (.tail _ (.tail _ (.head _))))))) hcb5 hcb6) (J := ?_)
 rintro fp18 y18 hF18 hok18
 refine Mi (pR (x.index + 1)) (J := ?_)
 refine Mu (σ := Sl CSession) (v := fun y19 => .tuple #[.slice y19.A y19.n y19.c, .int .i64 (mKeep (y9.xs.map CSession.abs) (x.index + 1) (mDecode t).1.client (mDecode t).1.seq (mPSet y1.pairs.xs (mDecode t).1.op.a (mDecode t).1.op.b).2.1).2]) (F := fun y19 => y19.xs.map CSession.abs = (mKeep (y9.xs.map CSession.abs) (x.index + 1) (mDecode t).1.client (mDecode t).1.seq (mPSet y1.pairs.xs (mDecode t).1.op.a (mDecode t).1.op.b).2.1).1) (vs := fun bs => [.slice y9.A y9.n y9.c, .int .i64 (x.index + 1), .int .i64 (mDecode t).1.client, .int .i64 (mDecode t).1.seq, .agg #[.int .i64 ((mPSet y1.pairs.xs (mDecode t).1.op.a (mDecode t).1.op.b).2.1).code, .int .i64 ((mPSet y1.pairs.xs (mDecode t).1.op.a (mDecode t).1.op.b).2.1).n, .string ((mPSet y1.pairs.xs (mDecode t).1.op.a (mDecode t).1.op.b).2.1).text]]) Tryz.call42 (fun bs w hS => ref_KeptOf y9 (x.index + 1) (mDecode t).1.client (mDecode t).1.seq (mPSet y1.pairs.xs (mDecode t).1.op.a (mDecode t).1.op.b).2.1 w (hS.res _ (.tail _ (.head _))) (by unfold inR; omega) (by unfold inR; omega) (by rw [mPSet_text]; exact Nat.zero_le _)) (J := ?_)
 rintro fp19 y19 hF19 hok19
 refine Mi (pR (x.index + 1)) (J := ?_)
 refine Mda 5 [] [1, 2] [subR fp19 y19, subR fp18 y18, subR fp9 y9, lkR y3, subR fp2 y2, subR fp1 y1] Tryz_mixed (J := ?_)
 refine Mz (J := ?_)
 refine Mt [.agg #[.int .i64 (x.index + 1), .slice (lk y1.locks y3).A (lk y1.locks y3).n (lk y1.locks y3).c, .slice y18.A y18.n y18.c, .slice y19.A y19.n y19.c], .agg #[.int .i64 ((mPSet y1.pairs.xs (mDecode t).1.op.a (mDecode t).1.op.b).2.1).code, .int .i64 ((mPSet y1.pairs.xs (mDecode t).1.op.a (mDecode t).1.op.b).2.1).n, .string ((mPSet y1.pairs.xs (mDecode t).1.op.a (mDecode t).1.op.b).2.1).text], .int .i64 0] fun bs w hS => ?_
 have e3 : aFresh y1.abs = y2.xs.map CSession.abs := by unfold aFresh; rw [show y1.abs.index = x.index from hix]; exact hF2.symm
 have e4 : aLocks y1.abs = (lk y1.locks y3).xs.map CLock.abs := by unfold aLocks; rw [e3]; exact hF3.symm
 have hs : mStep x.abs (mDecode t).1 = _ := (congrArg (fun q => mStep q (mDecode t).1) hF1).symm.trans (step_do e3 e4 h5 h6 (by rw [show y1.abs.index = x.index from hix]; exact h7))
 rw [show y1.abs.index = x.index from hix] at hs
 have hmD : mDo ((lk y1.locks y3).xs.map CLock.abs) y1.pairs.xs (mDecode t).1.client (mDecode t).1.op = ((lk y1.locks y3).xs.map CLock.abs, (mPSet y1.pairs.xs (mDecode t).1.op.a (mDecode t).1.op.b).1, (mPSet y1.pairs.xs (mDecode t).1.op.a (mDecode t).1.op.b).2.1) := by unfold mDo; rw [if_neg (by omega), if_neg (by omega), if_neg (by omega), if_neg (by omega), if_neg (by rintro (h | h); exact h h13; exact h h14)]
 rw [show y1.abs.pairs = y1.pairs.xs from rfl, hmD] at hs
 have hm := apply_ok h3 (by show ¬ _ ≤ x.index; omega) h4 hs
 refine ⟨(⟨x.index + 1, (lk y1.locks y3), y18, y19⟩ : CState), ?_, ?_, hS.outS (y := (⟨x.index + 1, (lk y1.locks y3), y18, y19⟩ : CState)) ⟨(lk_out (And.left (allR_sub (y := y1) (.tail _ (.tail _ (.tail _ (.tail _ (.tail _ (.head _)))))) (hS.res _ (.tail _ (.tail _ (.tail _ (.tail _ (.tail _ (.head _))))))))) (.tail _ (.tail _ (.tail _ (.head _)))) hS.res), (allR_sub (y := y18) (.tail _ (.head _)) (hS.res _ (.tail _ (.head _)))), (allR_sub (y := y19) (.head _) (hS.res _ (.head _)))⟩⟩
 · rw [hm] <;> rfl
 · rw [hm]
   show (⟨_, (lk y1.locks y3).xs.map CLock.abs, y18.xs, y19.xs.map CSession.abs⟩ : DState) = _
   rw [hF18, hF19, hF9] <;> rfl

theorem law_MachineApplies {B : Nat → Prop} (x : CState) (t : ByteArray) (w : World) (hx : Rds.sub B w x) (ht : t.size ≤ 9223372036854775807) (hsm : Rds.small x) : Calls Tryz.prog 3 #[.agg #[.int .i64 x.index, .slice x.locks.A x.locks.n x.locks.c, .slice x.pairs.A x.pairs.n x.pairs.c, .slice x.sessions.A x.sessions.n x.sessions.c], .string t] w fun e w' => e = .returned (.bool true) ∧ Kp [] w w' := by
 have okx := Rds.okof hx
 refine M0 Tryz.func3 (J := ?_)
 refine Mu Tryz.call6 (fun bs w hS => ref_StateCopy x w (Rds.kp hx hS.kp) hsm) (J := ?_)
 rintro fp1 y1 hF1 hok1
 refine Mu Tryz.call7 (fun bs w hS => machine_Apply y1 t w (hS.res _ (.head _)) ht) (J := ?_)
 rintro fp2 y2 hF2 hok2
 refine Mu Tryz.call8 (fun bs w hS => ref_AppliedOf x t w (Rds.kp hx hS.kp) ht) (J := ?_)
 rintro fp3 y3 hF3 hok3
 refine Mi (pG [(30, .val (.bool ((decide (((mApply y1.abs t).2.1).code = ((mApply x.abs t).2.1).code)) && ((decide (((mApply y1.abs t).2.1).n = ((mApply x.abs t).2.1).n)) && ((decide (((mApply y1.abs t).2.1).text = ((mApply x.abs t).2.1).text)) && true)))))] (oc ((eq_agg (by kernel_rfl) (by kernel_rfl)) : ∀ w, (do eqGuard .eql 30 (.tmp 28) (.tmp 29) (.agg #[.int .i64 ((mApply y1.abs t).2.1).code, .int .i64 ((mApply y1.abs t).2.1).n, .string ((mApply y1.abs t).2.1).text]) (.agg #[.int .i64 ((mApply x.abs t).2.1).code, .int .i64 ((mApply x.abs t).2.1).n, .string ((mApply x.abs t).2.1).text]); binOp .eql 30 (.agg #[.int .i64 ((mApply y1.abs t).2.1).code, .int .i64 ((mApply y1.abs t).2.1).n, .string ((mApply y1.abs t).2.1).text]) (.agg #[.int .i64 ((mApply x.abs t).2.1).code, .int .i64 ((mApply x.abs t).2.1).n, .string ((mApply x.abs t).2.1).text]) : Sem Value).run Tryz.prog w = .ok (.bool ((decide (((mApply y1.abs t).2.1).code = ((mApply x.abs t).2.1).code)) && ((decide (((mApply y1.abs t).2.1).n = ((mApply x.abs t).2.1).n)) && ((decide (((mApply y1.abs t).2.1).text = ((mApply x.abs t).2.1).text)) && true)))) w) on)) (J := ?_)
 refine Mb ((decide (((mApply y1.abs t).2.1).code = ((mApply x.abs t).2.1).code)) && ((decide (((mApply y1.abs t).2.1).n = ((mApply x.abs t).2.1).n)) && ((decide (((mApply y1.abs t).2.1).text = ((mApply x.abs t).2.1).text)) && true))) (T := fun h1 => ?_) (F := fun h1 => ?_)
 rotate_left
 · exfalso; first | (simp at h1; done) | (rw [hF1] at h1; simp at h1; done)
 refine Md ((mApply y1.abs t).2.2 = (mApply x.abs t).2.2) (T := fun h2 => ?_) (F := fun h2 => ?_)
 rotate_left
 · exfalso; first | (simp at h2; done) | (rw [hF1] at h2; simp at h2; done)
 refine Mp Tryz.call9 (fun bs w hS => same_state y2 y3 w (hS.res _ (.tail _ (.head _))) (hS.res _ (.head _)) (by rw [hF2, hF3, hF1])) (J := ?_)
 refine Mq 41 true rfl (J := ?_)
 refine Mp Tryz.call9 (fun bs w hS => same_state y1 x w (hS.res _ (.tail _ (.tail _ (.head _)))) (Rds.kp hx hS.kp) hF1) (J := ?_)
 refine Mt [.bool true] fun bs w hS => ?_
 refine ⟨?_, hS.kp⟩
 simp [retOf, den]

end Go.Proofs.YtbjakddkfgjkaaaGreat.W
